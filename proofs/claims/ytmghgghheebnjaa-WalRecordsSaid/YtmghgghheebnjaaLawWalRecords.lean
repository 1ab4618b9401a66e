/- The law WalRecords returns true for every number, every list of pages and every list of rows of bytes, and leaves its arguments as they were; no further condition. (Merged by merge.py.) -/
import Derived.Test.YtmghgghheebnjaaDisR
import Derived.Deep.Strs
import Derived.Lib.SmallJoins
import Derived.SizedLaws
import Derived.Test.YtmghgghheebnjaaPWalRecordsx0
import Derived.Test.YtmghgghheebnjaaWalA
import Derived.Test.YtmghgghheebnjaaWalR
import Derived.Test.YtmghgghheebnjaaQRec
import Derived.Test.YtmghgghheebnjaaNumR
import Derived.Test.YtmghgghheebnjaaRows
import Derived.WalkKit
import Derived.ProofKit
import Derived.OpenShut
import Derived.ShutString
import Derived.ChangeOld
import Derived.Below
import Derived.Carry
namespace Go.Proofs.Ytmghgghheebnjaa.Dis
open Go.RowKit Go.ChangeShapes Go.WideShapes Go.ChangeAt Go.Deep Go.Joins Go.Proofs.YtmghgghheebnjaaW.PrintWords
set_option linter.unusedVariables false
section
variable {H : Type} {enc : TypeId × Value → H} {P : Program} {w : World} {base : Nat} {spare : Nat → Bool} {held : Bool}
theorem slice_K {α : Type} [Inhabited α] (d : Kd α) {Q : α → DataW H → Prop} {t e : TypeId} {fuel : Nat} {cs : List Value} {x : DataW H × List MemPlace} (ht : P.underlying t = some (.slice e)) (hc : P.cellsOf e = d.sz)
    (hel : ∀ m cs x, DataW.trod enc P w base spare held m e cs = some x → ∃ a, d.K w a cs ∧ Q a x.1)
    (h : DataW.trod enc P w base spare held fuel t cs = some x) :
    ∃ (A : Option Addr) (c : Nat) (l : List α) (el sp : List (DataW H)), cs = [.slice A l.length c] ∧ l.length ≤ c ∧ Kd.C d w A l.length l ∧ el.length = l.length ∧ (∀ a ∈ l, ∃ y ∈ el, Q a y) ∧ (x.1 = .nil ∧ l = [] ∨ x.1 = .slice el sp) := by
  rcases DataW.trod_slice ht h with ⟨rfl, rfl⟩ | ⟨a, len, cap, elems, rest, n, _, rfl, rfl, hb, hl, hm, hlen, hel', _, _⟩
  · exact ⟨none, 0, [], [], [], rfl, Nat.le_refl _, ⟨rfl, by simp, fun h => absurd h (by simp)⟩, rfl, fun a ha => absurd ha (by simp), .inl ⟨rfl, rfl⟩⟩
  · have each : ∀ i, i < len → ∃ p, (∃ cs', w.cells? base (a.add (i * d.sz)) d.sz = some cs' ∧ d.K w p cs') ∧ ∃ y ∈ elems.map (·.1), Q p y := fun i hi => by
      have h1 := hel' i hi
      have hi' : i < elems.length := by omega
      rw [List.getElem?_eq_getElem hi', Option.bind_eq_some_iff, hc] at h1
      obtain ⟨cs', h2, h3⟩ := h1
      obtain ⟨p, hp, hq⟩ := hel _ _ _ h3
      exact ⟨p, ⟨cs', h2, hp⟩, _, List.mem_map.2 ⟨_, List.getElem_mem hi', rfl⟩, hq⟩
    obtain ⟨f, hf⟩ := choose_lt each
    refine ⟨some a, cap, (List.range len).map f, elems.map (·.1), rest.map (·.1), by simp, by simpa using hl, ⟨rfl, by simp only [List.length_map, List.length_range]; simp only [maxLen] at hm; omega, fun _ => ⟨a, rfl, fun j p hj => ?_⟩⟩, by simp [hlen], fun p hp => ?_, .inr rfl⟩
    · obtain ⟨hj1, hj2⟩ := List.getElem?_eq_some_iff.1 hj
      simp only [List.length_map, List.length_range] at hj1
      rw [List.getElem_map, List.getElem_range] at hj2
      subst hj2
      obtain ⟨⟨cs', h2, h3⟩, _⟩ := hf j hj1
      refine ⟨cs', d.K_len h3, h3, fun i u hi => ?_⟩
      obtain ⟨hi1, hi2⟩ := List.getElem?_eq_some_iff.1 hi
      have h4 := (World.cells?_some h2).2.2 i (by rw [← d.K_len h3]; exact hi1)
      rw [Go.Proofs.YtmghgghheebnjaaW.PrintWords.add_add] at h4
      rw [h4, hi]
    · obtain ⟨j, hj, rfl⟩ := List.mem_map.1 hp
      exact (hf j (List.mem_range.1 hj)).2
theorem weights_mem {t : TypeId} : ∀ {el : List (DataW H)} {y : DataW H}, y ∈ el → ∀ n ∈ y.weights P t, n ∈ DataW.weightsAll P t el
  | d :: r, y, hy, n, hn => by
    simp only [DataW.weightsAll, List.mem_append]
    rcases List.mem_cons.1 hy with rfl | hy
    · exact .inl hn
    · exact .inr (weights_mem hy n hn)
theorem slice_sized {R : Nat} {t e : TypeId} {el sp : List (DataW H)} (ht : P.underlying t = some (.slice e)) (h : ((DataW.slice el sp).weights P t).all (· ≤ R) = true) :
    el.length * P.bytesOf e ≤ R ∧ ∀ y ∈ el, (y.weights P e).all (· ≤ R) = true := by
  have h' := List.all_eq_true.1 h
  have e1 : (DataW.slice el sp).weights P t = (el.length + sp.length) * P.bytesOf e :: (DataW.weightsAll P e el ++ DataW.weightsAll P e sp) := by simp [DataW.weights, ht]
  rw [e1] at h'
  refine ⟨?_, fun y hy => List.all_eq_true.2 fun n hn => h' n (List.mem_cons_of_mem _ (List.mem_append.2 (.inl (weights_mem hy n hn))))⟩
  have := h' _ List.mem_cons_self
  exact Nat.le_trans (Nat.mul_le_mul_right _ (Nat.le_add_right _ _)) (by simpa using this)
end
section
variable {H : Type} {enc : TypeId × Value → H} {w : World} {base : Nat} {spare : Nat → Bool} {held : Bool}
theorem bytes_K {fuel : Nat} {cs : List Value} {x : DataW H × List MemPlace} (h : DataW.trod enc Try.prog w base spare held fuel 56 cs = some x) :
    ∃ (A : Option Addr) (c : Nat) (l : List Int), cs = [.slice A l.length c] ∧ l.length ≤ c ∧ Kd.C (Kd.int .u8) w A l.length l ∧ OkB l ∧ ∀ R, (x.1.weights Try.prog 56).all (· ≤ R) = true → l.length ≤ R := by
  obtain ⟨A, c, l, el, sp, h1, h2, h3, h4, h5, h6⟩ := slice_K (P := Try.prog) (Kd.int .u8) (Q := fun n _ => 0 ≤ n ∧ n < 256) Try.underlying56 (by kernel_rfl) (fun m cs x hx => by
    obtain ⟨n, rfl, _, hw⟩ := DataW.trod_int Try.underlying5 hx
    have := bounds_u8 hw
    exact ⟨n, rfl, by omega⟩) h
  refine ⟨A, c, l, h1, h2, h3, fun n hn => (h5 n hn).elim fun _ hq => hq.2, fun R hR => ?_⟩
  rcases h6 with ⟨_, rfl⟩ | h6
  · exact Nat.zero_le _
  · rw [h6] at hR
    have := (slice_sized Try.underlying56 hR).1
    rw [show Try.prog.bytesOf 5 = 1 by kernel_rfl, h4] at this
    omega
theorem bools_K {fuel : Nat} {cs : List Value} {x : DataW H × List MemPlace} (h : DataW.trod enc Try.prog w base spare held fuel 44 cs = some x) :
    ∃ (A : Option Addr) (c : Nat) (l : List Bool), cs = [.slice A l.length c] ∧ l.length ≤ c ∧ Kd.C Kd.bool w A l.length l ∧ ∀ R, (x.1.weights Try.prog 44).all (· ≤ R) = true → l.length ≤ R := by
  obtain ⟨A, c, l, el, sp, h1, h2, h3, h4, h5, h6⟩ := slice_K (P := Try.prog) Kd.bool (Q := fun _ _ => True) Try.underlying44 (by kernel_rfl) (fun m cs x hx => by
    obtain ⟨n, rfl, _⟩ := DataW.trod_bool Try.underlying4 hx
    exact ⟨n, rfl, trivial⟩) h
  refine ⟨A, c, l, h1, h2, h3, fun R hR => ?_⟩
  rcases h6 with ⟨_, rfl⟩ | h6
  · exact Nat.zero_le _
  · rw [h6] at hR
    have := (slice_sized Try.underlying44 hR).1
    rw [show Try.prog.bytesOf 4 = 1 by kernel_rfl, h4] at this
    omega
end
end Go.Proofs.Ytmghgghheebnjaa.Dis
namespace Go.Proofs.Ytmghgghheebnjaa.Dis
open Go.RowKit Go.ChangeShapes Go.WideShapes Go.ChangeAt Go.Deep Go.Joins Go.Proofs.YtmghgghheebnjaaW.PrintWords Go.Proofs.Ytmghgghheebnjaa.PWalRecords
set_option linter.unusedVariables false
section
variable {H : Type} {enc : TypeId × Value → H} {w : World} {base : Nat} {spare : Nat → Bool} {held : Bool}
set_option maxRecDepth 100000 in
theorem page_K {m : Nat} {cs : List Value} {x : DataW H × List MemPlace} (h : DataW.trod enc Try.prog w base spare held m 58 cs = some x) : ∃ a : S58, k58.K w a cs ∧ BytesOk a.f1 := by
  obtain ⟨y0, y1, n, rfl, hl, h0, h1⟩ := trod_struct2 Try.underlying58 h
  have hl2 : cs.length = 2 := hl.trans (by kernel_rfl)
  obtain ⟨c0, c1, rfl⟩ : ∃ c0 c1, cs = [c0, c1] := by
    match cs, hl2 with
    | [c0, c1], _ => exact ⟨c0, c1, rfl⟩
  have k3 : Try.prog.cellsOf 3 = 1 := by kernel_rfl
  have k56 : Try.prog.cellsOf 56 = 1 := by kernel_rfl
  simp only [k3, k56, List.drop_zero, List.drop_succ_cons, List.take_succ_cons, List.take_zero] at h0 h1
  obtain ⟨x0, e0, _, w0⟩ := DataW.trod_int Try.underlying3 h0
  obtain ⟨A1, c1', l1, e1, hc1, hC1, ho1, hs1⟩ := bytes_K h1
  exact ⟨⟨x0, l1⟩, ⟨[c0], [c1], rfl, e0, ⟨A1, c1', e1, hc1, hC1⟩⟩, ho1⟩
theorem pages_K {fuel : Nat} {cs : List Value} {x : DataW H × List MemPlace} (h : DataW.trod enc Try.prog w base spare held fuel 23 cs = some x) :
    ∃ (A : Option Addr) (c : Nat) (l : List S58), cs = [.slice A l.length c] ∧ l.length ≤ c ∧ Kd.C k58 w A l.length l ∧ (∀ p ∈ l, BytesOk p.f1) ∧ ∀ R, (x.1.weights Try.prog 23).all (· ≤ R) = true → l.length ≤ R := by
  haveI : Inhabited S58 := ⟨z58⟩
  obtain ⟨A, c, l, el, sp, h1, h2, h3, h4, h5, h6⟩ := slice_K (P := Try.prog) k58 (Q := fun n _ => BytesOk n.f1) Try.underlying23 (by kernel_rfl) (fun m cs x hx => page_K hx) h
  refine ⟨A, c, l, h1, h2, h3, fun n hn => (h5 n hn).elim fun _ hq => hq.2, fun R hR => ?_⟩
  rcases h6 with ⟨_, rfl⟩ | h6
  · exact Nat.zero_le _
  · rw [h6] at hR
    have := (slice_sized Try.underlying23 hR).1
    rw [show Try.prog.bytesOf 58 = 32 by kernel_rfl, h4] at this
    omega
theorem rows_K {fuel : Nat} {cs : List Value} {x : DataW H × List MemPlace} (h : DataW.trod enc Try.prog w base spare held fuel 24 cs = some x) :
    ∃ (A : Option Addr) (c : Nat) (l : List (List Int)), cs = [.slice A l.length c] ∧ l.length ≤ c ∧ Kd.C (Kd.slice 5 (Kd.int .u8)) w A l.length l ∧ (∀ r ∈ l, BytesOk r) ∧ ∀ R, (x.1.weights Try.prog 24).all (· ≤ R) = true → l.length ≤ R := by
  obtain ⟨A, c, l, el, sp, h1, h2, h3, h4, h5, h6⟩ := slice_K (P := Try.prog) (Kd.slice 5 (Kd.int .u8)) (Q := fun n _ => BytesOk n) Try.underlying24 (by kernel_rfl) (fun m cs x hx => by
    obtain ⟨A1, c1', l1, e1, hc1, hC1, ho1, hs1⟩ := bytes_K hx
    exact ⟨l1, ⟨A1, c1', e1, hc1, hC1⟩, ho1⟩) h
  refine ⟨A, c, l, h1, h2, h3, fun n hn => (h5 n hn).elim fun _ hq => hq.2, fun R hR => ?_⟩
  rcases h6 with ⟨_, rfl⟩ | h6
  · exact Nat.zero_le _
  · rw [h6] at hR
    have := (slice_sized Try.underlying24 hR).1
    rw [show Try.prog.bytesOf 56 = 24 by kernel_rfl, h4] at this
    omega
end
end Go.Proofs.Ytmghgghheebnjaa.Dis
namespace Go.Proofs.Ytmghgghheebnjaa.Dis
open Go.RowKit Go.Proofs.YtmghgghheebnjaaW.PrintWords Go.Proofs.YtmghgghheebnjaaW.PrintLast Go.Proofs.YtmghgghheebnjaaW.PrintMore
set_option linter.unusedVariables false
set_option linter.unusedSimpArgs false
/-- What has come up: l0, and of the events those that d tells. -/
def lat : Array Bool → List Nat → List Bool → Array Bool
  | l, e :: es, b :: bs => lat (if b then l.setIfInBounds e true else l) es bs
  | l, _, _ => l
/-- One more event done. -/
def on : List Bool → Nat → List Bool
  | _ :: bs, 0 => true :: bs
  | b :: bs, j + 1 => b :: on bs j
  | [], _ => []
def offs : List Bool → Nat
  | [] => 0
  | b :: bs => (if b then 0 else 1) + offs bs
theorem on_offs : ∀ (d : List Bool) (j : Nat), d.getD j true = false → offs (on d j) + 1 = offs d
  | [], j, h => by simp at h
  | b :: bs, 0, h => by
    have : b = false := by simpa using h
    subst this
    show (if true = true then 0 else 1) + offs bs + 1 = (if false = true then 0 else 1) + offs bs
    simp; omega
  | b :: bs, j + 1, h => by
    have := on_offs bs j (by simpa using h)
    show (if b = true then 0 else 1) + offs (on bs j) + 1 = (if b = true then 0 else 1) + offs bs
    omega
theorem on_at : ∀ (d : List Bool) (j : Nat), j < d.length → (on d j).getD j false = true
  | [], j, h => by simp at h
  | b :: bs, 0, h => rfl
  | b :: bs, j + 1, h => by
    have := on_at bs j (by simpa using h)
    simpa [on] using this
theorem on_ne : ∀ (d : List Bool) (j i : Nat), i ≠ j → (on d j).getD i false = d.getD i false
  | [], j, i, _ => rfl
  | b :: bs, 0, 0, h => absurd rfl h
  | b :: bs, 0, i + 1, h => rfl
  | b :: bs, j + 1, 0, h => rfl
  | b :: bs, j + 1, i + 1, h => by
    have := on_ne bs j i (by omega)
    simpa [on] using this
def okLat (md : Region.Mode) (ops : Array Oper) (l0 : Array Bool) (evs : List Nat) (states : List (List Bool)) : Bool :=
  states.all fun d => (offs d == 0) || (!(Region.ready md ops (lat l0 evs d)).isEmpty && (Region.ready md ops (lat l0 evs d)).all fun i =>
    (List.range evs.length).any fun j => evs.getD j 0 == i && !d.getD j true && states.contains (on d j) && lat l0 evs (on d j) == (lat l0 evs d).setIfInBounds i true)
/-- Wherever event j may come up, event k is done. -/
def after (states : List (List Bool)) (j k : Nat) : Bool := states.all fun d => d.getD j true || !states.contains (on d j) || d.getD k false
theorem after_of {states : List (List Bool)} {j k : Nat} (h : after states j k = true) {d : List Bool} (hd : d ∈ states) (hj : d.getD j true = false) (hn : on d j ∈ states) : d.getD k false = true := by
  have := List.all_eq_true.1 h d hd
  simp only [hj, Bool.false_or, Bool.or_eq_true, Bool.not_eq_true'] at this
  rcases this with h1 | h1
  · rw [List.contains_iff_mem.2 hn] at h1; cases h1
  · exact h1
/-- No event is done behind event j. -/
def before (states : List (List Bool)) (j k : Nat) : Bool := states.all fun d => d.getD j true || !states.contains (on d j) || !d.getD k true
theorem before_of {states : List (List Bool)} {j k : Nat} (h : before states j k = true) {d : List Bool} (hd : d ∈ states) (hj : d.getD j true = false) (hn : on d j ∈ states) : d.getD k true = false := by
  have := List.all_eq_true.1 h d hd
  simp only [hj, Bool.false_or, Bool.or_eq_true, Bool.not_eq_true'] at this
  rcases this with h1 | h1
  · rw [List.contains_iff_mem.2 hn] at h1; cases h1
  · exact h1
theorem bit_abs {d : List Bool} {k : Nat} (h1 : d.getD k true = false) (h2 : d.getD k false = true) : False := by
  rw [List.getD_eq_getElem?_getD] at h1 h2
  cases h : d[k]? with
  | none => rw [h] at h1; cases h1
  | some b => rw [h] at h1 h2; rw [show b = false from h1] at h2; cases h2
section
variable {P : Program} {ops : Array Oper} {Q : Exit → Act → World → Prop} {md : Region.Mode} {S : World → Prop}
theorem lattice (l0 : Array Bool) (evs : List Nat) (states : List (List Bool)) (hok : okLat md ops l0 evs states = true) (Inv : List Bool → Act → World → Prop) (fuel : Nat)
    (hstep : ∀ d j, d ∈ states → d.getD j true = false → on d j ∈ states → ∀ a w, S w → Inv d a w → ∀ o, ops[evs.getD j 0]? = some o → ∀ K : Act → World → Prop, Shut (∀ a' w', S w' → Inv (on d j) a' w' → K a' w') → if Region.wanted o (yielded ops a.tmps) = true then Oper.wp P o a w K Q else K (a.put o.dst undef) w)
    (hfin : ∀ d a w, d ∈ states → offs d = 0 → S w → Inv d a w → wpAnyLast P md ops Q S [] fuel (lat l0 evs d) a w) :
    ∀ (m : Nat) (d : List Bool) (a : Act) (w : World), d ∈ states → offs d = m → S w → Inv d a w → wpAnyLast P md ops Q S [] (fuel + m) (lat l0 evs d) a w := by
  intro m
  induction m with
  | zero => intro d a w hd h0 hS hI; exact hfin d a w hd h0 hS hI
  | succ m ih =>
    intro d a w hd hm hS hI
    have h1 := List.all_eq_true.1 hok d hd
    have h0 : (offs d == 0) = false := by rw [hm]; rfl
    rw [h0, Bool.false_or, Bool.and_eq_true] at h1
    obtain ⟨hne, hall⟩ := h1
    refine ⟨fun h => (by rw [h] at hne; simp at hne), fun i hi => ?_⟩
    obtain ⟨j, hj, hj2⟩ := List.any_eq_true.1 (List.all_eq_true.1 hall i hi)
    simp only [Bool.and_eq_true, beq_iff_eq, Bool.not_eq_true'] at hj2
    obtain ⟨⟨⟨e1, e2⟩, e3⟩, e4⟩ := hj2
    have hmem : on d j ∈ states := List.contains_iff_mem.1 e3
    have hofs := on_offs d j e2
    subst e1
    obtain ⟨o, ho⟩ : ∃ o, ops[evs.getD j 0]? = some o := by
      obtain ⟨_, o, ho, _⟩ := mem_ready.1 hi
      exact ⟨o, ho⟩
    refine wpOp_step ho (fun K hK => hstep d j hd e2 hmem a w hS hI o ho K (fun a' w' hS' hI' => hK a' w' ⟨fun _ _ => hS', ?_⟩))
    rw [← e4]
    exact ih (on d j) a' w' hmem (by omega) hS' hI'
/-- The act with the events' values. -/
def putVs : Act → List Tmp → List Value → Act
  | a, t :: ts, v :: vs => putVs (a.put (some t) v) ts vs
  | a, _, _ => a
theorem put_comm (a : Act) (t u : Tmp) (v x : Value) (h : t ≠ u) : (a.put (some t) v).put (some u) x = (a.put (some u) x).put (some t) v := by
  simp only [Act.put]
  rw [Array.setIfInBounds_comm _ _ h]
theorem put_same (a : Act) (t : Tmp) (v x : Value) : (a.put (some t) v).put (some t) x = a.put (some t) x := by
  simp [Act.put]
theorem put_out : ∀ (ts : List Tmp) (vs : List Value) (a : Act) (t : Tmp) (v : Value), t ∉ ts → (putVs a ts vs).put (some t) v = putVs (a.put (some t) v) ts vs
  | [], vs, a, t, v, _ => by cases vs <;> rfl
  | u :: ts, [], a, t, v, _ => rfl
  | u :: ts, x :: vs, a, t, v, h => by
    show (putVs (a.put (some u) x) ts vs).put (some t) v = putVs ((a.put (some t) v).put (some u) x) ts vs
    rw [put_out ts vs _ t v (fun hm => h (List.mem_cons_of_mem _ hm)), put_comm a u t x v (fun e => h (by rw [e]; exact List.mem_cons_self))]
theorem put_set : ∀ (ts : List Tmp) (vs : List Value) (a : Act) (j : Nat) (t : Tmp) (v : Value), ts.Nodup → vs.length = ts.length → ts[j]? = some t → (putVs a ts vs).put (some t) v = putVs a ts (vs.set j v)
  | [], vs, a, j, t, v, _, _, h => by simp at h
  | u :: ts, [], a, j, t, v, _, hl, _ => by simp at hl
  | u :: ts, x :: vs, a, 0, t, v, hn, hl, h => by
    obtain rfl : u = t := by simpa using h
    show (putVs (a.put (some u) x) ts vs).put (some u) v = putVs (a.put (some u) v) ts vs
    rw [put_out ts vs _ u v (List.nodup_cons.1 hn).1, put_same]
  | u :: ts, x :: vs, a, j + 1, t, v, hn, hl, h => put_set ts vs (a.put (some u) x) j t v (List.nodup_cons.1 hn).2 (by simpa using hl) (by simpa using h)
/-- Each event's place is where its operation puts its value; a store puts none. -/
def okDst (ops : Array Oper) (evs : List Nat) (ts : List Tmp) : Bool := (List.range evs.length).all fun j => match ops[evs.getD j 0]?, ts[j]? with
  | some o, some t => o.dst == some t || o.dst == none
  | _, _ => false
def updO (o : Oper) (xs : List Value) (j : Nat) (v : Value) : List Value := if o.dst.isNone then xs else xs.set j v
theorem lattice2 (l0 : Array Bool) (evs : List Nat) (states : List (List Bool)) (ts : List Tmp) (hok : okLat md ops l0 evs states = true) (hdst : okDst ops evs ts = true) (hnd : ts.Nodup) (hlen : states.all (fun d => d.length == evs.length) = true) (F : List Bool → List Value → World → Prop) (fuel : Nat) {a0 : Act}
    (hstep : ∀ j, j < evs.length → ∀ d, d ∈ states → d.getD j true = false → on d j ∈ states → ∀ xs w, xs.length = ts.length → S w → F d xs w → ∀ a, a = putVs a0 ts xs → ∀ o, ops[evs.getD j 0]? = some o → ∀ K : Act → World → Prop, Shut (∀ v w', S w' → F (on d j) (updO o xs j v) w' → K (a.put o.dst v) w') → if Region.wanted o (yielded ops a.tmps) = true then Oper.wp P o a w K Q else K (a.put o.dst undef) w)
    (hfin : ∀ d xs a w, d ∈ states → offs d = 0 → xs.length = ts.length → S w → F d xs w → a = putVs a0 ts xs → wpAnyLast P md ops Q S [] fuel (lat l0 evs d) a w)
    (m : Nat) (d : List Bool) (xs : List Value) (w : World) (hd : d ∈ states) (hm : offs d = m) (hx : xs.length = ts.length) (hS : S w) (hF : F d xs w) : wpAnyLast P md ops Q S [] (fuel + m) (lat l0 evs d) (putVs a0 ts xs) w := by
  refine lattice l0 evs states hok (fun d a w => ∃ xs, xs.length = ts.length ∧ a = putVs a0 ts xs ∧ F d xs w) fuel ?_ ?_ m d _ w hd hm hS ⟨xs, hx, rfl, hF⟩
  · intro d j hd hj hn a w hS ⟨xs, hx, ha, hF⟩ o ho K hK
    have hdl : d.length = evs.length := by simpa using List.all_eq_true.1 hlen d hd
    have hjl : j < evs.length := by
      rcases Nat.lt_or_ge j evs.length with h | h
      · exact h
      · rw [List.getD_eq_getElem?_getD, List.getElem?_eq_none (by omega)] at hj
        cases hj
    have hdt := List.all_eq_true.1 hdst j (List.mem_range.2 hjl)
    rw [ho] at hdt
    obtain ⟨t, ht⟩ : ∃ t, ts[j]? = some t := by
      cases h : ts[j]? with
      | none => rw [h] at hdt; cases hdt
      | some t => exact ⟨t, rfl⟩
    rw [ht] at hdt
    have hod : o.dst = some t ∨ o.dst = none := by simpa using hdt
    refine hstep j hjl d hd hj hn xs w hx hS hF a ha o ho K (fun v w' hS' hF' => ?_)
    rcases hod with hod | hod
    · have hu : updO o xs j v = xs.set j v := by unfold updO; rw [hod]; rfl
      rw [hu] at hF'
      refine hK _ _ hS' ⟨xs.set j v, by rw [List.length_set]; exact hx, ?_, hF'⟩
      rw [hod, ha]
      exact put_set ts xs a0 j t v hnd hx ht
    · have hu : updO o xs j v = xs := by unfold updO; rw [hod]; rfl
      rw [hu] at hF'
      refine hK _ _ hS' ⟨xs, hx, ?_, hF'⟩
      rw [hod, ha]
      rfl
  · intro d a w hd h0 hS ⟨xs, hx, ha, hF⟩
    exact hfin d xs a w hd h0 hx hS hF ha
theorem offs_no : ∀ n, offs (List.replicate n false) = n
  | 0 => rfl
  | n + 1 => by
    show (if false = true then 0 else 1) + offs (List.replicate n false) = n + 1
    rw [offs_no n]
    simp
    omega
theorem put_self (a : Act) (t : Tmp) : a.put (some t) (a.tmps.getD t undef) = a := by
  obtain ⟨tmps, defers⟩ := a
  simp only [Act.put]
  congr 1
  apply Array.ext_getElem?
  intro i
  rw [Array.getElem?_setIfInBounds]
  by_cases h : t = i
  · subst h
    rw [if_pos rfl]
    by_cases h2 : t < tmps.size
    · rw [if_pos h2]; simp [h2]
    · rw [if_neg h2]; exact (Array.getElem?_eq_none (Nat.le_of_not_lt h2)).symm
  · rw [if_neg h]
theorem putVs_self : ∀ (ts : List Tmp) (a : Act), putVs a ts (ts.map fun t => a.tmps.getD t undef) = a
  | [], a => rfl
  | t :: ts, a => by
    show putVs (a.put (some t) (a.tmps.getD t undef)) ts (ts.map fun t => a.tmps.getD t undef) = a
    rw [put_self]
    exact putVs_self ts a
theorem lattice3 (l0 : Array Bool) (evs : List Nat) (states : List (List Bool)) (ts : List Tmp) (hok : okLat md ops l0 evs states = true) (hdst : okDst ops evs ts = true) (hnd : ts.Nodup) (hlen : states.all (fun d => d.length == evs.length) = true)
    (hfull : states.all (fun d => !(offs d == 0) || d == List.replicate evs.length true) = true) (hst : states.contains (List.replicate evs.length false) = true) (F : List Bool → List Value → World → Prop) (fuel : Nat) {n : Nat} {l : Array Bool} {a : Act} {w : World} (hn : n = fuel + evs.length) (hl : (lat l0 evs (List.replicate evs.length false) == l) = true)
    (hS : S w) (hF : ∀ xs, xs.length = ts.length → F (List.replicate evs.length false) xs w)
    (hstep : ∀ j, j < evs.length → ∀ d, d ∈ states → d.getD j true = false → on d j ∈ states → ∀ xs w, xs.length = ts.length → S w → F d xs w → ∀ a', a' = putVs a ts xs → ∀ o, ops[evs.getD j 0]? = some o → ∀ K : Act → World → Prop, Shut (∀ v w', S w' → F (on d j) (updO o xs j v) w' → K (a'.put o.dst v) w') → if Region.wanted o (yielded ops a'.tmps) = true then Oper.wp P o a' w K Q else K (a'.put o.dst undef) w)
    (hfin : ∀ xs w', xs.length = ts.length → S w' → F (List.replicate evs.length true) xs w' → ∀ a', a' = putVs a ts xs → wpAnyLast P md ops Q S [] fuel (lat l0 evs (List.replicate evs.length true)) a' w') : wpAnyLast P md ops Q S [] n l a w := by
  subst hn
  rw [← eq_of_beq hl]
  have h := lattice2 (a0 := a) l0 evs states ts hok hdst hnd hlen F fuel hstep (fun d xs a' w' hd h0 hx hS hF ha => by
    have := List.all_eq_true.1 hfull d hd
    rw [h0] at this
    have hd2 : d = List.replicate evs.length true := by simpa using this
    subst hd2
    exact hfin xs w' hx hS hF a' ha) evs.length (List.replicate evs.length false) (ts.map fun t => a.tmps.getD t undef) w (List.contains_iff_mem.1 hst) (offs_no _) (by simp) hS (hF _ (by simp))
  rw [putVs_self] at h
  exact h
end
end Go.Proofs.Ytmghgghheebnjaa.Dis
namespace Go.Proofs.Ytmghgghheebnjaa.Dis
open Go.RowKit Go.Proofs.YtmghgghheebnjaaW.PrintWords Go.Proofs.YtmghgghheebnjaaW.PrintLast Go.Proofs.YtmghgghheebnjaaW.PrintMore Go.Maps Go.Proofs.Ytmghgghheebnjaa.PWalRecords
set_option linter.unusedVariables false
set_option linter.unusedSimpArgs false
theorem w64_nat (n : Nat) (h : n ≤ 9223372036854775807) : wrap64 (n : Int) = (n : Int) := w64_in _ (by omega)
theorem num_l0 (l : List Int) (h8 : l.length ≤ 8) (hb : BytesOk l) : ∀ (m i K : Nat), i + m = l.length → m < K → aukletref20_Num.l0 K l (numB (l.take i)) (i : Int) = some (numB l) := by
  intro m
  induction m with
  | zero =>
    intro i K hi hK
    obtain ⟨K', rfl⟩ : ∃ K', K = K' + 1 := ⟨K - 1, by omega⟩
    unfold aukletref20_Num.l0
    rw [if_neg (by omega), List.take_of_length_le (by omega)]
  | succ m ih =>
    intro i K hi hK
    obtain ⟨K', rfl⟩ : ∃ K', K = K' + 1 := ⟨K - 1, by omega⟩
    unfold aukletref20_Num.l0
    rw [if_pos (by omega), if_pos (by omega)]
    have hg : i < l.length := by omega
    have e1 : rd l (i : Int) = l[i] := by
      show l.getD ((i : Int)).toNat 0 = _
      rw [Int.toNat_natCast, List.getD_eq_getElem?_getD, List.getElem?_eq_getElem hg]
      rfl
    have e2 : l.take (i + 1) = l.take i ++ [l[i]] := (List.take_append_getElem hg).symm
    have b1 := numB_bound (hb.take i)
    have b2 := hb _ (List.getElem_mem hg)
    have b3 : (256 : Int) ^ (l.take i).length ≤ 256 ^ 7 := by
      have h : (l.take i).length ≤ 7 := by rw [List.length_take]; omega
      generalize (l.take i).length = m at h
      rcases (by omega : m = 0 ∨ m = 1 ∨ m = 2 ∨ m = 3 ∨ m = 4 ∨ m = 5 ∨ m = 6 ∨ m = 7) with rfl | rfl | rfl | rfl | rfl | rfl | rfl | rfl <;> decide
    have e3 : (256 : Int) ^ 7 = 72057594037927936 := by decide
    rw [e1, u64_in (show 0 ≤ numB (l.take i) * 256 by omega) (by omega), u64_in b2.1 (by omega), u64_in (by omega) (by omega), ← numB_snoc, ← e2, show wrap64 ((i : Int) + 1) = ((i + 1 : Nat) : Int) from (w64_in _ (by omega)).trans (by omega)]
    exact ih (i + 1) K' (by omega) (by omega)
theorem num_f {l : List Int} (h8 : l.length ≤ 8) (hb : BytesOk l) {K : Nat} (hK : 8 < K) : aukletref20_Num.f K l = some (numB l) := by
  have := num_l0 l h8 hb l.length 0 K (by omega) (by omega)
  rw [List.take_zero] at this
  exact this
theorem set_rep : ∀ (m : Nat) (t : List Int) (v : Int), (List.replicate (m + 1) 0 ++ t).set m v = List.replicate m 0 ++ v :: t := by
  intro m
  induction m with
  | zero => intro t v; rfl
  | succ m ih =>
    intro t v
    rw [List.replicate_succ, List.cons_append, List.set_cons_succ, ih, List.replicate_succ, List.cons_append]
theorem bigr_l0 (n : Int) (h0 : 0 ≤ n) (h1 : n < 18446744073709551616) (k : Nat) (hk : k ≤ 8) : ∀ (m K : Nat), m ≤ k → m < K → aukletref20_Big.l0 K (n / 256 ^ (k - m)) (List.replicate m 0 ++ bigB n (k - m)) ((m : Int) - 1) = some (bigB n k) := by
  intro m
  induction m with
  | zero =>
    intro K hm hK
    obtain ⟨K', rfl⟩ : ∃ K', K = K' + 1 := ⟨K - 1, by omega⟩
    unfold aukletref20_Big.l0
    rw [if_neg (by omega)]
    simp
  | succ m ih =>
    intro K hm hK
    obtain ⟨K', rfl⟩ : ∃ K', K = K' + 1 := ⟨K - 1, by omega⟩
    unfold aukletref20_Big.l0
    obtain ⟨j, hj⟩ : ∃ j, j = k - (m + 1) := ⟨_, rfl⟩
    have hj2 : k - m = j + 1 := by omega
    obtain ⟨p, hp⟩ : ∃ p : Int, p = 256 ^ j := ⟨_, rfl⟩
    have hp0 : 0 < p := by rw [hp]; exact Int.pow_pos (by decide)
    have hq0 : 0 ≤ n / p := Int.ediv_nonneg h0 (by omega)
    have hq1 : n / p ≤ n := Int.ediv_le_self _ h0
    have hd0 : 0 ≤ n / p / 256 := Int.ediv_nonneg hq0 (by decide)
    have hd1 : n / p / 256 ≤ n / p := Int.ediv_le_self _ hq0
    rw [← hj, ← hp, show ((m + 1 : Nat) : Int) - 1 = (m : Int) by omega, if_pos (by omega), if_pos (by omega), if_pos (by simp; omega), Int.toNat_natCast, set_rep, Int.tdiv_eq_ediv_of_nonneg hq0, Int.tmod_eq_emod_of_nonneg hq0, u64_in hd0 (by omega), show wrap64 ((m : Int) - 1) = (m : Int) - 1 from w64_in _ (by omega)]
    have e1 : n / p / 256 = n / 256 ^ (k - m) := by rw [hj2, Int.pow_succ, ← hp]; exact Int.ediv_ediv_of_nonneg (by omega)
    have e2 : (n / p % 256 % 256 :: bigB n j) = bigB n (k - m) := by
      rw [hj2]
      unfold bigB
      rw [← hp, Int.emod_emod_of_dvd _ (Int.dvd_refl 256)]
      cases j <;> rfl
    rw [e1, e2]
    exact ih K' (by omega) (by omega)
theorem bigr_f {n : Int} (h0 : 0 ≤ n) (h1 : n < 18446744073709551616) {k : Nat} (hk : k ≤ 8) {K : Nat} (hK : 8 < K) : aukletref20_Big.f K n (k : Int) = some (bigB n k) := by
  unfold aukletref20_Big.f
  rw [if_pos (by omega), if_pos (by omega), Int.toNat_natCast, show wrap64 ((k : Int) - 1) = (k : Int) - 1 from w64_in _ (by omega)]
  have := bigr_l0 n h0 h1 k hk k K (Nat.le_refl _) (by omega)
  rw [Nat.sub_self, Int.pow_zero, Int.ediv_one] at this
  simpa [bigB] using this
theorem bigr8 {n : Int} (h0 : 0 ≤ n) (h1 : n < 18446744073709551616) {K : Nat} (hK : 8 < K) : aukletref20_Big.f K n 8 = some (bigB n 8) := bigr_f h0 h1 (k := 8) (by decide) hK
theorem bigr4 {n : Int} (h0 : 0 ≤ n) (h1 : n < 18446744073709551616) {K : Nat} (hK : 8 < K) : aukletref20_Big.f K n 4 = some (bigB n 4) := bigr_f h0 h1 (k := 4) (by decide) hK
theorem bigr2 {n : Int} (h0 : 0 ≤ n) (h1 : n < 18446744073709551616) {K : Nat} (hK : 8 < K) : aukletref20_Big.f K n 2 = some (bigB n 2) := bigr_f h0 h1 (k := 2) (by decide) hK
theorem need_f (n : Nat) (h : n ≤ 1000000) : aukletref20_need.f (n : Int) = some (secsN n : Int) := by
  unfold aukletref20_need.f
  rw [w64_in (516 * (n : Int)) (by omega), w64_in (4 + 516 * (n : Int)) (by omega), Int.tdiv_eq_ediv_of_nonneg (by omega), Int.tmod_eq_emod_of_nonneg (by omega), w64_in ((4 + 516 * (n : Int)) / 500) (by omega), w64_in ((4 + 516 * (n : Int)) / 500 + 1) (by omega)]
  unfold secsN
  split
  · rename_i h2
    congr 1
    omega
  · rename_i h2
    congr 1
    omega
/-! ### Record -/
theorem sectB_eq {seq : Int} {l : List S58} (h : ∀ p ∈ l, p.f1.length = 512) {i : Nat} (hi : i < secsN l.length) : sectB seq (secsN l.length) i (bodyB l) = ((bigB seq 8 ++ bigB (i : Int) 2) ++ bigB (secsN l.length : Int) 2) ++ ((bodyZ l).drop (500 * i)).take 500 := by
  rw [← chunk_eq h hi]
  unfold sectB pad
  have hl : (((bodyB l).drop (500 * i)).take 500).length ≤ 500 := by rw [List.length_take]; omega
  generalize ((bodyB l).drop (500 * i)).take 500 = c at hl ⊢
  simp only [List.append_assoc, List.length_append, bigB_len]
  rw [show 512 - (8 + (2 + (2 + c.length))) = 500 - c.length by omega]
theorem bodyZ_len {l : List S58} (h : ∀ p ∈ l, p.f1.length = 512) : (bodyZ l).length = 500 * secsN l.length := by
  unfold bodyZ
  rw [List.length_append, List.length_replicate, bodyB_len h]
  unfold secsN
  omega
theorem record_l2 {seq : Int} (h0 : 0 ≤ seq) (h1 : seq < 18446744073709551616) {l : List S58} (h : ∀ p ∈ l, p.f1.length = 512) (hN : secsN l.length ≤ 64) : ∀ (m i K : Nat), i + m = secsN l.length → m + 20 < K → aukletref20_Record.l2 K seq (bodyZ l) (secsN l.length : Int) ((recS seq l).take i) (i : Int) = some (recS seq l, 0) := by
  intro m
  induction m with
  | zero =>
    intro i K hi hK
    obtain ⟨K', rfl⟩ : ∃ K', K = K' + 1 := ⟨K - 1, by omega⟩
    unfold aukletref20_Record.l2
    rw [if_neg (by omega), List.take_of_length_le (by rw [recS_len]; omega)]
  | succ m ih =>
    intro i K hi hK
    obtain ⟨K', rfl⟩ : ∃ K', K = K' + 1 := ⟨K - 1, by omega⟩
    unfold aukletref20_Record.l2
    have hz := bodyZ_len h
    have hiN : i < secsN l.length := by omega
    rw [if_pos (by omega), bigr8 h0 h1 (K := K') (by omega), Option.bind_some, u64_in (show 0 ≤ (i : Int) by omega) (by omega), bigr2 (n := (i : Int)) (by omega) (by omega) (K := K') (by omega), Option.bind_some, if_pos (by simp only [bigB_len]; decide), Option.bind_some,
      u64_in (show 0 ≤ (secsN l.length : Int) by omega) (by omega), bigr2 (n := (secsN l.length : Int)) (by omega) (by omega) (K := K') (by omega), Option.bind_some, if_pos (by simp only [List.length_append, bigB_len]; decide), Option.bind_some,
      show wrap64 (500 * (i : Int)) = ((500 * i : Nat) : Int) from (w64_in _ (by omega)).trans (by omega), show wrap64 (((500 * i : Nat) : Int) + 500) = ((500 * i + 500 : Nat) : Int) from (w64_in _ (by omega)).trans (by omega),
      if_pos (by omega), if_pos (by omega), if_pos (by omega), Option.bind_some, Int.toNat_natCast, Int.toNat_natCast, if_pos (by simp only [List.length_append, bigB_len, List.length_drop, List.length_take]; omega), if_pos (by rw [List.length_take]; omega), show wrap64 ((i : Int) + 1) = ((i + 1 : Nat) : Int) from (w64_in _ (by omega)).trans (by omega)]
    have e1 : ((bodyZ l).take (500 * i + 500)).drop (500 * i) = ((bodyZ l).drop (500 * i)).take 500 := by rw [List.drop_take]; congr 1; omega
    have e2 : (recS seq l).take i ++ [((bigB seq 8 ++ bigB (i : Int) 2) ++ bigB (secsN l.length : Int) 2) ++ ((bodyZ l).take (500 * i + 500)).drop (500 * i)] = (recS seq l).take (i + 1) := by
      rw [e1, ← sectB_eq h hiN]
      have hlt : i < (recS seq l).length := by rw [recS_len]; exact hiN
      rw [← List.take_append_getElem hlt]
      have h3 := recS_at seq l [] hiN
      rw [List.append_nil, List.getD_eq_getElem?_getD, List.getElem?_eq_getElem hlt, Option.getD_some] at h3
      rw [h3]
    rw [e2]
    exact ih (i + 1) K' (by omega) (by omega)
theorem record_l1 {seq : Int} (h0 : 0 ≤ seq) (h1 : seq < 18446744073709551616) {l : List S58} (h : ∀ p ∈ l, 0 ≤ p.f0 ∧ p.f0 ≤ 2147483647 ∧ p.f1.length = 512) (hl : l.length ≤ 64) (hN : secsN l.length ≤ 64) : ∀ (m j K : Nat), j + m = l.length → m + 100 < K → aukletref20_Record.l1 K seq l (bodyTo l.length j l) (j : Int) = some (recS seq l, 0) := by
  have h5 : ∀ p ∈ l, p.f1.length = 512 := fun p hp => (h p hp).2.2
  intro m
  induction m with
  | zero =>
    intro j K hj hK
    obtain ⟨K', rfl⟩ : ∃ K', K = K' + 1 := ⟨K - 1, by omega⟩
    unfold aukletref20_Record.l1
    obtain rfl : j = l.length := by omega
    have hbl := bodyB_len h5
    have hb : bodyTo l.length l.length l = bodyB l := rfl
    have hsub : (500 * (secsN l.length : Int)) - ((bodyB l).length : Int) = ((500 * secsN l.length - (bodyB l).length : Nat) : Int) := by
      rw [hbl]; unfold secsN; omega
    rw [if_neg (by omega), need_f _ (by omega), Option.bind_some, hb, w64_in (500 * (secsN l.length : Int)) (by omega), hsub, w64_nat _ (by omega), if_pos (by omega), Int.toNat_natCast, if_pos (by omega)]
    have := record_l2 h0 h1 h5 hN (secsN l.length) 0 K' (by omega) (by omega)
    rw [List.take_zero] at this
    exact this
  | succ m ih =>
    intro j K hj hK
    obtain ⟨K', rfl⟩ : ∃ K', K = K' + 1 := ⟨K - 1, by omega⟩
    unfold aukletref20_Record.l1
    have hjl : j < l.length := by omega
    have hmem : l.getD j z58 ∈ l := by rw [List.getD_eq_getElem?_getD, List.getElem?_eq_getElem hjl]; exact List.getElem_mem _
    have hp := h _ hmem
    have hrd : rd_T58 l (j : Int) = l.getD j z58 := by unfold rd_T58; rw [Int.toNat_natCast]
    have hbt := bodyTo_len (n := l.length) h5 (k := j) (by omega)
    have hsu := bodyTo_succ (n := l.length) hjl
    rw [if_pos (by omega), if_pos (by omega), hrd, u64_in hp.1 (by omega), bigr4 hp.1 (by omega) (K := K') (by omega), Option.bind_some, if_pos (by rw [bigB_len]; omega), Option.bind_some, if_pos (by rw [List.length_append, bigB_len, hp.2.2]; omega), ← hsu, show wrap64 ((j : Int) + 1) = ((j + 1 : Nat) : Int) from (w64_in _ (by omega)).trans (by omega)]
    exact ih (j + 1) K' (by omega) (by omega)
theorem bodyTo_zero (n : Nat) (l : List S58) : bodyTo n 0 l = bigB n 4 := by unfold bodyTo; simp
theorem rj1 (K : Nat) (seq : Int) (l : List S58) (b : Bool) : aukletref20_Record.j1 (K + 1) seq l b = if b = true then (some (([] : List (List Int)), 210)) else ((aukletref20_Big.f K (IntKind.u64.wrap ((l.length : Int))) 4).bind fun t112 => (aukletref20_Record.l1 K seq l t112 0)) := by rw [aukletref20_Record.j1]
theorem record_l0 {seq : Int} (h0 : 0 ≤ seq) (h1 : seq < 18446744073709551616) {l : List S58} (hl : l.length ≤ 100) : ∀ (m i K : Nat), i + m = l.length → m + 300 < K → (∀ j, j < i → badB (l.getD j z58).f0 (l.getD j z58).f1.length = false) → aukletref20_Record.l0 K seq l (i : Int) = some (recR seq l, recE seq l) := by
  intro m
  induction m with
  | zero =>
    intro i K hi hK hg
    obtain ⟨K', rfl⟩ : ∃ K', K = K' + 1 := ⟨K - 1, by omega⟩
    unfold aukletref20_Record.l0
    rw [if_neg (by omega)]
    by_cases hs : seq = 0
    · have he : recE seq l = 1 := by unfold recE; rw [if_pos hs]
      rw [if_pos hs]
      unfold recR
      rw [he, if_neg (by decide)]
    have hany : l.any (fun p => badB p.f0 p.f1.length) = false := by
      rw [List.any_eq_false]
      intro p hp
      obtain ⟨j, hj, rfl⟩ := List.getElem_of_mem hp
      have := hg j (by omega)
      rw [List.getD_eq_getElem?_getD, List.getElem?_eq_getElem hj, Option.getD_some] at this
      rw [this]
      decide
    have hgood := good_all hany
    rw [if_neg hs]
    by_cases h64 : 64 < l.length
    · have he : recE seq l = 210 := by unfold recE; rw [if_neg hs, hany, if_neg (by decide), if_pos h64]
      rw [if_pos (by omega)]
      obtain ⟨K2, rfl⟩ : ∃ K2, K' = K2 + 1 := ⟨K' - 1, by omega⟩
      rw [rj1, if_pos rfl]
      unfold recR
      rw [he, if_neg (by decide)]
    rw [if_neg (by omega), need_f _ (by omega), Option.bind_some]
    obtain ⟨K2, rfl⟩ : ∃ K2, K' = K2 + 1 := ⟨K' - 1, by omega⟩
    rw [rj1]
    by_cases hn : 64 < secsN l.length
    · have he : recE seq l = 210 := by unfold recE; rw [if_neg hs, hany, if_neg (by decide), if_neg h64, if_pos hn]
      rw [if_pos (decide_eq_true (by omega))]
      unfold recR
      rw [he, if_neg (by decide)]
    · have he : recE seq l = 0 := by unfold recE; rw [if_neg hs, hany, if_neg (by decide), if_neg h64, if_neg hn]
      rw [decide_eq_false (by omega), if_neg (by decide), u64_in (by omega) (by omega), bigr4 (n := (l.length : Int)) (by omega) (by omega) (K := K2) (by omega), Option.bind_some, ← bodyTo_zero l.length l]
      unfold recR
      rw [he, if_pos rfl]
      exact record_l1 h0 h1 hgood (by omega) (by omega) l.length 0 K2 (by omega) (by omega)
  | succ m ih =>
    intro i K hi hK hg
    obtain ⟨K', rfl⟩ : ∃ K', K = K' + 1 := ⟨K - 1, by omega⟩
    unfold aukletref20_Record.l0
    have hil : i < l.length := by omega
    have hmem : l.getD i z58 ∈ l := by rw [List.getD_eq_getElem?_getD, List.getElem?_eq_getElem hil]; exact List.getElem_mem _
    have hrd : rd_T58 l (i : Int) = l.getD i z58 := by unfold rd_T58; rw [Int.toNat_natCast]
    have hbad : badB (l.getD i z58).f0 (l.getD i z58).f1.length = true → (recR seq l, recE seq l) = (([] : List (List Int)), (1 : Int)) := by
      intro hb
      have he : recE seq l = 1 := by
        unfold recE
        split
        · rfl
        · rw [if_pos (List.any_eq_true.2 ⟨_, hmem, hb⟩)]
      unfold recR
      rw [he, if_neg (by decide)]
    rw [if_pos (by omega), if_pos (by omega), hrd]
    generalize hq : l.getD i z58 = q at *
    by_cases c1 : q.f0 < 0
    · rw [if_pos c1, hbad (by unfold badB; simp [c1])]
    by_cases c2 : q.f0 > 2147483647
    · rw [if_neg c1, if_pos c2, hbad (by unfold badB; simp; omega)]
    by_cases c3 : q.f1.length = 512
    · rw [if_neg c1, if_neg c2, if_pos (by omega), show wrap64 ((i : Int) + 1) = ((i + 1 : Nat) : Int) from (w64_in _ (by omega)).trans (by omega)]
      refine ih (i + 1) K' (by omega) (by omega) (fun j hj => ?_)
      by_cases e : j = i
      · rw [e, hq]
        unfold badB
        simp [c3]
        omega
      · exact hg j (by omega)
    · rw [if_neg c1, if_neg c2, if_neg (by omega), hbad (by unfold badB; simp [c3])]
theorem record_f {seq : Int} (h0 : 0 ≤ seq) (h1 : seq < 18446744073709551616) {l : List S58} (hl : l.length ≤ 100) : aukletref20_Record.f 1000 seq l = some (recR seq l, recE seq l) :=
  record_l0 h0 h1 hl l.length 0 1000 (by omega) (by omega) (fun j hj => absurd hj (Nat.not_lt_zero _))
end Go.Proofs.Ytmghgghheebnjaa.Dis
namespace Go.Proofs.Ytmghgghheebnjaa.Dis
open Go.RowKit Go.Proofs.YtmghgghheebnjaaW.PrintWords Go.Proofs.YtmghgghheebnjaaW.PrintLast Go.Proofs.YtmghgghheebnjaaW.PrintMore Go.Maps Go.Proofs.Ytmghgghheebnjaa.PWalRecords
set_option linter.unusedVariables false
set_option linter.unusedSimpArgs false
theorem cell_ons {w w1 : World} {p : Addr} {v : Value} (h : w.cell? p = some v) (hb : Below w.heap.size w w1) : w1.cell? p = some v := (hb.cell (World.block_lt_of_cell? w p h)).trans h
theorem numr_c {w : World} {A : Option Addr} {n c : Nat} {l : List Int} (hn : n = l.length) (h8 : l.length ≤ 8) (hb : BytesOk l) (h : Kd.C (Kd.int .u8) w A n l) (hc : n ≤ c) :
    Calls Try.prog 41 #[.slice A n c] w fun e w' => e = .returned (.int .u64 (numB l)) ∧ Below w.heap.size w w' := by
  subst hn
  refine (aukletref20_Num.calls 20 A c l _ w h hc (num_f h8 hb (by decide))).mono ?_
  rintro e w' ⟨h1, h2⟩
  exact ⟨h1, h2.below⟩
theorem need_c {w : World} (n : Nat) (h : n ≤ 1000000) : Calls Try.prog 38 #[.int .i64 (n : Int)] w fun e w' => e = .returned (.int .i64 (secsN n : Nat)) ∧ Below w.heap.size w w' := by
  refine (aukletref20_need.calls (n : Int) _ w (need_f n h)).mono ?_
  rintro e w' ⟨h1, h2⟩
  exact ⟨h1, h2.below⟩
/-- An empty row of one's own. -/
theorem R_empty (W : World) (base : Nat) (hb : base ≤ W.heap.size) : Kd.R byteK 5 (W.alloc (.cells #[] 5)) base tt (.slice (some ⟨W.heap.size, 0, none⟩) 0 0) [] := by
  refine ⟨fun k hk => trivial, [], ?_, Reps.none _ _⟩
  have h2 := World.ownsRow_lit (base := base) (e := 5) (size := 1) W #[] 0 hb (by decide) rfl
  have h3 : (W.alloc (.cells #[] 5)).ownsRow base 5 1 (.slice (some ⟨W.heap.size, 0, none⟩) 0 0) 0 [] := by simpa using h2
  exact h3
attribute [local go_sem] max2_int min2_int max_two min_two max_three min_three max_four min_four
set_option maxHeartbeats 32000000 in
set_option maxRecDepth 100000 in
theorem scan_ref (W : World) (A : Option Addr) (n c : Nat) (l : List (List Int)) (hC : rowK.C W A n l) (hcap : n ≤ c) (hn : n ≤ 1000000) (hb : ∀ s ∈ l, BytesOk s) :
    Calls Try.prog 12 #[.slice A n c] W fun e w' => ∃ (sq : Int) (out : List S58) (ok : Bool) (v : Value), e = .returned (.tuple #[.int .u64 sq, v, .bool ok]) ∧ ScanR l sq out ok ∧ Kd.R k58 58 w' W.heap.size tt v out ∧ Below W.heap.size W w' := by
  have HC := Aside0.mk hC
  have HL := Aside0.mk hC.1
  have HBO := Aside0.mk hb
  clear hC hb
  have NO := Aside0.mk (fun (w : World) (hB : Below W.heap.size W w) (h : ∀ n m, ¬ ScanOk l n m) => (⟨0, [], false, .slice none 0 0, rfl, .inr ⟨rfl, rfl, rfl, h⟩, Kd.R_nil _ _ _ _ _, hB⟩ : ∃ (sq : Int) (out : List S58) (ok : Bool) (v : Value), (Ending.returned (.tuple #[.int .u64 0, .slice none 0 0, .bool false]) : Ending) = .returned (.tuple #[.int .u64 sq, v, .bool ok]) ∧ ScanR l sq out ok ∧ Kd.R k58 58 w W.heap.size tt v out ∧ Below W.heap.size W w))
  by_cases h0 : n = 0
  · subst h0
    go_enter Try.func12, Try.ntmps12
    go_wp2
    refine bodyPost_ret (results_list (rs := [.tmp 2, .tmp 3, .tmp 4]) rfl (by simp) (.tmp (.tmp (.tmp .nil)))) rfl ?_
    exact NO.out W (Below.refl _ _) (fun n m h => by have h1 := h.ne; rw [HL.out] at h1; omega)
  have f0 : ((n : Int) == 0) = false := by simp; omega
  obtain ⟨ad, B0, c0, hA, cel0, hle0, hC0⟩ := row_b HC.out 0 (by omega)
  subst hA
  rw [show ad.add 0 = ad from by simp [Addr.add]] at cel0
  obtain ⟨s0, hs0⟩ : ∃ s0, s0 = l.getD 0 [] := ⟨_, rfl⟩
  rw [← hs0] at cel0 hle0 hC0
  obtain ⟨n0, hn0⟩ : ∃ n0, n0 = s0.length := ⟨_, rfl⟩
  rw [← hn0] at cel0 hle0 hC0
  have HS0 := Aside0.mk hs0
  have HN0 := Aside0.mk hn0
  have HC0 := Aside0.mk hC0
  have HCE := Aside0.mk cel0
  clear hs0 hn0 hC0
  by_cases h5 : n0 = 512
  case neg =>
    have f1 : ((n0 : Int) != 512) = true := by simp; omega
    go_enter Try.func12, Try.ntmps12
    go_wp2
    refine bodyPost_ret (results_list (rs := [.tmp 2, .tmp 3, .tmp 4]) rfl (by simp) (.tmp (.tmp (.tmp .nil)))) rfl ?_
    exact NO.out W (Below.refl _ _) (fun n m h => h5 (by rw [HN0.out, HS0.out]; exact h.l0))
  subst h5
  obtain ⟨bd, hA, _⟩ := HC0.out.2.2 (by decide)
  subst hA
  have hok0 : BytesOk s0 := by rw [HS0.out]; exact getD_ok HBO.out 0
  have HBS := Aside0.mk hok0
  have N1 := Aside0.mk (fun (w' : World) (hB : Below W.heap.size W w') => numr_c (n := 8) (c := c0) (l := s0.take 8) (by rw [List.length_take, ← HN0.out]; rfl) (by rw [List.length_take]; omega) (hok0.take 8) (takeC (Kd.C_below HC0.out hB) (by decide)) (by omega))
  have N2 := Aside0.mk (fun (w' : World) (hB : Below W.heap.size W w') => numr_c (n := 2) (c := c0 - 10) (A := some (bd.add 10)) (l := (s0.take 12).drop 10) (by rw [List.length_drop, List.length_take, ← HN0.out]; rfl) (by rw [List.length_drop, List.length_take]; omega) ((hok0.take 12).drop 10) (dropC (n := 12) (m := 10) (c := c0) (takeC (Kd.C_below HC0.out hB) (by decide)) (by decide) (by omega) rfl (by rw [if_neg (by omega)]; rfl)) (by omega))
  have e1 : numB (s0.take 8) = seqS l := by rw [HS0.out]; rfl
  have e2 : numB ((s0.take 12).drop 10) = cntS l := by rw [HS0.out]; rfl
  have b1 := numB_bound (hok0.take 8)
  have b2 := numB_bound ((hok0.take 12).drop 10)
  rw [List.length_take, ← HN0.out] at b1
  rw [List.length_drop, List.length_take, ← HN0.out] at b2
  rw [e1] at N1 b1
  rw [e2] at N2 b2
  obtain ⟨sq, hsq⟩ : ∃ sq, sq = seqS l := ⟨_, rfl⟩
  obtain ⟨N, hN⟩ : ∃ N : Nat, N = (cntS l).toNat := ⟨_, rfl⟩
  have hN' : cntS l = (N : Int) := by omega
  have hNb : N < 65536 := by have := b2.2; rw [hN'] at this; have h : (256 : Int) ^ (min 12 512 - 10) = 65536 := by decide
                             omega
  have hsb : 0 ≤ sq ∧ sq < 18446744073709551616 := by have := b1; rw [← hsq] at this; have h : (256 : Int) ^ (min 8 512) = 18446744073709551616 := by decide
                                                      omega
  rw [← hsq] at N1
  rw [hN'] at N2
  have HSQ := Aside0.mk hsq
  have HNN := Aside0.mk hN'
  clear e1 e2 b1 b2 hsq hN hN' hok0
  have q10 : ¬ c0 = 10 := by omega
  have iN : IntKind.i64.wrap (N : Int) = (N : Int) := by rw [IntKind.wrap_i64]; omega
  have ct10 : ∀ w', Below W.heap.size W w' → w'.cell? ad = some (.slice (some bd) 512 c0) := fun w' hB => (hB.cell (World.block_lt_of_cell? W _ HCE.out)).trans HCE.out
  have HCT := Aside0.mk ct10
  clear ct10
  go_enter Try.func12, Try.ntmps12
  go_upto_region 3 with fail
  have hdr : Below W.heap.size W W.drew := below_drew (Below.refl _ _)
  refine start_ (n := 15) (S := fun w' => Below W.heap.size W w') (ds := []) #[false, false, false, false, false, false, false, false, false, false, false, false, false, false, false] (by kernel_rfl) rfl rfl hdr (fun hHeld => ?_)
  generalize W.drew = wD at hdr hHeld ⊢
  refine pure_ (i := 0) (N := some 24) (v := ?_) (a' := ?_) #[true, false, false, false, false, false, false, false, false, false, false, false, false, false, false] rfl rfl (by kernel_rfl) (fun _ _ _ h => h) (Or.inl ⟨by rfl, ?_⟩) ?_ ?_
  rotate_left
  · intro w'
    go_simp
    with_reducible rfl
  rotate_left
  · simp only [Act.put, List.setIfInBounds_toArray, List.set_cons_zero, List.set_cons_succ]
    rfl
  refine pure_ (i := 1) (N := some 25) (v := .pointer (some ad)) (a' := ?_) #[true, true, false, false, false, false, false, false, false, false, false, false, false, false, false] rfl rfl (by kernel_rfl) (fun _ _ _ h => h) (Or.inl ⟨by rfl, ?_⟩) ?_ ?_
  · intro w'
    first | (go_simp; done) | (go_simp; rw [if_pos (show 0 < n by omega)])
  rotate_left
  · simp only [Act.put, List.setIfInBounds_toArray, List.set_cons_zero, List.set_cons_succ]
    rfl
  refine take_ (i := 2) (N := some 26) (v := ?_) (a' := ?_) #[true, true, true, false, false, false, false, false, false, false, false, false, false, false, false] rfl rfl (by kernel_rfl) (fun _ _ _ h => h) (Or.inl ⟨by rfl, ?_⟩) hHeld ?_ ?_
  rotate_left
  · intro w' s0
    have s1 := HCT.out w' s0
    go_simp
    with_reducible rfl
  rotate_left
  · simp only [Act.put, List.setIfInBounds_toArray, List.set_cons_zero, List.set_cons_succ]
    rfl
  refine pure_ (i := 3) (N := some 27) (v := .slice (some bd) 8 c0) (a' := ?_) #[true, true, true, true, false, false, false, false, false, false, false, false, false, false, false] rfl rfl (by kernel_rfl) (fun _ _ _ h => h) (Or.inl ⟨by rfl, ?_⟩) ?_ ?_
  · intro w'
    exact ex_hi (x := .tmp 26) (y := .const (.int .i64 8)) (m := 8) und56 size5' rfl rfl rfl (by omega)
  rotate_left
  · simp only [Act.put, List.setIfInBounds_toArray, List.set_cons_zero, List.set_cons_succ]
    rfl
  refine pure_ (i := 5) (N := some 29) (v := ?_) (a' := ?_) #[true, true, true, true, false, true, false, false, false, false, false, false, false, false, false] rfl rfl (by kernel_rfl) (fun _ _ _ h => h) (Or.inl ⟨by rfl, ?_⟩) ?_ ?_
  rotate_left
  · intro w'
    go_simp
    with_reducible rfl
  rotate_left
  · simp only [Act.put, List.setIfInBounds_toArray, List.set_cons_zero, List.set_cons_succ]
    rfl
  refine pure_ (i := 6) (N := some 30) (v := .pointer (some ad)) (a' := ?_) #[true, true, true, true, false, true, true, false, false, false, false, false, false, false, false] rfl rfl (by kernel_rfl) (fun _ _ _ h => h) (Or.inl ⟨by rfl, ?_⟩) ?_ ?_
  · intro w'
    first | (go_simp; done) | (go_simp; rw [if_pos (show 0 < n by omega)])
  rotate_left
  · simp only [Act.put, List.setIfInBounds_toArray, List.set_cons_zero, List.set_cons_succ]
    rfl
  refine take_ (i := 7) (N := some 31) (v := ?_) (a' := ?_) #[true, true, true, true, false, true, true, true, false, false, false, false, false, false, false] rfl rfl (by kernel_rfl) (fun _ _ _ h => h) (Or.inl ⟨by rfl, ?_⟩) hHeld ?_ ?_
  rotate_left
  · intro w' s0
    have s1 := HCT.out w' s0
    go_simp
    with_reducible rfl
  rotate_left
  · simp only [Act.put, List.setIfInBounds_toArray, List.set_cons_zero, List.set_cons_succ]
    rfl
  refine pure_ (i := 8) (N := some 32) (v := .slice (some (bd.add 10)) 2 (c0 - 10)) (a' := ?_) #[true, true, true, true, false, true, true, true, true, false, false, false, false, false, false] rfl rfl (by kernel_rfl) (fun _ _ _ h => h) (Or.inl ⟨by rfl, ?_⟩) ?_ ?_
  · intro w'
    exact ex_mid (x := .tmp 31) (y := .const (.int .i64 10)) (z := .const (.int .i64 12)) (m := 10) (h := 12) und56 size5' rfl rfl rfl rfl (by decide) (by omega) (by rw [if_neg (by omega)]; rfl)
  rotate_left
  · simp only [Act.put, List.setIfInBounds_toArray, List.set_cons_zero, List.set_cons_succ]
    rfl
  refine lattice3 (l0 := #[true, true, true, true, false, true, true, true, true, false, false, false, false, false, false]) [4, 9, 10, 11, 12, 13] [[false, false, false, false, false, false], [true, false, false, false, false, false], [true, true, false, false, false, false], [true, true, true, false, false, false], [false, false, false, true, false, false], [true, false, false, true, false, false], [true, true, false, true, false, false], [true, true, true, true, false, false], [true, true, false, false, true, false], [true, true, true, false, true, false], [true, true, false, true, true, false], [true, true, true, true, true, false], [true, true, true, false, true, true], [true, true, true, true, true, true]] [28, 33, 34, 35, 5, 6] (by kernel_rfl) (by kernel_rfl) (by decide) (by kernel_rfl) (by kernel_rfl) (by kernel_rfl) (fun d xs w' => ∃ x0 x1 x2 x3 x4 x5, xs = [x0, x1, x2, x3, x4, x5] ∧ (d.getD 0 false = true → x0 = .int .u64 sq) ∧ (d.getD 1 false = true → x1 = .int .u64 (N : Int)) ∧ (d.getD 2 false = true → x2 = .int .i64 (N : Int)) ∧ (d.getD 3 false = true → ∃ Ae, x3 = .slice Ae 0 0 ∧ Kd.R byteK 5 w' W.heap.size tt (.slice Ae 0 0) []) ∧ (d.getD 4 false = true → x4 = .int .u64 sq) ∧ (d.getD 5 false = true → x5 = .int .i64 (N : Int))) 1 rfl (by kernel_rfl) hHeld ?hF ?hstep ?hfin
  case hF =>
    intro xs hx
    match xs, hx with
    | [x0, x1, x2, x3, x4, x5], _ => exact ⟨x0, x1, x2, x3, x4, x5, rfl, fun h => absurd h (by decide), fun h => absurd h (by decide), fun h => absurd h (by decide), fun h => absurd h (by decide), fun h => absurd h (by decide), fun h => absurd h (by decide)⟩
  case hstep =>
    intro j hj
    have hj : j < 6 := hj
    rcases (by omega : j = 0 ∨ j = 1 ∨ j = 2 ∨ j = 3 ∨ j = 4 ∨ j = 5) with rfl | rfl | rfl | rfl | rfl | rfl
    · intro d hd hjn hn xs wl hx hSl ⟨x0, x1, x2, x3, x4, x5, hxs, fn, fm, fp, fr, fs, ft⟩ a' ha o ho K hK
      subst hxs
      obtain rfl := Option.some.inj (ho.symm.trans (rfl : _ = some _))
      simp only [putVs, Act.put, List.setIfInBounds_toArray, List.set_cons_zero, List.set_cons_succ] at ha
      subst ha
      refine goes_ Try.func41 (by kernel_rfl) rfl #[.slice (some bd) 8 c0] (by rfl) rfl rfl (by (try simp only [List.map_toArray, List.map_cons, List.map_nil]); first | done | rfl) ?_
      refine (N1.out wl hSl).mono ?_
      rintro e w1 ⟨rfl, hb1⟩
      refine ⟨_, rfl, ?_⟩
      exact hK.out _ w1 (hSl.trans (hb1.mono hSl.size)) ⟨_, _, _, _, _, _, rfl, fun h0 => rfl, fun h1 => absurd ((on_ne d 0 1 (by decide)).symm.trans h1) (fun h2 => bit_abs (before_of (j := 0) (k := 1) (by kernel_rfl) hd hjn hn) h2), fun h2 => absurd ((on_ne d 0 2 (by decide)).symm.trans h2) (fun h2 => bit_abs (before_of (j := 0) (k := 2) (by kernel_rfl) hd hjn hn) h2), fun h3 => (by obtain ⟨Ae, e6, h6⟩ := (fr ((on_ne d 0 3 (by decide)).symm.trans h3)); exact ⟨Ae, e6, Kd.R_below h6 hb1⟩), fun h4 => absurd ((on_ne d 0 4 (by decide)).symm.trans h4) (fun h2 => bit_abs (before_of (j := 0) (k := 4) (by kernel_rfl) hd hjn hn) h2), fun h5 => absurd ((on_ne d 0 5 (by decide)).symm.trans h5) (fun h2 => bit_abs (before_of (j := 0) (k := 5) (by kernel_rfl) hd hjn hn) h2)⟩
    · intro d hd hjn hn xs wl hx hSl ⟨x0, x1, x2, x3, x4, x5, hxs, fn, fm, fp, fr, fs, ft⟩ a' ha o ho K hK
      subst hxs
      obtain rfl := Option.some.inj (ho.symm.trans (rfl : _ = some _))
      simp only [putVs, Act.put, List.setIfInBounds_toArray, List.set_cons_zero, List.set_cons_succ] at ha
      subst ha
      have gn := fn (after_of (j := 1) (k := 0) (by kernel_rfl) hd hjn hn)
      refine goes_ Try.func41 (by kernel_rfl) rfl #[.slice (some (bd.add 10)) 2 (c0 - 10)] (by rfl) rfl rfl (by (try simp only [List.map_toArray, List.map_cons, List.map_nil]); first | done | rfl) ?_
      refine (N2.out wl hSl).mono ?_
      rintro e w1 ⟨rfl, hb1⟩
      refine ⟨_, rfl, ?_⟩
      exact hK.out _ w1 (hSl.trans (hb1.mono hSl.size)) ⟨_, _, _, _, _, _, rfl, fun h0 => (fn (after_of (j := 1) (k := 0) (by kernel_rfl) hd hjn hn)), fun h1 => rfl, fun h2 => absurd ((on_ne d 1 2 (by decide)).symm.trans h2) (fun h2 => bit_abs (before_of (j := 1) (k := 2) (by kernel_rfl) hd hjn hn) h2), fun h3 => (by obtain ⟨Ae, e6, h6⟩ := (fr ((on_ne d 1 3 (by decide)).symm.trans h3)); exact ⟨Ae, e6, Kd.R_below h6 hb1⟩), fun h4 => absurd ((on_ne d 1 4 (by decide)).symm.trans h4) (fun h2 => bit_abs (before_of (j := 1) (k := 4) (by kernel_rfl) hd hjn hn) h2), fun h5 => absurd ((on_ne d 1 5 (by decide)).symm.trans h5) (fun h2 => bit_abs (before_of (j := 1) (k := 5) (by kernel_rfl) hd hjn hn) h2)⟩
    · intro d hd hjn hn xs wl hx hSl ⟨x0, x1, x2, x3, x4, x5, hxs, fn, fm, fp, fr, fs, ft⟩ a' ha o ho K hK
      subst hxs
      obtain rfl := Option.some.inj (ho.symm.trans (rfl : _ = some _))
      simp only [putVs, Act.put, List.setIfInBounds_toArray, List.set_cons_zero, List.set_cons_succ] at ha
      subst ha
      have gn := fn (after_of (j := 2) (k := 0) (by kernel_rfl) hd hjn hn)
      have gm := fm (after_of (j := 2) (k := 1) (by kernel_rfl) hd hjn hn)
      subst gm
      have hb1 : Below wl.heap.size wl wl := Below.refl _ _
      refine value_ (by rfl) rfl (v := .int .i64 (N : Int)) (w1 := wl) (by first | (go_simp; done) | (go_simp; rw [iN]; done) | (go_simp; rfl)) ?_
      exact hK.out _ wl hSl ⟨_, _, _, _, _, _, rfl, fun h0 => (fn (after_of (j := 2) (k := 0) (by kernel_rfl) hd hjn hn)), fun h1 => (fm (after_of (j := 2) (k := 1) (by kernel_rfl) hd hjn hn)), fun h2 => rfl, fun h3 => (by obtain ⟨Ae, e6, h6⟩ := (fr ((on_ne d 2 3 (by decide)).symm.trans h3)); exact ⟨Ae, e6, Kd.R_below h6 hb1⟩), fun h4 => (fs ((on_ne d 2 4 (by decide)).symm.trans h4)), fun h5 => absurd ((on_ne d 2 5 (by decide)).symm.trans h5) (fun h2 => bit_abs (before_of (j := 2) (k := 5) (by kernel_rfl) hd hjn hn) h2)⟩
    · intro d hd hjn hn xs wl hx hSl ⟨x0, x1, x2, x3, x4, x5, hxs, fn, fm, fp, fr, fs, ft⟩ a' ha o ho K hK
      subst hxs
      obtain rfl := Option.some.inj (ho.symm.trans (rfl : _ = some _))
      simp only [putVs, Act.put, List.setIfInBounds_toArray, List.set_cons_zero, List.set_cons_succ] at ha
      subst ha
      have hb1 : Below wl.heap.size wl (wl.alloc (.cells #[] 5)) := below_alloc (Below.refl _ _) _
      refine value_ (by rfl) rfl (v := .slice (some ⟨wl.heap.size, 0, none⟩) 0 0) (w1 := wl.alloc (.cells #[] 5)) (by first | (go_simp; done) | (go_simp; rfl)) ?_
      exact hK.out _ _ (hSl.trans (hb1.mono hSl.size)) ⟨_, _, _, _, _, _, rfl, fun h0 => (fn ((on_ne d 3 0 (by decide)).symm.trans h0)), fun h1 => (fm ((on_ne d 3 1 (by decide)).symm.trans h1)), fun h2 => (fp ((on_ne d 3 2 (by decide)).symm.trans h2)), fun h3 => ⟨_, rfl, R_empty wl _ hSl.size⟩, fun h4 => (fs ((on_ne d 3 4 (by decide)).symm.trans h4)), fun h5 => (ft ((on_ne d 3 5 (by decide)).symm.trans h5))⟩
    · intro d hd hjn hn xs wl hx hSl ⟨x0, x1, x2, x3, x4, x5, hxs, fn, fm, fp, fr, fs, ft⟩ a' ha o ho K hK
      subst hxs
      obtain rfl := Option.some.inj (ho.symm.trans (rfl : _ = some _))
      simp only [putVs, Act.put, List.setIfInBounds_toArray, List.set_cons_zero, List.set_cons_succ] at ha
      subst ha
      have gn := fn (after_of (j := 4) (k := 0) (by kernel_rfl) hd hjn hn)
      have gm := fm (after_of (j := 4) (k := 1) (by kernel_rfl) hd hjn hn)
      subst gn
      have hb1 : Below wl.heap.size wl wl := Below.refl _ _
      refine value_ (by rfl) rfl (v := .int .u64 sq) (w1 := wl) (by first | (go_simp; done) | (go_simp; rw [iN]; done) | (go_simp; rfl)) ?_
      exact hK.out _ wl hSl ⟨_, _, _, _, _, _, rfl, fun h0 => (fn (after_of (j := 4) (k := 0) (by kernel_rfl) hd hjn hn)), fun h1 => (fm (after_of (j := 4) (k := 1) (by kernel_rfl) hd hjn hn)), fun h2 => (fp ((on_ne d 4 2 (by decide)).symm.trans h2)), fun h3 => (by obtain ⟨Ae, e6, h6⟩ := (fr ((on_ne d 4 3 (by decide)).symm.trans h3)); exact ⟨Ae, e6, Kd.R_below h6 hb1⟩), fun h4 => rfl, fun h5 => absurd ((on_ne d 4 5 (by decide)).symm.trans h5) (fun h2 => bit_abs (before_of (j := 4) (k := 5) (by kernel_rfl) hd hjn hn) h2)⟩
    · intro d hd hjn hn xs wl hx hSl ⟨x0, x1, x2, x3, x4, x5, hxs, fn, fm, fp, fr, fs, ft⟩ a' ha o ho K hK
      subst hxs
      obtain rfl := Option.some.inj (ho.symm.trans (rfl : _ = some _))
      simp only [putVs, Act.put, List.setIfInBounds_toArray, List.set_cons_zero, List.set_cons_succ] at ha
      subst ha
      have gn := fn (after_of (j := 5) (k := 0) (by kernel_rfl) hd hjn hn)
      have gm := fm (after_of (j := 5) (k := 1) (by kernel_rfl) hd hjn hn)
      have gp := fp (after_of (j := 5) (k := 2) (by kernel_rfl) hd hjn hn)
      have gs := fs (after_of (j := 5) (k := 4) (by kernel_rfl) hd hjn hn)
      subst gp
      have hb1 : Below wl.heap.size wl wl := Below.refl _ _
      refine value_ (by rfl) rfl (v := .int .i64 (N : Int)) (w1 := wl) (by first | (go_simp; done) | (go_simp; rw [iN]; done) | (go_simp; rfl)) ?_
      exact hK.out _ wl hSl ⟨_, _, _, _, _, _, rfl, fun h0 => (fn (after_of (j := 5) (k := 0) (by kernel_rfl) hd hjn hn)), fun h1 => (fm (after_of (j := 5) (k := 1) (by kernel_rfl) hd hjn hn)), fun h2 => (fp (after_of (j := 5) (k := 2) (by kernel_rfl) hd hjn hn)), fun h3 => (by obtain ⟨Ae, e6, h6⟩ := (fr ((on_ne d 5 3 (by decide)).symm.trans h3)); exact ⟨Ae, e6, Kd.R_below h6 hb1⟩), fun h4 => (fs (after_of (j := 5) (k := 4) (by kernel_rfl) hd hjn hn)), fun h5 => rfl⟩
  case hfin =>
    intro xs wl hx hSl ⟨x0, x1, x2, x3, x4, x5, hxs, fn, fm, fp, fr, fs, ft⟩ a' ha
    subst hxs
    simp only [putVs, Act.put, List.setIfInBounds_toArray, List.set_cons_zero, List.set_cons_succ] at ha
    subst ha
    have gn := fn (by decide)
    have gm := fm (by decide)
    have gp := fp (by decide)
    have gr := fr (by decide)
    have gs := fs (by decide)
    have gt := ft (by decide)
    clear fn fm fp fr fs ft
    subst gn
    subst gm
    subst gp
    subst gs
    subst gt
    obtain ⟨Ae, rfl, hre⟩ := gr
    have hHeld := hSl
    have HRE := Aside0.mk hre
    clear hre
    refine pure_ (i := 14) (N := some 7) (v := ?_) (a' := ?_) #[true, true, true, true, true, true, true, true, true, true, true, true, true, true, true] rfl rfl (by kernel_rfl) (fun _ _ _ h => h) (Or.inl ⟨by rfl, ?_⟩) ?_ ?_
    rotate_left
    · intro w'
      go_simp
      with_reducible rfl
    rotate_left
    · simp only [Act.put, List.setIfInBounds_toArray, List.set_cons_zero, List.set_cons_succ]
      rfl
    refine done_ (by kernel_rfl) ?_
    have HBW := Aside0.mk hSl
    clear hSl hHeld hdr
    by_cases hq0 : sq = 0
    · have f1 : (sq == 0) = true := by simp [hq0]
      go_wp2
      refine bodyPost_ret (results_list (rs := [.tmp 2, .tmp 3, .tmp 4]) rfl (by simp) (.tmp (.tmp (.tmp .nil)))) rfl ?_
      exact NO.out wl HBW.out (fun n m h => h.sq (by rw [← HSQ.out]; exact hq0))
    have f1 : (sq == 0) = false := by simp [hq0]
    by_cases hn1 : N = 0
    · have f2 : ((N : Int) == 0) = true := by simp [hn1]
      go_wp2
      refine bodyPost_ret (results_list (rs := [.tmp 2, .tmp 3, .tmp 4]) rfl (by simp) (.tmp (.tmp (.tmp .nil)))) rfl ?_
      exact NO.out wl HBW.out (fun n m h => by have h1 := h.cn; have h2 := h.n1; rw [HNN.out] at h1; omega)
    have f2 : ((N : Int) == 0) = false := by simp; omega
    by_cases hn2 : 64 < N
    · have f3 : decide ((64 : Int) < N) = true := decide_eq_true (by omega)
      go_wp2
      refine bodyPost_ret (results_list (rs := [.tmp 2, .tmp 3, .tmp 4]) rfl (by simp) (.tmp (.tmp (.tmp .nil)))) rfl ?_
      exact NO.out wl HBW.out (fun n m h => by have h1 := h.cn; have h2 := h.n64; rw [HNN.out] at h1; omega)
    have f3 : decide ((64 : Int) < N) = false := decide_eq_false (by omega)
    by_cases hn3 : n < N
    · have f4 : decide ((n : Int) < N) = true := decide_eq_true (by omega)
      go_wp2
      refine bodyPost_ret (results_list (rs := [.tmp 2, .tmp 3, .tmp 4]) rfl (by simp) (.tmp (.tmp (.tmp .nil)))) rfl ?_
      exact NO.out wl HBW.out (fun n' m h => by have h1 := h.cn; have h2 := h.nl; rw [HNN.out] at h1; rw [HL.out] at h2; omega)
    have f4 : decide ((n : Int) < N) = false := decide_eq_false (by omega)
    have INF := Aside0.mk info5
    have INF8 := Aside0.mk info58'
    have HQ0 := Aside0.mk hq0
    go_wp2_with fail
    go_loopw [7, 8] (fun y x wr => ∃ (k : Nat), k ≤ N ∧ x = .int .i64 k ∧ Aside0 (Kd.R byteK 5 wr W.heap.size tt y (logB l k)) ∧ Aside0 (Below W.heap.size W wr) ∧ Aside0 (∀ i : Nat, i < k → partP (l.getD i []) sq i N)) (fun _ x _ => N - (intOf x).toNat)
    case atStart => exact ⟨0, Nat.zero_le _, rfl, HRE, HBW, ⟨fun i h => absurd h (Nat.not_lt_zero _)⟩⟩
    case round =>
      obtain ⟨k, hk, rfl, HRk, HBk, HPk⟩ := hrel
      by_cases hlt : k < N
      · have g1 : decide ((k : Int) < N) = true := decide_eq_true (by omega)
        have hkn : k < n := by omega
        obtain ⟨ad', B, cB, hA, cel, hle, hCB⟩ := row_b HC.out k (by omega)
        injection hA with hA
        subst hA
        have hoks : BytesOk (l.getD k []) := getD_ok HBO.out k
        have HSU := Aside0.mk (logB_succ (show k < l.length by rw [HL.out]; omega))
        have HCEL := Aside0.mk (show ∀ w', Below W.heap.size W w' → w'.cell? (ad.add k) = some (.slice B (l.getD k []).length cB) from fun w' hB => cell_ons cel hB)
        have hnp : ¬ partP (l.getD k []) sq (k : Int) (N : Int) → ∀ n m, ¬ ScanOk l n m := fun hc n' m' h => by
          have h1 := h.cn
          rw [HNN.out] at h1
          obtain rfl : N = n' := by omega
          exact hc (by have := h.part k hlt; rwa [← HSQ.out] at this)
        have HNP := Aside0.mk hnp
        clear hnp
        obtain ⟨s, hs⟩ : ∃ s, s = l.getD k [] := ⟨_, rfl⟩
        rw [← hs] at hle hCB hoks HSU HCEL HNP
        have HS := Aside0.mk hs
        have HCB := Aside0.mk hCB
        have HLE := Aside0.mk hle
        clear hs hCB hle cel
        obtain ⟨m, hm⟩ : ∃ m, m = s.length := ⟨_, rfl⟩
        rw [← hm] at HCB HLE HCEL
        have HM := Aside0.mk hm
        clear hm
        by_cases h5 : m = 512
        case neg =>
          have f5 : ((m : Int) != 512) = true := by simp; omega
          have c1 := HCEL.out wr HBk.out
          go_wp2
          refine bodyPost_ret (results_list (rs := [.tmp 2, .tmp 3, .tmp 4]) rfl (by simp) (.tmp (.tmp (.tmp .nil)))) rfl ?_
          exact NO.out wr HBk.out (HNP.out (fun hc => h5 (HM.out.trans hc.1)))
        subst h5
        obtain ⟨bd2, hA, _⟩ := HCB.out.2.2 (by decide)
        subst hA
        have HBS2 := Aside0.mk hoks
        have hcB : 512 ≤ cB := HLE.out
        have M1 := Aside0.mk (fun (w' : World) (hB : Below W.heap.size W w') => numr_c (n := 8) (c := cB) (l := s.take 8) (by rw [List.length_take, ← HM.out]; rfl) (by rw [List.length_take]; omega) (HBS2.out.take 8) (takeC (Kd.C_below HCB.out hB) (by decide)) (by omega))
        have M2 := Aside0.mk (fun (w' : World) (hB : Below W.heap.size W w') => numr_c (n := 2) (c := cB - 8) (A := some (bd2.add 8)) (l := (s.take 10).drop 8) (by rw [List.length_drop, List.length_take, ← HM.out]; rfl) (by rw [List.length_drop, List.length_take]; omega) ((HBS2.out.take 10).drop 8) (dropC (n := 10) (m := 8) (c := cB) (takeC (Kd.C_below HCB.out hB) (by decide)) (by decide) (by omega) rfl (by rw [if_neg (by omega)]; rfl)) (by omega))
        have M3 := Aside0.mk (fun (w' : World) (hB : Below W.heap.size W w') => numr_c (n := 2) (c := cB - 10) (A := some (bd2.add 10)) (l := (s.take 12).drop 10) (by rw [List.length_drop, List.length_take, ← HM.out]; rfl) (by rw [List.length_drop, List.length_take]; omega) ((HBS2.out.take 12).drop 10) (dropC (n := 12) (m := 10) (c := cB) (takeC (Kd.C_below HCB.out hB) (by decide)) (by decide) (by omega) rfl (by rw [if_neg (by omega)]; rfl)) (by omega))
        have r8 : ¬ cB = 8 := by omega
        have r10 : ¬ cB = 10 := by omega
        have i1 : IntKind.u64.wrap (k : Int) = (k : Int) := u64_in (by omega) (by omega)
        have i2 : IntKind.u64.wrap (N : Int) = (N : Int) := u64_in (by omega) (by omega)
        have hpp : partP s sq (k : Int) (N : Int) ↔ (numB (s.take 8) = sq ∧ numB ((s.take 10).drop 8) = k ∧ numB ((s.take 12).drop 10) = N) := ⟨fun h => h.2, fun h => ⟨HM.out.symm, h⟩⟩
        generalize numB (s.take 8) = x1 at M1 hpp
        generalize numB ((s.take 10).drop 8) = x2 at M2 hpp
        generalize numB ((s.take 12).drop 10) = x3 at M3 hpp
        have HPP := Aside0.mk hpp
        clear hpp hoks
        have c1 := HCEL.out wr HBk.out
        by_cases e1 : x1 = sq
        case neg =>
          have f5 : (x1 != sq) = true := by simp [e1]
          go_wp2_with (go_at_call 41; refine (M1.out wr HBk.out).mono ?_; rintro e w3 ⟨rfl, h1⟩; have HB3 := Aside0.mk (HBk.out.trans (h1.mono HBk.out.size)); have HY3 := Aside0.mk h1; have c2 := HCEL.out w3 HB3.out; clear h1)
          refine bodyPost_ret (results_list (rs := [.tmp 2, .tmp 3, .tmp 4]) rfl (by simp) (.tmp (.tmp (.tmp .nil)))) rfl ?_
          exact NO.out w3 HB3.out (HNP.out (fun hc => e1 (HPP.out.1 hc).1))
        by_cases e2 : x2 = (k : Int)
        case neg =>
          have f5 : (x1 != sq) = false := by simp [e1]
          have f6 : (x2 != (k : Int)) = true := by simp [e2]
          clear e1
          go_wp2_with (first
            | (go_at_call 41; refine (M2.out w3 HB3.out).mono ?_; rintro e w4 ⟨rfl, h1⟩; have HB4 := Aside0.mk (HB3.out.trans (h1.mono HB3.out.size)); have HY4 := Aside0.mk h1; have c3 := HCEL.out w4 HB4.out; clear h1)
            | (go_at_call 41; refine (M1.out wr HBk.out).mono ?_; rintro e w3 ⟨rfl, h1⟩; have HB3 := Aside0.mk (HBk.out.trans (h1.mono HBk.out.size)); have HY3 := Aside0.mk h1; have c2 := HCEL.out w3 HB3.out; clear h1))
          refine bodyPost_ret (results_list (rs := [.tmp 2, .tmp 3, .tmp 4]) rfl (by simp) (.tmp (.tmp (.tmp .nil)))) rfl ?_
          exact NO.out w4 HB4.out (HNP.out (fun hc => e2 (HPP.out.1 hc).2.1))
        by_cases e3 : x3 = (N : Int)
        case neg =>
          have f5 : (x1 != sq) = false := by simp [e1]
          have f6 : (x2 != (k : Int)) = false := by simp [e2]
          have f7 : (x3 != (N : Int)) = true := by simp [e3]
          clear e1 e2
          go_wp2_with (first
            | (go_at_call 41; refine (M3.out w4 HB4.out).mono ?_; rintro e w5 ⟨rfl, h1⟩; have HB5 := Aside0.mk (HB4.out.trans (h1.mono HB4.out.size)); have HY5 := Aside0.mk h1; clear h1)
            | (go_at_call 41; refine (M2.out w3 HB3.out).mono ?_; rintro e w4 ⟨rfl, h1⟩; have HB4 := Aside0.mk (HB3.out.trans (h1.mono HB3.out.size)); have HY4 := Aside0.mk h1; have c3 := HCEL.out w4 HB4.out; clear h1)
            | (go_at_call 41; refine (M1.out wr HBk.out).mono ?_; rintro e w3 ⟨rfl, h1⟩; have HB3 := Aside0.mk (HBk.out.trans (h1.mono HBk.out.size)); have HY3 := Aside0.mk h1; have c2 := HCEL.out w3 HB3.out; clear h1))
          refine bodyPost_ret (results_list (rs := [.tmp 2, .tmp 3, .tmp 4]) rfl (by simp) (.tmp (.tmp (.tmp .nil)))) rfl ?_
          exact NO.out w5 HB5.out (HNP.out (fun hc => e3 (HPP.out.1 hc).2.2))
        have HPT := Aside0.mk (HPP.out.2 ⟨e1, e2, e3⟩)
        have f5 : (x1 != sq) = false := by simp [e1]
        have f6 : (x2 != (k : Int)) = false := by simp [e2]
        have f7 : (x3 != (N : Int)) = false := by simp [e3]
        clear e1 e2 e3
        obtain ⟨A6, c6, hv⟩ := Kd.R_slice HRk.out
        subst hv
        have hll := logB_len k (show k ≤ l.length by rw [HL.out]; omega) (fun i hi => (HPk.out i hi).1)
        obtain ⟨m6, hm6⟩ : ∃ m6, m6 = (logB l k).length := ⟨_, rfl⟩
        have HRk' := Aside0.mk (show Kd.R byteK 5 wr W.heap.size tt (.slice A6 m6 c6) (logB l k) by rw [hm6]; exact HRk.out)
        rw [← hm6]
        have HM6 := Aside0.mk (show (logB l k).length ≤ 100000 by omega)
        clear HRk hm6 hll
        obtain ⟨Ap, hAp⟩ : ∃ Ap, Ap = if cB = 12 then some bd2 else (some bd2).map (·.add (12 * 1)) := ⟨_, rfl⟩
        have HAP := Aside0.mk hAp
        clear hAp
        go_upto_region 11 with (first
          | (go_at_call 41; refine (M3.out w4 HB4.out).mono ?_; rintro e w5 ⟨rfl, h1⟩; have HB5 := Aside0.mk (HB4.out.trans (h1.mono HB4.out.size)); have HY5 := Aside0.mk h1; clear h1)
          | (go_at_call 41; refine (M2.out w3 HB3.out).mono ?_; rintro e w4 ⟨rfl, h1⟩; have HB4 := Aside0.mk (HB3.out.trans (h1.mono HB3.out.size)); have HY4 := Aside0.mk h1; have c3 := HCEL.out w4 HB4.out; clear h1)
          | (go_at_call 41; refine (M1.out wr HBk.out).mono ?_; rintro e w3 ⟨rfl, h1⟩; have HB3 := Aside0.mk (HBk.out.trans (h1.mono HBk.out.size)); have HY3 := Aside0.mk h1; have c2 := HCEL.out w3 HB3.out; clear h1))
        have HR5 := Aside0.mk (Kd.R_below HRk'.out ((HY3.out.trans (HY4.out.mono HY3.out.size)).trans (HY5.out.mono (Nat.le_trans HY3.out.size HY4.out.size))))
        have c4 := HCEL.out w5 HB5.out
        go_wp2_with (first
          | ((with_reducible refine gate_dst (N := 100) rfl ?_); refine Kd.event_run rfl (ex_lo (m := 12) und56 size5' rfl rfl rfl (by omega) HAP.out) ?_)
          | ((with_reducible refine gate_dst (N := 101) rfl ?_); at_builtin; refine Kd.R_append_rows byteK (w0 := W) W.heap.size rfl (.tmp 95) (.tmp 100) 56 5 (.int .u8 0) 1 rfl Try.underlying56 INF.out rfl (by decide) (by decide) (.slice A6 m6 c6) (logB l k) (s.drop 12) Ap 500 (cB - 12) tt (fun _ => False) rfl rfl HR5.out (dropC (n := 512) (m := 12) (c := cB) (Kd.C_below HCB.out HB5.out) (by decide) HLE.out rfl HAP.out) (fun _ _ h => h) (fun _ h => h.elim) (fun _ _ => trivial) HB5.out HB5.out.size ?hl ?_; (case hl => have := HM6.out; omega); intro v6 w6 ho hb hG hat; rw [← HSU.out] at ho; have HR6 := Aside0.mk ho; have HB6 := Aside0.mk hb; clear ho hb hG hat))
        go_roundw
        case rel =>
          refine ⟨_, _, _, _, _, _, _, _, _, _, _, _, _, _, _, _, _, _, _, _, _, _, _, _, _, _, _, _, _, _, _, _, _, _, _, _, _, _, _, _, _, _, _, _, _, _, _, _, _, _, _, _, _, _, _, ?_, rfl⟩
          exact ⟨k + 1, by omega, by go_num, HR6, HB6, ⟨fun i hi => by
            by_cases e : i = k
            · subst e; rw [← HS.out]; exact HPT.out
            · exact HPk.out i (by omega)⟩⟩
        case measure =>
          show N - (intOf (Value.int .i64 ((k : Int) + 1))).toNat < N - (intOf (Value.int .i64 (k : Int))).toNat
          simp [intOf]; omega
      · obtain rfl : k = N := by omega
        have g1 : decide ((k : Int) < k) = false := decide_eq_false (by omega)
        obtain ⟨A6, c6, hv⟩ := Kd.R_slice HRk.out
        subst hv
        have hll := logB_len k (show k ≤ l.length by rw [HL.out]; omega) (fun i hi => (HPk.out i hi).1)
        have hbok := logB_ok HBO.out k
        obtain ⟨bb, hbb⟩ : ∃ bb, bb = logB l k := ⟨_, rfl⟩
        rw [← hbb] at hll hbok HRk ⊢
        have HBB := Aside0.mk hbb
        have HCb := Aside0.mk (Kd.R_reads' HRk.out)
        have hc6 := HCb.out.2.1
        obtain ⟨m6, hm6⟩ : ∃ m6, m6 = bb.length := ⟨_, rfl⟩
        have HC6 := Aside0.mk (show Kd.C byteK wr A6 m6 bb by rw [hm6]; exact HCb.out.2.2)
        rw [← hm6] at hc6 hll ⊢
        have HM6 := Aside0.mk hm6
        have HOK := Aside0.mk hbok
        clear hbb HCb hm6 HRk hbok
        have N3 := Aside0.mk (fun (w' : World) (hB : Below wr.heap.size wr w') => numr_c (n := 4) (c := c6) (A := A6) (l := bb.take 4) (by rw [List.length_take, ← HM6.out]; omega) (by rw [List.length_take]; omega) (HOK.out.take 4) (takeC (Kd.C_below HC6.out hB) (by omega)) (by omega))
        have b3 := numB_bound (HOK.out.take 4)
        rw [List.length_take, ← HM6.out, show min 4 m6 = 4 by omega] at b3
        obtain ⟨M, hM⟩ : ∃ M : Nat, M = (numB (bb.take 4)).toNat := ⟨_, rfl⟩
        have hM' : numB (bb.take 4) = (M : Int) := by omega
        rw [hM'] at N3
        have hMb : M < 4294967296 := by
          have := b3.2
          rw [hM'] at this
          have h : (256 : Int) ^ 4 = 4294967296 := by decide
          omega
        have HMM := Aside0.mk (show manyB (logB l k) = (M : Int) by rw [← HBB.out]; exact hM')
        clear b3 hM hM'
        have iM : IntKind.i64.wrap (M : Int) = (M : Int) := by rw [IntKind.wrap_i64]; omega
        have HX := Aside0.mk (And.intro hll hc6)
        have HNO2 := Aside0.mk (show ¬ (M ≤ 64 ∧ secsN M = k) → ∀ n m, ¬ ScanOk l n m from fun hc n' m' h => by
          have h1 := h.cn
          rw [HNN.out] at h1
          obtain rfl : k = n' := by omega
          have h2 := h.mn
          rw [HMM.out] at h2
          obtain rfl : M = m' := by omega
          exact hc ⟨h.m64, h.secs⟩)
        go_upto_region 13 with (first
          | ((with_reducible refine gate_dst (N := 103) rfl ?_); refine Kd.event_run rfl (ex_hi (m := 4) und56 size5' rfl rfl rfl (by have := HX.out; omega)) ?_)
          | (go_at_call 41; refine (N3.out wr (Below.refl _ _)).mono ?_; rintro e w5 ⟨rfl, h1⟩; have HB5 := Aside0.mk (HBk.out.trans (h1.mono HBk.out.size)); have HY5 := Aside0.mk h1; clear h1)
          | ((with_reducible refine gate_dst (N := 105) rfl ?_); refine Kd.R_lit k58 (w0 := w5) w5.heap.size 58 ?hg (N := 105) ?hd (xs := ([] : List S58)) (inner := []) (ok := tt) (okp := tt) ?hr ?hp (fun _ hk => hk) trivial (Below.refl _ _) (Nat.le_refl _) (by simp) ?_; (case hd => rfl); (case hg => rfl); (case hr => first | (go_simp; done) | (go_simp; rfl)); (case hp => exact (Reps.none _ _)); intro v6 w6 ho hb hg_ hnew_; have HO6 := Aside0.mk ho; have HB6 := Aside0.mk hb; clear hb ho hg_ hnew_))
        by_cases hM64 : 64 < M
        · have g2 : decide ((64 : Int) < M) = true := decide_eq_true (by omega)
          go_wp2
          refine bodyPost_ret (results_list (rs := [.tmp 2, .tmp 3, .tmp 4]) rfl (by simp) (.tmp (.tmp (.tmp .nil)))) rfl ?_
          exact NO.out w6 (HB5.out.trans (HB6.out.mono HB5.out.size)) (HNO2.out (fun hc => by omega))
        have g2 : decide ((64 : Int) < M) = false := decide_eq_false (by omega)
        have HSE := Aside0.mk (fun (w : World) => need_c (w := w) M (by omega))
        by_cases hsN : secsN M = k
        case neg =>
          obtain ⟨sm, hsm⟩ : ∃ sm, sm = secsN M := ⟨_, rfl⟩
          rw [← hsm] at HSE hsN
          have g3 : ((sm : Int) != k) = true := by simp; omega
          have HSM := Aside0.mk hsm
          clear hsm
          go_wp2_with (go_at_call 38; refine (HSE.out w6).mono ?_; rintro e w7 ⟨rfl, h1⟩; have HB7 := Aside0.mk ((HB5.out.trans (HB6.out.mono HB5.out.size)).trans (h1.mono (Nat.le_trans HB5.out.size HB6.out.size))); clear h1)
          refine bodyPost_ret (results_list (rs := [.tmp 2, .tmp 3, .tmp 4]) rfl (by simp) (.tmp (.tmp (.tmp .nil)))) rfl ?_
          exact NO.out w7 HB7.out (HNO2.out (fun hc => hsN (HSM.out.trans hc.2)))
        rw [hsN] at HSE
        have g3 : ((k : Int) != k) = false := by simp
        have HSN := Aside0.mk hsN
        have hMN : 4 + 516 * M ≤ m6 ∧ M ≤ 64 := by rw [hll, ← hsN]; unfold secsN; omega
        clear hsN
        go_wp2_with (go_at_call 38; refine (HSE.out w6).mono ?_; rintro e w7 ⟨rfl, h1⟩; have HB7 := Aside0.mk (HB6.out.trans (h1.mono HB6.out.size)); have HO7 := Aside0.mk (Kd.R_below HO6.out h1); clear h1)
        have HHH := Aside0.mk (And.intro hMN (And.intro hll hc6))
        have HC7 := Aside0.mk (Kd.C_below HC6.out HY5.out)
        go_loopw [10, 11] (fun y x wr => ∃ (j : Nat), j ≤ M ∧ x = .int .i64 j ∧ Aside0 (Kd.R k58 58 wr w5.heap.size tt y ((List.range j).map (pageAt bb))) ∧ Aside0 (∀ i, i < j → noAt bb i ≤ 2147483647) ∧ Aside0 (Below w5.heap.size w5 wr)) (fun _ x _ => M - (intOf x).toNat)
        case atStart => exact ⟨0, Nat.zero_le _, rfl, HO7, ⟨fun i h => absurd h (Nat.not_lt_zero _)⟩, HB7⟩
        case round =>
          obtain ⟨j, hj, rfl, HRj, HNj, HBj⟩ := hrel
          obtain ⟨Ao, co, hv⟩ := Kd.R_slice HRj.out
          subst hv
          rw [List.length_map, List.length_range] at HRj ⊢
          by_cases hlt2 : j < M
          · have k1 : decide ((j : Int) < M) = true := decide_eq_true (by omega)
            obtain ⟨q, hq⟩ : ∃ q, q = 4 + 516 * j := ⟨_, rfl⟩
            obtain ⟨q4, hq4⟩ : ∃ q4, q4 = q + 4 := ⟨_, rfl⟩
            obtain ⟨q5, hq5⟩ : ∃ q5, q5 = q + 516 := ⟨_, rfl⟩
            have hqb : q4 ≤ q5 ∧ q5 ≤ m6 ∧ q ≤ q4 ∧ q4 - q = 4 ∧ q5 - q4 = 512 ∧ q5 ≤ c6 := by omega
            have a1 : IntKind.i64.wrap (516 * (j : Int)) = 516 * (j : Int) := by rw [IntKind.wrap_i64]; omega
            have a2 : IntKind.i64.wrap (4 + 516 * (j : Int)) = (q : Int) := by rw [IntKind.wrap_i64]; omega
            have a3 : IntKind.i64.wrap ((q : Int) + 4) = (q4 : Int) := by rw [IntKind.wrap_i64]; omega
            have a4 : IntKind.i64.wrap ((q : Int) + 516) = (q5 : Int) := by rw [IntKind.wrap_i64]; omega
            obtain ⟨Aq, hAq⟩ : ∃ Aq, Aq = if c6 = q then A6 else A6.map (·.add (q * 1)) := ⟨_, rfl⟩
            obtain ⟨Ar, hAr⟩ : ∃ Ar, Ar = if c6 = q4 then A6 else A6.map (·.add (q4 * 1)) := ⟨_, rfl⟩
            have d1 : (bb.take q4).drop q = (bb.drop (4 + 516 * j)).take 4 := by rw [List.drop_take, hqb.2.2.2.1, hq]
            have d2 : (bb.take q5).drop q4 = ((bb.drop (4 + 516 * j)).take 516).drop 4 := by
              rw [List.drop_take, List.drop_take, List.drop_drop, hqb.2.2.2.2.1, hq4, hq]
            have N4 := Aside0.mk (fun (w' : World) (hB : Below w5.heap.size w5 w') => numr_c (n := 4) (c := c6 - q) (A := Aq) (l := (bb.take q4).drop q) (by rw [List.length_drop, List.length_take, ← HM6.out]; omega) (by rw [List.length_drop, List.length_take, ← HM6.out]; omega) ((HOK.out.take _).drop _) (by
              have h := dropC (n := q4) (m := q) (c := c6) (takeC (Kd.C_below HC7.out hB) (by omega)) hqb.2.2.1 (by omega) rfl hAq
              rwa [hqb.2.2.2.1] at h) (by omega))
            have HCR := Aside0.mk (show ∀ w', Below w5.heap.size w5 w' → Kd.C byteK w' Ar 512 ((bb.take q5).drop q4) from fun w' hB => by
              have h := dropC (n := q5) (m := q4) (c := c6) (takeC (Kd.C_below HC7.out hB) (by omega)) hqb.1 (by omega) rfl hAr
              rwa [hqb.2.2.2.2.1] at h)
            have b4 := numB_bound ((HOK.out.take q4).drop q)
            rw [List.length_drop, List.length_take, ← HM6.out, show min q4 m6 - q = 4 by omega, d1] at b4
            rw [d1] at N4
            rw [d2] at HCR
            have e4 : numB ((bb.drop (4 + 516 * j)).take 4) = noAt bb j := rfl
            rw [e4] at N4 b4
            obtain ⟨nx, hnx⟩ : ∃ nx, nx = noAt bb j := ⟨_, rfl⟩
            rw [← hnx] at N4 b4
            have HNX := Aside0.mk hnx
            have hb4 : 0 ≤ nx ∧ nx < 4294967296 := by
              have h : (256 : Int) ^ 4 = 4294967296 := by decide
              omega
            have iX : IntKind.i64.wrap nx = nx := by rw [IntKind.wrap_i64]; omega
            have HAQ := Aside0.mk hAq
            have HAR := Aside0.mk hAr
            have HQB := Aside0.mk hqb
            obtain ⟨pg, hpg⟩ : ∃ pg, pg = ((bb.drop (4 + 516 * j)).take 516).drop 4 := ⟨_, rfl⟩
            have hpl : pg.length = 512 := by rw [hpg, ← d2, List.length_drop, List.length_take, ← HM6.out]; omega
            rw [← hpg] at HCR
            have HPG := Aside0.mk hpg
            have HPL := Aside0.mk hpl
            clear e4 hnx b4 d1 d2 hAq hAr hpg hpl hqb hq hq4 hq5
            go_upto_region 20 with (first
              | ((with_reducible refine gate_dst (N := 128) rfl ?_); refine Kd.event_run rfl (ex_mid (m := q) (h := q4) und56 size5' rfl rfl rfl rfl HQB.out.2.2.1 (by have := HQB.out; omega) HAQ.out) ?_; rw [HQB.out.2.2.2.1])
              | (go_at_call 41; refine (N4.out wr HBj.out).mono ?_; rintro e w9 ⟨rfl, h1⟩; have HB9 := Aside0.mk (HBj.out.trans (h1.mono HBj.out.size)); have HR9 := Aside0.mk (Kd.R_below HRj.out h1); clear h1))
            by_cases hbig : 2147483647 < nx
            · have k2 : decide (2147483647 < nx) = true := decide_eq_true hbig
              go_wp2
              refine bodyPost_ret (results_list (rs := [.tmp 2, .tmp 3, .tmp 4]) rfl (by simp) (.tmp (.tmp (.tmp .nil)))) rfl ?_
              exact NO.out w9 (HB5.out.trans (HB9.out.mono HB5.out.size)) (fun n' m' h => by
                have h1 := h.cn
                rw [HNN.out] at h1
                obtain rfl : k = n' := by omega
                have h2 := h.mn
                rw [HMM.out] at h2
                obtain rfl : M = m' := by omega
                have h3 := h.nos j hlt2
                rw [← HBB.out, ← HNX.out] at h3
                omega)
            have k2 : decide (2147483647 < nx) = false := decide_eq_false hbig
            have HNB := Aside0.mk (show nx ≤ 2147483647 by omega)
            clear hbig
            go_wp2_with (first
              | ((with_reducible refine gate_dst (N := 135) rfl ?_); refine Kd.R_lit byteK (w0 := w9) w9.heap.size 5 ?hg (N := 135) ?hd (xs := ([] : List Int)) (inner := []) (ok := tt) (okp := tt) ?hr ?hp (fun _ hk => hk) trivial (Below.refl _ _) (Nat.le_refl _) (by simp) ?_; (case hd => rfl); (case hg => rfl); (case hr => first | (go_simp; done) | (go_simp; rfl)); (case hp => exact (Reps.none _ _)); intro v10 w10 ho hb hg_ hnew_; have HO10 := Aside0.mk ho; have HB10 := Aside0.mk hb; clear hb ho hg_ hnew_)
              | ((with_reducible refine gate_dst (N := 141) rfl ?_); refine Kd.event_run rfl (ex_mid (m := q4) (h := q5) und56 size5' rfl rfl rfl rfl HQB.out.1 (by have := HQB.out; omega) HAR.out) ?_; rw [HQB.out.2.2.2.2.1])
              | ((with_reducible refine gate_dst (N := 142) rfl ?_); at_builtin; refine Kd.R_append_rows byteK (w0 := w9) w9.heap.size rfl (.tmp 135) (.tmp 141) 56 5 (.int .u8 0) 1 rfl Try.underlying56 INF.out rfl (by decide) (by decide) v10 [] pg Ar 512 (c6 - q4) tt (fun _ => False) rfl rfl HO10.out (HCR.out w10 (HB9.out.trans (HB10.out.mono HB9.out.size))) (fun _ _ h => h) (fun _ h => h.elim) (fun _ _ => trivial) HB10.out HB10.out.size ?hl ?_; (case hl => simp); intro v11 w11 ho hb hG hat; rw [List.nil_append] at ho; obtain ⟨A11, c11, e11⟩ := Kd.R_slice ho; rw [HPL.out] at e11; subst e11; have HV11 := Aside0.mk (Kd.R_mono (ok' := fun k => w9.heap.size ≤ k) (Kd.R_bound ho) (fun k hk => hk.2.1)); have HB11 := Aside0.mk (HB9.out.trans (hb.mono HB9.out.size)); have HR11 := Aside0.mk (Kd.R_below HR9.out hb); clear ho hb hG hat)
              | ((with_reducible refine gate_dst (N := 145) rfl ?_); at_builtin; refine Kd.R_append k58 (w0 := w5) (W := w11) w5.heap.size rfl (.tmp 132) (.tmp 144) 23 58 (.agg #[.int .i64 0, .slice none 0 0]) 32 rfl Try.underlying23 INF8.out rfl (by decide) (by decide) (.slice Ao j co) ((List.range j).map (pageAt bb)) ⟨nx, pg⟩ [.int .i64 nx, .slice A11 512 c11] tt (fun k => w9.heap.size ≤ k) rfl rfl (k58_mkM w11 w5.heap.size (fun k => w9.heap.size ≤ k) ⟨nx, pg⟩ (Kd.R_lower HV11.out HB9.out.size)) (fun k hk => ⟨trivial, fun e => Nat.not_lt.2 hk (Kd.R_lt HR9.out k e.symm)⟩) (fun _ _ => trivial) HR11.out HB11.out HB11.out.size ?hl ?_; (case hl => simp; omega); intro v12 w12 ho hb hG hat; have HO12 := Aside0.mk ho; have HB12 := Aside0.mk hb; clear ho hb hG hat))
            go_roundw
            case rel => exact ⟨j + 1, by omega, by go_num, ⟨by
                have h := HO12.out
                rw [show (⟨nx, pg⟩ : S58) = pageAt bb j by unfold pageAt; rw [← HNX.out, ← HPG.out]] at h
                rw [List.range_succ, List.map_append, List.map_cons, List.map_nil]
                exact h⟩, ⟨fun i hi => by
                by_cases e : i = j
                · subst e; rw [← HNX.out]; exact HNB.out
                · exact HNj.out i (by omega)⟩, HB12⟩
            case measure => simp [intOf]; omega
          · obtain rfl : j = M := by omega
            have k1 : decide ((j : Int) < j) = false := decide_eq_false (by omega)
            go_wp2
            refine bodyPost_ret (results_list (rs := [.tmp 2, .tmp 3, .tmp 4]) rfl (by simp) (.tmp (.tmp (.tmp .nil)))) rfl ?_
            refine ⟨sq, outS l k j, true, _, rfl, .inl ⟨rfl, HSQ.out, k, j, ⟨by rw [HL.out]; omega, by rw [← HS0.out]; exact HN0.out.symm, by rw [← HSQ.out]; exact HQ0.out, HNN.out, by omega, by omega, by rw [HL.out]; omega, fun i hi => by rw [← HSQ.out]; exact HPk.out i hi, HMM.out, by omega, HSN.out, fun i hi => by rw [← HBB.out]; exact HNj.out i hi⟩, rfl⟩, ?_, HB5.out.trans (HBj.out.mono HB5.out.size)⟩
            have h := Kd.R_lower HRj.out HB5.out.size
            unfold outS
            rw [← HBB.out]
            exact h
end Go.Proofs.Ytmghgghheebnjaa.Dis
namespace Go.Proofs.Ytmghgghheebnjaa.Dis
open Go.RowKit Go.Proofs.YtmghgghheebnjaaW.PrintWords Go.Proofs.YtmghgghheebnjaaW.PrintLast Go.Proofs.YtmghgghheebnjaaW.PrintMore Go.Maps Go.Proofs.Ytmghgghheebnjaa.PWalRecords
set_option linter.unusedVariables false
set_option linter.unusedSimpArgs false
theorem und9r : Try.prog.underlying 9 = some .string := by kernel_rfl
theorem bytes_stringr {w : World} {A : Option Addr} {n c : Nat} {xs : List Int} (h : (Kd.int .u8).C w A n xs) : (convert 56 9 (.slice A n c)).run Try.prog w = .ok (.string (strOfNums xs)) w := Kd.C_string Try.underlying56 Try.underlying5 und9r h
theorem exec_convr {o : Oper} {a : Act} {W : World} {x : Operand} {v : Value} {s : ByteArray} (ho : o.op = .convert 56 9 x) (hx : a.eval x = v) (hrun : (convert 56 9 v).run Try.prog W = .ok (.string s) W) : (execOp a.eval o).run Try.prog W = .ok (.value (.string s)) W := by
  simp [execOp, ho, hx, hrun]
theorem cell_onr {w w1 : World} {p : Addr} {v : Value} (h : w.cell? p = some v) (hb : Below w.heap.size w w1) : w1.cell? p = some v := (hb.cell (World.block_lt_of_cell? w p h)).trans h
set_option maxHeartbeats 8000000 in
set_option maxRecDepth 100000 in
theorem same_one (W : World) (A B : Option Addr) (n ca cb : Nat) (l : List (List Int)) (hA : Kd.C rowK W A n l) (hB : Kd.C rowK W B n l) : Calls Try.prog 13 #[.slice A n ca, .slice B n cb] W fun e w' => e = .returned (.bool true) ∧ Below W.heap.size W w' := by
  have HA := Aside0.mk hA
  have HB := Aside0.mk hB
  have hmx : n ≤ 9223372036854775807 := hA.2.1
  clear hA hB
  go_enter Try.func13, Try.ntmps13
  go_wp2_with fail
  go_loopw [5] (fun x wr => ∃ (k : Nat), k ≤ n ∧ x = .int .i64 k ∧ Aside0 (Below W.heap.size W wr)) (fun x _ => n - (intOf x).toNat)
  case atStart => exact ⟨0, Nat.zero_le _, rfl, ⟨Below.refl _ _⟩⟩
  case round =>
    obtain ⟨k, hk, rfl, HBk⟩ := hrel
    by_cases hlt : k < n
    · have f1 : decide ((k : Int) < n) = true := decide_eq_true (by omega)
      obtain ⟨ad1, B1, c1, e1, x1, l1, g1⟩ := at_L2 HA.out (k : Int) (by omega) (by omega)
      obtain ⟨ad2, B2, c2, e2, x2, l2, g2⟩ := at_L2 HB.out (k : Int) (by omega) (by omega)
      subst e1
      subst e2
      rw [Int.toNat_natCast] at x1 x2
      obtain ⟨b, hb⟩ : ∃ b, b = rd_L2 l (k : Int) := ⟨_, rfl⟩
      rw [← hb] at x1 x2 l1 l2 g1 g2
      obtain ⟨lb, hlb⟩ : ∃ lb, lb = b.length := ⟨_, rfl⟩
      rw [← hlb] at x1 x2 l1 l2 g1 g2
      have HC1 := Aside0.mk (show ∀ w', Below W.heap.size W w' → w'.cell? (ad1.add k) = some (.slice B1 lb c1) from fun w' h => cell_onr x1 h)
      have HC2 := Aside0.mk (show ∀ w', Below W.heap.size W w' → w'.cell? (ad2.add k) = some (.slice B2 lb c2) from fun w' h => cell_onr x2 h)
      have HR1 := Aside0.mk g1
      have HR2 := Aside0.mk g2
      clear hb hlb x1 x2 l1 l2 g1 g2
      go_upto_region 6 with fail
      have hdr : Below wr.heap.size wr wr.drew := below_drew (Below.refl _ _)
      have HBd := Aside0.mk (HBk.out.trans (hdr.mono HBk.out.size))
      refine start_ (n := 11) (S := fun w' => Below W.heap.size W w') (ds := []) #[false, false, false, false, false, false, false, false, false, false, false] (by kernel_rfl) rfl rfl HBd.out (fun hHeld => ?_)
      generalize wr.drew = wD at hHeld hdr HBd ⊢
      refine pure_ (i := 0) (N := some 17) (v := ?_) (a' := ?_) #[true, false, false, false, false, false, false, false, false, false, false] rfl rfl (by kernel_rfl) (fun _ _ _ h => h) (Or.inl ⟨by rfl, ?_⟩) ?_ ?_
      rotate_left
      · intro w'
        go_simp
        with_reducible rfl
      rotate_left
      · simp only [Act.put, List.setIfInBounds_toArray, List.set_cons_zero, List.set_cons_succ]
        rfl
      refine pure_ (i := 1) (N := some 18) (v := ?_) (a' := ?_) #[true, true, false, false, false, false, false, false, false, false, false] rfl rfl (by kernel_rfl) (fun _ _ _ h => h) (Or.inl ⟨by rfl, ?_⟩) ?_ ?_
      rotate_left
      · intro w'
        go_simp
        with_reducible rfl
      rotate_left
      · simp only [Act.put, List.setIfInBounds_toArray, List.set_cons_zero, List.set_cons_succ]
        rfl
      refine pure_ (i := 2) (N := some 19) (v := .pointer (some (ad1.add k))) (a' := ?_) #[true, true, true, false, false, false, false, false, false, false, false] rfl rfl (by kernel_rfl) (fun _ _ _ h => h) (Or.inl ⟨by rfl, ?_⟩) ?_ ?_
      · intro w'
        first | (go_simp; done) | (go_simp; rw [if_pos (show k < n by omega)])
      rotate_left
      · simp only [Act.put, List.setIfInBounds_toArray, List.set_cons_zero, List.set_cons_succ]
        rfl
      refine take_ (i := 3) (N := some 20) (v := .slice B1 lb c1) (a' := ?_) #[true, true, true, true, false, false, false, false, false, false, false] rfl rfl (by kernel_rfl) (fun _ _ _ h => h) (Or.inl ⟨by rfl, ?_⟩) hHeld ?_ ?_
      · intro w' s0
        have s1 := HC1.out w' s0
        first | (go_simp; done) | (go_simp; with_reducible rfl)
      rotate_left
      · simp only [Act.put, List.setIfInBounds_toArray, List.set_cons_zero, List.set_cons_succ]
        rfl
      refine take_ (i := 4) (N := some 21) (v := .string (strOfNums b)) (a' := ?_) #[true, true, true, true, true, false, false, false, false, false, false] rfl rfl (by kernel_rfl) (fun _ _ _ h => h) (Or.inl ⟨by rfl, ?_⟩) hHeld ?_ ?_
      · intro w' s0
        exact exec_convr (x := .tmp 20) rfl rfl (bytes_stringr (c := c1) (Kd.C_below HR1.out s0))
      rotate_left
      · simp only [Act.put, List.setIfInBounds_toArray, List.set_cons_zero, List.set_cons_succ]
        rfl
      refine pure_ (i := 5) (N := some 22) (v := ?_) (a' := ?_) #[true, true, true, true, true, true, false, false, false, false, false] rfl rfl (by kernel_rfl) (fun _ _ _ h => h) (Or.inl ⟨by rfl, ?_⟩) ?_ ?_
      rotate_left
      · intro w'
        go_simp
        with_reducible rfl
      rotate_left
      · simp only [Act.put, List.setIfInBounds_toArray, List.set_cons_zero, List.set_cons_succ]
        rfl
      refine pure_ (i := 6) (N := some 23) (v := ?_) (a' := ?_) #[true, true, true, true, true, true, true, false, false, false, false] rfl rfl (by kernel_rfl) (fun _ _ _ h => h) (Or.inl ⟨by rfl, ?_⟩) ?_ ?_
      rotate_left
      · intro w'
        go_simp
        with_reducible rfl
      rotate_left
      · simp only [Act.put, List.setIfInBounds_toArray, List.set_cons_zero, List.set_cons_succ]
        rfl
      refine pure_ (i := 7) (N := some 24) (v := .pointer (some (ad2.add k))) (a' := ?_) #[true, true, true, true, true, true, true, true, false, false, false] rfl rfl (by kernel_rfl) (fun _ _ _ h => h) (Or.inl ⟨by rfl, ?_⟩) ?_ ?_
      · intro w'
        first | (go_simp; done) | (go_simp; rw [if_pos (show k < n by omega)])
      rotate_left
      · simp only [Act.put, List.setIfInBounds_toArray, List.set_cons_zero, List.set_cons_succ]
        rfl
      refine take_ (i := 8) (N := some 25) (v := .slice B2 lb c2) (a' := ?_) #[true, true, true, true, true, true, true, true, true, false, false] rfl rfl (by kernel_rfl) (fun _ _ _ h => h) (Or.inl ⟨by rfl, ?_⟩) hHeld ?_ ?_
      · intro w' s0
        have s1 := HC2.out w' s0
        first | (go_simp; done) | (go_simp; with_reducible rfl)
      rotate_left
      · simp only [Act.put, List.setIfInBounds_toArray, List.set_cons_zero, List.set_cons_succ]
        rfl
      refine take_ (i := 9) (N := some 26) (v := .string (strOfNums b)) (a' := ?_) #[true, true, true, true, true, true, true, true, true, true, false] rfl rfl (by kernel_rfl) (fun _ _ _ h => h) (Or.inl ⟨by rfl, ?_⟩) hHeld ?_ ?_
      · intro w' s0
        exact exec_convr (x := .tmp 25) rfl rfl (bytes_stringr (c := c2) (Kd.C_below HR2.out s0))
      rotate_left
      · simp only [Act.put, List.setIfInBounds_toArray, List.set_cons_zero, List.set_cons_succ]
        rfl
      refine pure_ (i := 10) (N := some 27) (v := .bool false) (a' := ?_) #[true, true, true, true, true, true, true, true, true, true, true] rfl rfl (by kernel_rfl) (fun _ _ _ h => h) (Or.inl ⟨by rfl, ?_⟩) ?_ ?_
      · intro w'
        first | (go_simp; done) | (go_simp; simp)
      rotate_left
      · simp only [Act.put, List.setIfInBounds_toArray, List.set_cons_zero, List.set_cons_succ]
        rfl
      refine done_ (by kernel_rfl) ?_
      go_wp2
      go_roundw
      case rel => exact ⟨k + 1, by omega, by go_num, HBd⟩
      case measure => simp [intOf]; omega
    · obtain rfl : k = n := by omega
      have f1 : decide ((k : Int) < k) = false := decide_eq_false (by omega)
      go_wp2
      go_ret
      exact ⟨rfl, HBk.out⟩
set_option maxHeartbeats 8000000 in
set_option maxRecDepth 100000 in
theorem sameP_one (W : World) (A B : Option Addr) (n ca cb : Nat) (l : List S58) (hA : Kd.C k58 W A n l) (hB : Kd.C k58 W B n l) : Calls Try.prog 14 #[.slice A n ca, .slice B n cb] W fun e w' => e = .returned (.bool true) ∧ Below W.heap.size W w' := by
  have HA := Aside0.mk hA
  have HB := Aside0.mk hB
  have hmx : n ≤ 9223372036854775807 := hA.2.1
  clear hA hB
  go_enter Try.func14, Try.ntmps14
  go_wp2_with fail
  go_loopw [5] (fun x wr => ∃ (k : Nat), k ≤ n ∧ x = .int .i64 k ∧ Aside0 (Below W.heap.size W wr)) (fun x _ => n - (intOf x).toNat)
  case atStart => exact ⟨0, Nat.zero_le _, rfl, ⟨Below.refl _ _⟩⟩
  case round =>
    obtain ⟨k, hk, rfl, HBk⟩ := hrel
    by_cases hlt : k < n
    · have f1 : decide ((k : Int) < n) = true := decide_eq_true (by omega)
      obtain ⟨ad1, B1, c1, e1, x1, y1, l1, g1⟩ := at_T58 HA.out (k : Int) (by omega) (by omega)
      obtain ⟨ad2, B2, c2, e2, x2, y2, l2, g2⟩ := at_T58 HB.out (k : Int) (by omega) (by omega)
      subst e1
      subst e2
      rw [Int.toNat_natCast] at x1 x2 y1 y2
      obtain ⟨p, hp⟩ : ∃ p, p = rd_T58 l (k : Int) := ⟨_, rfl⟩
      rw [← hp] at x1 x2 y1 y2 l1 l2 g1 g2
      obtain ⟨no, b⟩ := p
      dsimp only at x1 x2 y1 y2 l1 l2 g1 g2
      obtain ⟨lb, hlb⟩ : ∃ lb, lb = b.length := ⟨_, rfl⟩
      rw [← hlb] at y1 y2 l1 l2 g1 g2
      have HC1 := Aside0.mk (show ∀ w', Below W.heap.size W w' → w'.cell? (ad1.add (k * 2)) = some (.int .i64 no) from fun w' h => cell_onr x1 h)
      have HC2 := Aside0.mk (show ∀ w', Below W.heap.size W w' → w'.cell? (ad2.add (k * 2)) = some (.int .i64 no) from fun w' h => cell_onr x2 h)
      have HD1 := Aside0.mk (show ∀ w', Below W.heap.size W w' → w'.cell? ⟨(ad1.add (k * 2)).block, (ad1.add (k * 2)).off + 1, none⟩ = some (.slice B1 lb c1) from fun w' h => cell_onr y1 h)
      have HD2 := Aside0.mk (show ∀ w', Below W.heap.size W w' → w'.cell? ⟨(ad2.add (k * 2)).block, (ad2.add (k * 2)).off + 1, none⟩ = some (.slice B2 lb c2) from fun w' h => cell_onr y2 h)
      have HR1 := Aside0.mk g1
      have HR2 := Aside0.mk g2
      clear hp hlb x1 x2 y1 y2 l1 l2 g1 g2
      go_upto_region 6 with fail
      have hdr : Below wr.heap.size wr wr.drew := below_drew (Below.refl _ _)
      have HBd := Aside0.mk (HBk.out.trans (hdr.mono HBk.out.size))
      refine start_ (n := 26) (S := fun w' => Below W.heap.size W w') (ds := []) #[false, false, false, false, false, false, false, false, false, false, false, false, false, false, false, false, false, false, false, false, false, false, false, false, false, false] (by kernel_rfl) rfl rfl HBd.out (fun hHeld => ?_)
      generalize wr.drew = wD at hHeld hdr HBd ⊢
      refine pure_ (i := 0) (N := some 17) (v := ?_) (a' := ?_) #[true, false, false, false, false, false, false, false, false, false, false, false, false, false, false, false, false, false, false, false, false, false, false, false, false, false] rfl rfl (by kernel_rfl) (fun _ _ _ h => h) (Or.inl ⟨by rfl, ?_⟩) ?_ ?_
      rotate_left
      · intro w'
        go_simp
        with_reducible rfl
      rotate_left
      · simp only [Act.put, List.setIfInBounds_toArray, List.set_cons_zero, List.set_cons_succ]
        rfl
      refine pure_ (i := 1) (N := some 18) (v := ?_) (a' := ?_) #[true, true, false, false, false, false, false, false, false, false, false, false, false, false, false, false, false, false, false, false, false, false, false, false, false, false] rfl rfl (by kernel_rfl) (fun _ _ _ h => h) (Or.inl ⟨by rfl, ?_⟩) ?_ ?_
      rotate_left
      · intro w'
        go_simp
        with_reducible rfl
      rotate_left
      · simp only [Act.put, List.setIfInBounds_toArray, List.set_cons_zero, List.set_cons_succ]
        rfl
      refine pure_ (i := 2) (N := some 19) (v := .pointer (some (ad1.add (k * 2)))) (a' := ?_) #[true, true, true, false, false, false, false, false, false, false, false, false, false, false, false, false, false, false, false, false, false, false, false, false, false, false] rfl rfl (by kernel_rfl) (fun _ _ _ h => h) (Or.inl ⟨by rfl, ?_⟩) ?_ ?_
      · intro w'
        first | (go_simp; done) | (go_simp; rw [if_pos (show k < n by omega)])
      rotate_left
      · simp only [Act.put, List.setIfInBounds_toArray, List.set_cons_zero, List.set_cons_succ]
        rfl
      refine pure_ (i := 3) (N := some 20) (v := ?_) (a' := ?_) #[true, true, true, true, false, false, false, false, false, false, false, false, false, false, false, false, false, false, false, false, false, false, false, false, false, false] rfl rfl (by kernel_rfl) (fun _ _ _ h => h) (Or.inl ⟨by rfl, ?_⟩) ?_ ?_
      rotate_left
      · intro w'
        go_simp
        with_reducible rfl
      rotate_left
      · simp only [Act.put, List.setIfInBounds_toArray, List.set_cons_zero, List.set_cons_succ]
        rfl
      refine take_ (i := 4) (N := some 21) (v := .int .i64 no) (a' := ?_) #[true, true, true, true, true, false, false, false, false, false, false, false, false, false, false, false, false, false, false, false, false, false, false, false, false, false] rfl rfl (by kernel_rfl) (fun _ _ _ h => h) (Or.inl ⟨by rfl, ?_⟩) hHeld ?_ ?_
      · intro w' s0
        have s1 := HC1.out w' s0
        first | (go_simp; done) | (go_simp; with_reducible rfl)
      rotate_left
      · simp only [Act.put, List.setIfInBounds_toArray, List.set_cons_zero, List.set_cons_succ]
        rfl
      refine pure_ (i := 5) (N := some 22) (v := ?_) (a' := ?_) #[true, true, true, true, true, true, false, false, false, false, false, false, false, false, false, false, false, false, false, false, false, false, false, false, false, false] rfl rfl (by kernel_rfl) (fun _ _ _ h => h) (Or.inl ⟨by rfl, ?_⟩) ?_ ?_
      rotate_left
      · intro w'
        go_simp
        with_reducible rfl
      rotate_left
      · simp only [Act.put, List.setIfInBounds_toArray, List.set_cons_zero, List.set_cons_succ]
        rfl
      refine pure_ (i := 6) (N := some 23) (v := ?_) (a' := ?_) #[true, true, true, true, true, true, true, false, false, false, false, false, false, false, false, false, false, false, false, false, false, false, false, false, false, false] rfl rfl (by kernel_rfl) (fun _ _ _ h => h) (Or.inl ⟨by rfl, ?_⟩) ?_ ?_
      rotate_left
      · intro w'
        go_simp
        with_reducible rfl
      rotate_left
      · simp only [Act.put, List.setIfInBounds_toArray, List.set_cons_zero, List.set_cons_succ]
        rfl
      refine pure_ (i := 7) (N := some 24) (v := .pointer (some (ad2.add (k * 2)))) (a' := ?_) #[true, true, true, true, true, true, true, true, false, false, false, false, false, false, false, false, false, false, false, false, false, false, false, false, false, false] rfl rfl (by kernel_rfl) (fun _ _ _ h => h) (Or.inl ⟨by rfl, ?_⟩) ?_ ?_
      · intro w'
        first | (go_simp; done) | (go_simp; rw [if_pos (show k < n by omega)])
      rotate_left
      · simp only [Act.put, List.setIfInBounds_toArray, List.set_cons_zero, List.set_cons_succ]
        rfl
      refine pure_ (i := 8) (N := some 25) (v := ?_) (a' := ?_) #[true, true, true, true, true, true, true, true, true, false, false, false, false, false, false, false, false, false, false, false, false, false, false, false, false, false] rfl rfl (by kernel_rfl) (fun _ _ _ h => h) (Or.inl ⟨by rfl, ?_⟩) ?_ ?_
      rotate_left
      · intro w'
        go_simp
        with_reducible rfl
      rotate_left
      · simp only [Act.put, List.setIfInBounds_toArray, List.set_cons_zero, List.set_cons_succ]
        rfl
      refine take_ (i := 9) (N := some 26) (v := .int .i64 no) (a' := ?_) #[true, true, true, true, true, true, true, true, true, true, false, false, false, false, false, false, false, false, false, false, false, false, false, false, false, false] rfl rfl (by kernel_rfl) (fun _ _ _ h => h) (Or.inl ⟨by rfl, ?_⟩) hHeld ?_ ?_
      · intro w' s0
        have s1 := HC2.out w' s0
        first | (go_simp; done) | (go_simp; with_reducible rfl)
      rotate_left
      · simp only [Act.put, List.setIfInBounds_toArray, List.set_cons_zero, List.set_cons_succ]
        rfl
      refine pure_ (i := 10) (N := some 27) (v := .bool false) (a' := ?_) #[true, true, true, true, true, true, true, true, true, true, true, false, false, false, false, false, false, false, false, false, false, false, false, false, false, false] rfl rfl (by kernel_rfl) (fun _ _ _ h => h) (Or.inl ⟨by rfl, ?_⟩) ?_ ?_
      · intro w'
        first | (go_simp; done) | (go_simp; simp)
      rotate_left
      · simp only [Act.put, List.setIfInBounds_toArray, List.set_cons_zero, List.set_cons_succ]
        rfl
      refine pure_ (i := 11) (N := some 28) (v := ?_) (a' := ?_) #[true, true, true, true, true, true, true, true, true, true, true, true, false, false, false, false, false, false, false, false, false, false, false, false, false, false] rfl rfl (by kernel_rfl) (fun _ _ _ h => h) (Or.inl ⟨by rfl, ?_⟩) ?_ ?_
      rotate_left
      · intro w'
        go_simp
        with_reducible rfl
      rotate_left
      · simp only [Act.put, List.setIfInBounds_toArray, List.set_cons_zero, List.set_cons_succ]
        rfl
      refine pure_ (i := 12) (N := some 29) (v := ?_) (a' := ?_) #[true, true, true, true, true, true, true, true, true, true, true, true, true, false, false, false, false, false, false, false, false, false, false, false, false, false] rfl rfl (by kernel_rfl) (fun _ _ _ h => h) (Or.inl ⟨by rfl, ?_⟩) ?_ ?_
      rotate_left
      · intro w'
        go_simp
        with_reducible rfl
      rotate_left
      · simp only [Act.put, List.setIfInBounds_toArray, List.set_cons_zero, List.set_cons_succ]
        rfl
      refine pure_ (i := 13) (N := some 30) (v := ?_) (a' := ?_) #[true, true, true, true, true, true, true, true, true, true, true, true, true, true, false, false, false, false, false, false, false, false, false, false, false, false] rfl rfl (by kernel_rfl) (fun _ _ _ h => h) (Or.inl ⟨by rfl, ?_⟩) ?_ ?_
      rotate_left
      · intro w'
        go_simp
        with_reducible rfl
      rotate_left
      · simp only [Act.put, List.setIfInBounds_toArray, List.set_cons_zero, List.set_cons_succ]
        rfl
      refine pure_ (i := 14) (N := some 31) (v := .pointer (some (ad1.add (k * 2)))) (a' := ?_) #[true, true, true, true, true, true, true, true, true, true, true, true, true, true, true, false, false, false, false, false, false, false, false, false, false, false] rfl rfl (by kernel_rfl) (fun _ _ _ h => h) (Or.inl ⟨by rfl, ?_⟩) ?_ ?_
      · intro w'
        first | (go_simp; done) | (go_simp; rw [if_pos (show k < n by omega)])
      rotate_left
      · simp only [Act.put, List.setIfInBounds_toArray, List.set_cons_zero, List.set_cons_succ]
        rfl
      refine pure_ (i := 15) (N := some 32) (v := ?_) (a' := ?_) #[true, true, true, true, true, true, true, true, true, true, true, true, true, true, true, true, false, false, false, false, false, false, false, false, false, false] rfl rfl (by kernel_rfl) (fun _ _ _ h => h) (Or.inl ⟨by rfl, ?_⟩) ?_ ?_
      rotate_left
      · intro w'
        go_simp
        with_reducible rfl
      rotate_left
      · simp only [Act.put, List.setIfInBounds_toArray, List.set_cons_zero, List.set_cons_succ]
        rfl
      refine take_ (i := 16) (N := some 33) (v := .slice B1 lb c1) (a' := ?_) #[true, true, true, true, true, true, true, true, true, true, true, true, true, true, true, true, true, false, false, false, false, false, false, false, false, false] rfl rfl (by kernel_rfl) (fun _ _ _ h => h) (Or.inl ⟨by rfl, ?_⟩) hHeld ?_ ?_
      · intro w' s0
        have s1 := HD1.out w' s0
        first | (go_simp; done) | (go_simp; with_reducible rfl)
      rotate_left
      · simp only [Act.put, List.setIfInBounds_toArray, List.set_cons_zero, List.set_cons_succ]
        rfl
      refine take_ (i := 17) (N := some 34) (v := .string (strOfNums b)) (a' := ?_) #[true, true, true, true, true, true, true, true, true, true, true, true, true, true, true, true, true, true, false, false, false, false, false, false, false, false] rfl rfl (by kernel_rfl) (fun _ _ _ h => h) (Or.inl ⟨by rfl, ?_⟩) hHeld ?_ ?_
      · intro w' s0
        exact exec_convr (x := .tmp 33) rfl rfl (bytes_stringr (c := c1) (Kd.C_below HR1.out s0))
      rotate_left
      · simp only [Act.put, List.setIfInBounds_toArray, List.set_cons_zero, List.set_cons_succ]
        rfl
      refine pure_ (i := 18) (N := some 35) (v := ?_) (a' := ?_) #[true, true, true, true, true, true, true, true, true, true, true, true, true, true, true, true, true, true, true, false, false, false, false, false, false, false] rfl rfl (by kernel_rfl) (fun _ _ _ h => h) (Or.inl ⟨by rfl, ?_⟩) ?_ ?_
      rotate_left
      · intro w'
        go_simp
        with_reducible rfl
      rotate_left
      · simp only [Act.put, List.setIfInBounds_toArray, List.set_cons_zero, List.set_cons_succ]
        rfl
      refine pure_ (i := 19) (N := some 36) (v := ?_) (a' := ?_) #[true, true, true, true, true, true, true, true, true, true, true, true, true, true, true, true, true, true, true, true, false, false, false, false, false, false] rfl rfl (by kernel_rfl) (fun _ _ _ h => h) (Or.inl ⟨by rfl, ?_⟩) ?_ ?_
      rotate_left
      · intro w'
        go_simp
        with_reducible rfl
      rotate_left
      · simp only [Act.put, List.setIfInBounds_toArray, List.set_cons_zero, List.set_cons_succ]
        rfl
      refine pure_ (i := 20) (N := some 37) (v := .pointer (some (ad2.add (k * 2)))) (a' := ?_) #[true, true, true, true, true, true, true, true, true, true, true, true, true, true, true, true, true, true, true, true, true, false, false, false, false, false] rfl rfl (by kernel_rfl) (fun _ _ _ h => h) (Or.inl ⟨by rfl, ?_⟩) ?_ ?_
      · intro w'
        first | (go_simp; done) | (go_simp; rw [if_pos (show k < n by omega)])
      rotate_left
      · simp only [Act.put, List.setIfInBounds_toArray, List.set_cons_zero, List.set_cons_succ]
        rfl
      refine pure_ (i := 21) (N := some 38) (v := ?_) (a' := ?_) #[true, true, true, true, true, true, true, true, true, true, true, true, true, true, true, true, true, true, true, true, true, true, false, false, false, false] rfl rfl (by kernel_rfl) (fun _ _ _ h => h) (Or.inl ⟨by rfl, ?_⟩) ?_ ?_
      rotate_left
      · intro w'
        go_simp
        with_reducible rfl
      rotate_left
      · simp only [Act.put, List.setIfInBounds_toArray, List.set_cons_zero, List.set_cons_succ]
        rfl
      refine take_ (i := 22) (N := some 39) (v := .slice B2 lb c2) (a' := ?_) #[true, true, true, true, true, true, true, true, true, true, true, true, true, true, true, true, true, true, true, true, true, true, true, false, false, false] rfl rfl (by kernel_rfl) (fun _ _ _ h => h) (Or.inl ⟨by rfl, ?_⟩) hHeld ?_ ?_
      · intro w' s0
        have s1 := HD2.out w' s0
        first | (go_simp; done) | (go_simp; with_reducible rfl)
      rotate_left
      · simp only [Act.put, List.setIfInBounds_toArray, List.set_cons_zero, List.set_cons_succ]
        rfl
      refine take_ (i := 23) (N := some 40) (v := .string (strOfNums b)) (a' := ?_) #[true, true, true, true, true, true, true, true, true, true, true, true, true, true, true, true, true, true, true, true, true, true, true, true, false, false] rfl rfl (by kernel_rfl) (fun _ _ _ h => h) (Or.inl ⟨by rfl, ?_⟩) hHeld ?_ ?_
      · intro w' s0
        exact exec_convr (x := .tmp 39) rfl rfl (bytes_stringr (c := c2) (Kd.C_below HR2.out s0))
      rotate_left
      · simp only [Act.put, List.setIfInBounds_toArray, List.set_cons_zero, List.set_cons_succ]
        rfl
      refine pure_ (i := 24) (N := some 41) (v := .bool false) (a' := ?_) #[true, true, true, true, true, true, true, true, true, true, true, true, true, true, true, true, true, true, true, true, true, true, true, true, true, false] rfl rfl (by kernel_rfl) (fun _ _ _ h => h) (Or.inl ⟨by rfl, ?_⟩) ?_ ?_
      · intro w'
        first | (go_simp; done) | (go_simp; simp)
      rotate_left
      · simp only [Act.put, List.setIfInBounds_toArray, List.set_cons_zero, List.set_cons_succ]
        rfl
      refine pure_ (i := 25) (N := some 42) (v := .bool false) (a' := ?_) #[true, true, true, true, true, true, true, true, true, true, true, true, true, true, true, true, true, true, true, true, true, true, true, true, true, true] rfl rfl (by kernel_rfl) (fun _ _ _ h => h) (Or.inl ⟨by rfl, ?_⟩) ?_ ?_
      · intro w'
        first | (go_simp; done) | (go_simp; rfl)
      rotate_left
      · simp only [Act.put, List.setIfInBounds_toArray, List.set_cons_zero, List.set_cons_succ]
        rfl
      refine done_ (by kernel_rfl) ?_
      go_wp2
      go_roundw
      case rel => exact ⟨k + 1, by omega, by go_num, HBd⟩
      case measure => simp [intOf]; omega
    · obtain rfl : k = n := by omega
      have f1 : decide ((k : Int) < k) = false := decide_eq_false (by omega)
      go_wp2
      go_ret
      exact ⟨rfl, HBk.out⟩
end Go.Proofs.Ytmghgghheebnjaa.Dis
namespace Go.Proofs.Ytmghgghheebnjaa.Dis
open Go.RowKit Go.Proofs.YtmghgghheebnjaaW.PrintWords Go.Proofs.YtmghgghheebnjaaW.PrintLast Go.Proofs.YtmghgghheebnjaaW.PrintMore Go.Maps Go.Proofs.Ytmghgghheebnjaa.PWalRecords
set_option linter.unusedVariables false
set_option linter.unusedSimpArgs false
theorem scanR_one {l : List (List Int)} {s s' : Int} {o o' : List S58} {k k' : Bool} (h : ScanR l s o k) (h' : ScanR l s' o' k') : s = s' ∧ o = o' ∧ k = k' := by
  have e1 := (scanR_out h).1
  have e2 := (scanR_out h').1
  rcases h with ⟨a1, a2, n, m, a3, _⟩ | ⟨a1, a2, a3, a4⟩ <;> rcases h' with ⟨b1, b2, n', m', b3, _⟩ | ⟨b1, b2, b3, b4⟩
  · exact ⟨a2.trans b2.symm, e1.trans e2.symm, a1.trans b1.symm⟩
  · exact absurd a3 (b4 _ _)
  · exact absurd b3 (a4 _ _)
  · exact ⟨a2.trans b2.symm, e1.trans e2.symm, a1.trans b1.symm⟩
/-- A row's parts: its address, that it reads as the list. -/
theorem row_parts {α : Type} {d : Kd α} {e base : Nat} {w : World} {ok : Nat → Prop} {v : Value} {xs : List α} (h : d.R e w base ok v xs) : ∃ A c, v = .slice A xs.length c ∧ xs.length ≤ c ∧ d.C w A xs.length xs := by
  obtain ⟨A, c, rfl⟩ := Kd.R_slice h
  exact ⟨A, c, rfl, (Kd.R_reads' h).2.1, (Kd.R_reads' h).2.2⟩
theorem ref_record (W : World) (seq : Int) (A : Option Addr) (n c : Nat) (l : List S58) (hC : Kd.C k58 W A n l) (hc : n ≤ c) (hl : n ≤ 100) (h0 : 0 ≤ seq) (h1 : seq < 18446744073709551616) :
    Calls Try.prog 10 #[.int .u64 seq, .slice A n c] W fun e w' => ∃ A' c', e = .returned (.tuple #[.slice A' (recR seq l).length c', .int .i64 (recE seq l)]) ∧ (recR seq l).length ≤ c' ∧ Kd.C rowK w' A' (recR seq l).length (recR seq l) ∧ Below W.heap.size W w' := by
  have hn : n = l.length := hC.1.symm
  subst hn
  refine (aukletref20_Record.calls 1000 seq A c l _ _ W hC hc (record_f h0 h1 hl)).mono ?_
  rintro e w' ⟨v, rfl, h1, h2⟩
  obtain ⟨A', c', rfl, h3, h4⟩ := row_parts (Kd.S_R h1)
  exact ⟨A', c', rfl, h3, h4, h2⟩
theorem own_record (W : World) (seq : Int) (A : Option Addr) (n c : Nat) (l : List S58) (hC : Kd.C k58 W A n l) (hl : n ≤ 100) (h0 : 0 ≤ seq) (h1 : seq < 18446744073709551616) :
    Calls Try.prog 9 #[.int .u64 seq, .slice A n c] W fun e w' => ∃ A' c', e = .returned (.tuple #[.slice A' (recR seq l).length c', .int .i64 (recE seq l)]) ∧ (recR seq l).length ≤ c' ∧ Kd.C rowK w' A' (recR seq l).length (recR seq l) ∧ Below W.heap.size W w' := by
  refine (Record_c W seq A n c l hC (by omega) h0 h1).mono ?_
  rintro e w' ⟨v, rfl, h1, h2⟩
  obtain ⟨A', c', rfl, h3, h4⟩ := row_parts h1
  exact ⟨A', c', rfl, h3, h4, h2⟩
theorem own_scan (W : World) (A : Option Addr) (n c : Nat) (l : List (List Int)) (sq : Int) (out : List S58) (ok : Bool) (hS : ScanR l sq out ok) (hC : rowK.C W A n l) (hcap : n ≤ c) (hn : n ≤ 70) (hb : ∀ s ∈ l, BytesOk s) :
    Calls Try.prog 11 #[.slice A n c] W fun e w' => ∃ A' c', e = .returned (.tuple #[.int .u64 sq, .slice A' out.length c', .bool ok]) ∧ out.length ≤ c' ∧ Kd.C k58 w' A' out.length out ∧ Below W.heap.size W w' := by
  refine (Scan_c W A n c l hC hcap (by omega) hb).mono ?_
  rintro e w' ⟨sq', out', ok', v, rfl, h0, h1, h2⟩
  obtain ⟨rfl, rfl, rfl⟩ := scanR_one h0 hS
  obtain ⟨A', c', rfl, h3, h4⟩ := row_parts h1
  exact ⟨A', c', rfl, h3, h4, h2⟩
theorem ref_scan (W : World) (A : Option Addr) (n c : Nat) (l : List (List Int)) (sq : Int) (out : List S58) (ok : Bool) (hS : ScanR l sq out ok) (hC : rowK.C W A n l) (hcap : n ≤ c) (hn : n ≤ 70) (hb : ∀ s ∈ l, BytesOk s) :
    Calls Try.prog 12 #[.slice A n c] W fun e w' => ∃ A' c', e = .returned (.tuple #[.int .u64 sq, .slice A' out.length c', .bool ok]) ∧ out.length ≤ c' ∧ Kd.C k58 w' A' out.length out ∧ Below W.heap.size W w' := by
  refine (scan_ref W A n c l hC hcap (by omega) hb).mono ?_
  rintro e w' ⟨sq', out', ok', v, rfl, h0, h1, h2⟩
  obtain ⟨rfl, rfl, rfl⟩ := scanR_one h0 hS
  obtain ⟨A', c', rfl, h3, h4⟩ := row_parts h1
  exact ⟨A', c', rfl, h3, h4, h2⟩
theorem scanR_ex {l : List (List Int)} (hb : ∀ s ∈ l, BytesOk s) (hl : l.length ≤ 70) : ∃ sq out ok, ScanR l sq out ok := by
  by_cases h : ∃ n m, ScanOk l n m
  · obtain ⟨n, m, h⟩ := h
    exact ⟨_, _, _, .inl ⟨rfl, rfl, n, m, h, rfl⟩⟩
  · exact ⟨_, _, _, .inr ⟨rfl, rfl, rfl, fun n m h2 => h ⟨n, m, h2⟩⟩⟩
theorem rec_back {seq : Int} {l : List S58} (h : recE seq l = 0) (h0 : 0 ≤ seq) (h1 : seq < 18446744073709551616) : ScanR (recR seq l) seq l true := by
  have hr : recR seq l = recS seq l := by unfold recR; rw [if_pos h]
  obtain ⟨a, b⟩ := scan_rec [] h h0 h1
  rw [List.append_nil] at a b
  have hsq : seqS (recS seq l) = seq := by
    have hp := (a.part 0 (by have := a.n1; omega)).2.1
    unfold seqS
    have h3 := recS_at seq l [] (i := 0) (by have := a.n1; omega)
    rw [List.append_nil] at h3
    rw [h3, sect_parts.1]
    exact numB_big _ 8 h0 (by have : (256 : Int) ^ 8 = 18446744073709551616 := by decide
                              omega)
  rw [hr]
  exact .inl ⟨rfl, hsq.symm, _, _, a, b.symm⟩
set_option maxHeartbeats 32000000 in
set_option maxRecDepth 100000 in
theorem records_calls (W : World) (seq : Int) (l0 : List S58) (s0 : List (List Int)) (A B : Option Addr) (ca cb : Nat) (hA : Kd.C k58 W A l0.length l0) (hca : l0.length ≤ ca) (hB : Kd.C rowK W B s0.length s0) (hcb : s0.length ≤ cb) (h0 : 0 ≤ seq) (h1 : seq < 18446744073709551616) (hpb : ∀ p ∈ l0, BytesOk p.f1) (hsb : ∀ s ∈ s0, BytesOk s) :
    Calls Try.prog 3 #[.int .u64 seq, .slice A l0.length ca, .slice B s0.length cb] W fun e w' => e = .returned (.bool true) ∧ Below W.heap.size W w' := by
  obtain ⟨l, hl⟩ : ∃ l, l = l0.take 100 := ⟨_, rfl⟩
  obtain ⟨s, hs⟩ : ∃ s, s = s0.take 70 := ⟨_, rfl⟩
  obtain ⟨n0, hn0⟩ : ∃ n0, n0 = l0.length := ⟨_, rfl⟩
  obtain ⟨m0, hm0⟩ : ∃ m0, m0 = s0.length := ⟨_, rfl⟩
  have HLA := Aside0.mk (show l.length = min n0 100 by rw [hl, List.length_take, hn0]; omega)
  have HSA := Aside0.mk (show s.length = min m0 70 by rw [hs, List.length_take, hm0]; omega)
  have HA := Aside0.mk (show ∀ m, m = min n0 100 → Kd.C k58 W A m l from fun m hm => by
    have h := takeC hA (m := m) (by omega)
    have e : l0.take m = l := by
      rw [hl]
      by_cases h2 : l0.length ≤ 100
      · rw [List.take_of_length_le h2, List.take_of_length_le (by omega)]
      · rw [show m = 100 by omega]
    rwa [e] at h)
  have HB := Aside0.mk (show ∀ m, m = min m0 70 → Kd.C rowK W B m s from fun m hm => by
    have h := takeC hB (m := m) (by omega)
    have e : s0.take m = s := by
      rw [hs]
      by_cases h2 : s0.length ≤ 70
      · rw [List.take_of_length_le h2, List.take_of_length_le (by omega)]
      · rw [show m = 70 by omega]
    rwa [e] at h)
  have hmx : n0 ≤ 9223372036854775807 ∧ m0 ≤ 9223372036854775807 := by rw [hn0, hm0]; exact ⟨hA.2.1, hB.2.1⟩
  have HPB := Aside0.mk (show ∀ p ∈ l, BytesOk p.f1 from fun p hp => hpb p (List.mem_of_mem_take (hl ▸ hp)))
  have HSB := Aside0.mk (show ∀ r ∈ s, BytesOk r from fun r hr => hsb r (List.mem_of_mem_take (hs ▸ hr)))
  have HSQ := Aside0.mk (And.intro h0 h1)
  rw [← hn0] at hca ⊢
  rw [← hm0] at hcb ⊢
  obtain ⟨sq, out, ok, hsc⟩ := scanR_ex HSB.out (by rw [HSA.out]; omega)
  have HSC := Aside0.mk hsc
  obtain ⟨E, hE⟩ : ∃ E, E = recE seq l := ⟨_, rfl⟩
  obtain ⟨L, hL⟩ : ∃ L, L = recR seq l := ⟨_, rfl⟩
  obtain ⟨N, hN⟩ : ∃ N, N = L.length := ⟨_, rfl⟩
  obtain ⟨M, hM⟩ : ∃ M, M = out.length := ⟨_, rfl⟩
  have HE := Aside0.mk hE
  have HL := Aside0.mk hL
  have HN := Aside0.mk hN
  have HM := Aside0.mk hM
  clear hl hs hn0 hm0 hA hB hpb hsb h0 h1 hsc hE hL hN hM
  go_enter Try.func3, Try.ntmps3
  by_cases hn1 : 100 < n0
  · have f1 : decide ((100 : Int) < n0) = true := decide_eq_true (by omega)
    have h100 : 100 ≤ ca := by omega
    go_upto_region 3 with fail
    clear f1
    by_cases hm1 : 70 < m0
    · have f2 : decide ((70 : Int) < m0) = true := decide_eq_true (by omega)
      have h70 : 70 ≤ cb := by omega
      go_upto_region 5 with fail
      clear f2
      have HC := Aside0.mk (HA.out 100 (by omega))
      have HD := Aside0.mk (HB.out 70 (by omega))
      have hnn : 100 ≤ 100 ∧ 70 ≤ 70 ∧ 100 ≤ ca ∧ 70 ≤ cb := by omega
      have HNN := Aside0.mk hnn
      clear hnn
      go_upto_region 6 with (go_at_call 9; refine (own_record W seq A 100 ca l HC.out HNN.out.1 HSQ.out.1 HSQ.out.2).mono ?_; rw [← HE.out, ← HL.out, ← HN.out]; rintro e w1 ⟨A1, c1, rfl, h1, h2, h3⟩; have HC1 := Aside0.mk h2; have HB1 := Aside0.mk h3; have HX1 := Aside0.mk h1; clear h1 h2 h3)
      go_upto_region 7 with (go_at_call 10; refine (ref_record w1 seq A 100 ca l (Kd.C_below HC.out HB1.out) HNN.out.2.2.1 HNN.out.1 HSQ.out.1 HSQ.out.2).mono ?_; rw [← HE.out, ← HL.out, ← HN.out]; rintro e w2 ⟨A2, c2, rfl, h1, h2, h3⟩; have HC2 := Aside0.mk h2; have HB2 := Aside0.mk (HB1.out.trans (h3.mono HB1.out.size)); have HY2 := Aside0.mk h3; clear h1 h2 h3)
      go_upto_region 8 with (go_at_call 11; refine (own_scan w2 B 70 cb s sq out ok HSC.out (Kd.C_below HD.out HB2.out) HNN.out.2.2.2 HNN.out.2.1 HSB.out).mono ?_; rw [← HM.out]; rintro e w3 ⟨A3, c3, rfl, h1, h2, h3⟩; have HC3 := Aside0.mk h2; have HB3 := Aside0.mk (HB2.out.trans (h3.mono HB2.out.size)); have HY3 := Aside0.mk h3; clear h1 h2 h3)
      go_upto_region 9 with (go_at_call 12; refine (ref_scan w3 B 70 cb s sq out ok HSC.out (Kd.C_below HD.out HB3.out) HNN.out.2.2.2 HNN.out.2.1 HSB.out).mono ?_; rw [← HM.out]; rintro e w4 ⟨A4, c4, rfl, h1, h2, h3⟩; have HC4 := Aside0.mk h2; have HB4 := Aside0.mk (HB3.out.trans (h3.mono HB3.out.size)); have HY4 := Aside0.mk h3; clear h1 h2 h3)
      have HW1 := Aside0.mk (show Below w1.heap.size w1 w4 from (HY2.out.trans (HY3.out.mono HY2.out.size)).trans (HY4.out.mono (Nat.le_trans HY2.out.size HY3.out.size)))
      have HW2 := Aside0.mk (show Below w2.heap.size w2 w4 from HY3.out.trans (HY4.out.mono HY3.out.size))
      go_upto_region 11 with (first
        | (go_at_call 13; refine (same_one w4 A1 A2 N c1 c2 L (Kd.C_below HC1.out HW1.out) (Kd.C_below HC2.out HW2.out)).mono ?_; rintro e w5 ⟨rfl, h1⟩; have HB5 := Aside0.mk (HB4.out.trans (h1.mono HB4.out.size)); have HY5 := Aside0.mk h1; clear h1)
        | (go_at_call 14; refine (sameP_one w5 A3 A4 M c3 c4 out (Kd.C_below HC3.out (HY4.out.trans (HY5.out.mono HY4.out.size))) (Kd.C_below HC4.out HY5.out)).mono ?_; rintro e w6 ⟨rfl, h1⟩; have HB6 := Aside0.mk (HB5.out.trans (h1.mono HB5.out.size)); have HY6 := Aside0.mk h1; clear h1))
      by_cases hz : E = 0
      · have g1 : (E != 0) = false := by simp [hz]
        have HZ := Aside0.mk hz
        clear hz
        have HBK := Aside0.mk (show ScanR L seq l true from by rw [HL.out]; exact rec_back (HE.out.symm.trans HZ.out) HSQ.out.1 HSQ.out.2)
        have HNB := Aside0.mk (show N ≤ 64 ∧ ∀ r ∈ L, BytesOk r from by
          have h64 := (recE_0 (HE.out.symm.trans HZ.out)).2.2.2
          have hr : L = recS seq l := by rw [HL.out]; unfold recR; rw [if_pos (HE.out.symm.trans HZ.out)]
          refine ⟨by rw [HN.out, hr, recS_len]; exact h64, fun r hr' => (recS_ok HPB.out r (hr ▸ hr')).2⟩)
        have HLL := Aside0.mk (show l.length = 100 by rw [HLA.out]; omega)
        go_upto_region 14 with (go_at_call 11; refine (own_scan w6 A1 N c1 L seq l true HBK.out (Kd.C_below (Kd.C_below HC1.out HW1.out) (HY5.out.trans (HY6.out.mono HY5.out.size))) HX1.out (by have := HNB.out.1; omega) HNB.out.2).mono ?_; rw [HLL.out]; rintro e w7 ⟨A7, c7, rfl, h1, h2, h3⟩; have HC7 := Aside0.mk h2; have HB7 := Aside0.mk (HB6.out.trans (h3.mono HB6.out.size)); clear h1 h2 h3)
        have g2 : (seq == seq) = true := by simp
        go_wp2_with (first
          | (go_at_call 14; refine (sameP_one w7 A7 A 100 c7 ca l HC7.out (Kd.C_below HC.out HB7.out)).mono ?_; rintro e w8 ⟨rfl, h1⟩; have HB8 := Aside0.mk (HB7.out.trans (h1.mono HB7.out.size)); clear h1)
          | (go_at_call 15; refine (lives_c w8).mono ?_; rintro e w9 ⟨rfl, h1⟩; have HB9 := Aside0.mk (HB8.out.trans (h1.mono HB8.out.size)); clear h1))
        go_ret
        exact ⟨rfl, HB9.out⟩
      · have g1 : (E != 0) = true := by simp [hz]
        have hN0 : N = 0 := by
          rw [HN.out, HL.out]
          unfold recR
          rw [if_neg (by rw [← HE.out]; exact hz)]
          rfl
        have g3 : ((N : Int) == 0) = true := by simp [hN0]
        clear hN0 hz
        go_wp2_with (go_at_call 15; refine (lives_c w6).mono ?_; rintro e w9 ⟨rfl, h1⟩; have HB9 := Aside0.mk (HB6.out.trans (h1.mono HB6.out.size)); clear h1)
        go_ret
        exact ⟨rfl, HB9.out⟩
    · have f2 : decide ((70 : Int) < m0) = false := decide_eq_false (by omega)
      go_upto_region 5 with fail
      clear f2
      have HC := Aside0.mk (HA.out 100 (by omega))
      have HD := Aside0.mk (HB.out m0 (by omega))
      have hnn : 100 ≤ 100 ∧ m0 ≤ 70 ∧ 100 ≤ ca ∧ m0 ≤ cb := by omega
      have HNN := Aside0.mk hnn
      clear hnn
      go_upto_region 6 with (go_at_call 9; refine (own_record W seq A 100 ca l HC.out HNN.out.1 HSQ.out.1 HSQ.out.2).mono ?_; rw [← HE.out, ← HL.out, ← HN.out]; rintro e w1 ⟨A1, c1, rfl, h1, h2, h3⟩; have HC1 := Aside0.mk h2; have HB1 := Aside0.mk h3; have HX1 := Aside0.mk h1; clear h1 h2 h3)
      go_upto_region 7 with (go_at_call 10; refine (ref_record w1 seq A 100 ca l (Kd.C_below HC.out HB1.out) HNN.out.2.2.1 HNN.out.1 HSQ.out.1 HSQ.out.2).mono ?_; rw [← HE.out, ← HL.out, ← HN.out]; rintro e w2 ⟨A2, c2, rfl, h1, h2, h3⟩; have HC2 := Aside0.mk h2; have HB2 := Aside0.mk (HB1.out.trans (h3.mono HB1.out.size)); have HY2 := Aside0.mk h3; clear h1 h2 h3)
      go_upto_region 8 with (go_at_call 11; refine (own_scan w2 B m0 cb s sq out ok HSC.out (Kd.C_below HD.out HB2.out) HNN.out.2.2.2 HNN.out.2.1 HSB.out).mono ?_; rw [← HM.out]; rintro e w3 ⟨A3, c3, rfl, h1, h2, h3⟩; have HC3 := Aside0.mk h2; have HB3 := Aside0.mk (HB2.out.trans (h3.mono HB2.out.size)); have HY3 := Aside0.mk h3; clear h1 h2 h3)
      go_upto_region 9 with (go_at_call 12; refine (ref_scan w3 B m0 cb s sq out ok HSC.out (Kd.C_below HD.out HB3.out) HNN.out.2.2.2 HNN.out.2.1 HSB.out).mono ?_; rw [← HM.out]; rintro e w4 ⟨A4, c4, rfl, h1, h2, h3⟩; have HC4 := Aside0.mk h2; have HB4 := Aside0.mk (HB3.out.trans (h3.mono HB3.out.size)); have HY4 := Aside0.mk h3; clear h1 h2 h3)
      have HW1 := Aside0.mk (show Below w1.heap.size w1 w4 from (HY2.out.trans (HY3.out.mono HY2.out.size)).trans (HY4.out.mono (Nat.le_trans HY2.out.size HY3.out.size)))
      have HW2 := Aside0.mk (show Below w2.heap.size w2 w4 from HY3.out.trans (HY4.out.mono HY3.out.size))
      go_upto_region 11 with (first
        | (go_at_call 13; refine (same_one w4 A1 A2 N c1 c2 L (Kd.C_below HC1.out HW1.out) (Kd.C_below HC2.out HW2.out)).mono ?_; rintro e w5 ⟨rfl, h1⟩; have HB5 := Aside0.mk (HB4.out.trans (h1.mono HB4.out.size)); have HY5 := Aside0.mk h1; clear h1)
        | (go_at_call 14; refine (sameP_one w5 A3 A4 M c3 c4 out (Kd.C_below HC3.out (HY4.out.trans (HY5.out.mono HY4.out.size))) (Kd.C_below HC4.out HY5.out)).mono ?_; rintro e w6 ⟨rfl, h1⟩; have HB6 := Aside0.mk (HB5.out.trans (h1.mono HB5.out.size)); have HY6 := Aside0.mk h1; clear h1))
      by_cases hz : E = 0
      · have g1 : (E != 0) = false := by simp [hz]
        have HZ := Aside0.mk hz
        clear hz
        have HBK := Aside0.mk (show ScanR L seq l true from by rw [HL.out]; exact rec_back (HE.out.symm.trans HZ.out) HSQ.out.1 HSQ.out.2)
        have HNB := Aside0.mk (show N ≤ 64 ∧ ∀ r ∈ L, BytesOk r from by
          have h64 := (recE_0 (HE.out.symm.trans HZ.out)).2.2.2
          have hr : L = recS seq l := by rw [HL.out]; unfold recR; rw [if_pos (HE.out.symm.trans HZ.out)]
          refine ⟨by rw [HN.out, hr, recS_len]; exact h64, fun r hr' => (recS_ok HPB.out r (hr ▸ hr')).2⟩)
        have HLL := Aside0.mk (show l.length = 100 by rw [HLA.out]; omega)
        go_upto_region 14 with (go_at_call 11; refine (own_scan w6 A1 N c1 L seq l true HBK.out (Kd.C_below (Kd.C_below HC1.out HW1.out) (HY5.out.trans (HY6.out.mono HY5.out.size))) HX1.out (by have := HNB.out.1; omega) HNB.out.2).mono ?_; rw [HLL.out]; rintro e w7 ⟨A7, c7, rfl, h1, h2, h3⟩; have HC7 := Aside0.mk h2; have HB7 := Aside0.mk (HB6.out.trans (h3.mono HB6.out.size)); clear h1 h2 h3)
        have g2 : (seq == seq) = true := by simp
        go_wp2_with (first
          | (go_at_call 14; refine (sameP_one w7 A7 A 100 c7 ca l HC7.out (Kd.C_below HC.out HB7.out)).mono ?_; rintro e w8 ⟨rfl, h1⟩; have HB8 := Aside0.mk (HB7.out.trans (h1.mono HB7.out.size)); clear h1)
          | (go_at_call 15; refine (lives_c w8).mono ?_; rintro e w9 ⟨rfl, h1⟩; have HB9 := Aside0.mk (HB8.out.trans (h1.mono HB8.out.size)); clear h1))
        go_ret
        exact ⟨rfl, HB9.out⟩
      · have g1 : (E != 0) = true := by simp [hz]
        have hN0 : N = 0 := by
          rw [HN.out, HL.out]
          unfold recR
          rw [if_neg (by rw [← HE.out]; exact hz)]
          rfl
        have g3 : ((N : Int) == 0) = true := by simp [hN0]
        clear hN0 hz
        go_wp2_with (go_at_call 15; refine (lives_c w6).mono ?_; rintro e w9 ⟨rfl, h1⟩; have HB9 := Aside0.mk (HB6.out.trans (h1.mono HB6.out.size)); clear h1)
        go_ret
        exact ⟨rfl, HB9.out⟩
  · have f1 : decide ((100 : Int) < n0) = false := decide_eq_false (by omega)
    go_upto_region 3 with fail
    clear f1
    by_cases hm1 : 70 < m0
    · have f2 : decide ((70 : Int) < m0) = true := decide_eq_true (by omega)
      have h70 : 70 ≤ cb := by omega
      go_upto_region 5 with fail
      clear f2
      have HC := Aside0.mk (HA.out n0 (by omega))
      have HD := Aside0.mk (HB.out 70 (by omega))
      have hnn : n0 ≤ 100 ∧ 70 ≤ 70 ∧ n0 ≤ ca ∧ 70 ≤ cb := by omega
      have HNN := Aside0.mk hnn
      clear hnn
      go_upto_region 6 with (go_at_call 9; refine (own_record W seq A n0 ca l HC.out HNN.out.1 HSQ.out.1 HSQ.out.2).mono ?_; rw [← HE.out, ← HL.out, ← HN.out]; rintro e w1 ⟨A1, c1, rfl, h1, h2, h3⟩; have HC1 := Aside0.mk h2; have HB1 := Aside0.mk h3; have HX1 := Aside0.mk h1; clear h1 h2 h3)
      go_upto_region 7 with (go_at_call 10; refine (ref_record w1 seq A n0 ca l (Kd.C_below HC.out HB1.out) HNN.out.2.2.1 HNN.out.1 HSQ.out.1 HSQ.out.2).mono ?_; rw [← HE.out, ← HL.out, ← HN.out]; rintro e w2 ⟨A2, c2, rfl, h1, h2, h3⟩; have HC2 := Aside0.mk h2; have HB2 := Aside0.mk (HB1.out.trans (h3.mono HB1.out.size)); have HY2 := Aside0.mk h3; clear h1 h2 h3)
      go_upto_region 8 with (go_at_call 11; refine (own_scan w2 B 70 cb s sq out ok HSC.out (Kd.C_below HD.out HB2.out) HNN.out.2.2.2 HNN.out.2.1 HSB.out).mono ?_; rw [← HM.out]; rintro e w3 ⟨A3, c3, rfl, h1, h2, h3⟩; have HC3 := Aside0.mk h2; have HB3 := Aside0.mk (HB2.out.trans (h3.mono HB2.out.size)); have HY3 := Aside0.mk h3; clear h1 h2 h3)
      go_upto_region 9 with (go_at_call 12; refine (ref_scan w3 B 70 cb s sq out ok HSC.out (Kd.C_below HD.out HB3.out) HNN.out.2.2.2 HNN.out.2.1 HSB.out).mono ?_; rw [← HM.out]; rintro e w4 ⟨A4, c4, rfl, h1, h2, h3⟩; have HC4 := Aside0.mk h2; have HB4 := Aside0.mk (HB3.out.trans (h3.mono HB3.out.size)); have HY4 := Aside0.mk h3; clear h1 h2 h3)
      have HW1 := Aside0.mk (show Below w1.heap.size w1 w4 from (HY2.out.trans (HY3.out.mono HY2.out.size)).trans (HY4.out.mono (Nat.le_trans HY2.out.size HY3.out.size)))
      have HW2 := Aside0.mk (show Below w2.heap.size w2 w4 from HY3.out.trans (HY4.out.mono HY3.out.size))
      go_upto_region 11 with (first
        | (go_at_call 13; refine (same_one w4 A1 A2 N c1 c2 L (Kd.C_below HC1.out HW1.out) (Kd.C_below HC2.out HW2.out)).mono ?_; rintro e w5 ⟨rfl, h1⟩; have HB5 := Aside0.mk (HB4.out.trans (h1.mono HB4.out.size)); have HY5 := Aside0.mk h1; clear h1)
        | (go_at_call 14; refine (sameP_one w5 A3 A4 M c3 c4 out (Kd.C_below HC3.out (HY4.out.trans (HY5.out.mono HY4.out.size))) (Kd.C_below HC4.out HY5.out)).mono ?_; rintro e w6 ⟨rfl, h1⟩; have HB6 := Aside0.mk (HB5.out.trans (h1.mono HB5.out.size)); have HY6 := Aside0.mk h1; clear h1))
      by_cases hz : E = 0
      · have g1 : (E != 0) = false := by simp [hz]
        have HZ := Aside0.mk hz
        clear hz
        have HBK := Aside0.mk (show ScanR L seq l true from by rw [HL.out]; exact rec_back (HE.out.symm.trans HZ.out) HSQ.out.1 HSQ.out.2)
        have HNB := Aside0.mk (show N ≤ 64 ∧ ∀ r ∈ L, BytesOk r from by
          have h64 := (recE_0 (HE.out.symm.trans HZ.out)).2.2.2
          have hr : L = recS seq l := by rw [HL.out]; unfold recR; rw [if_pos (HE.out.symm.trans HZ.out)]
          refine ⟨by rw [HN.out, hr, recS_len]; exact h64, fun r hr' => (recS_ok HPB.out r (hr ▸ hr')).2⟩)
        have HLL := Aside0.mk (show l.length = n0 by rw [HLA.out]; omega)
        go_upto_region 14 with (go_at_call 11; refine (own_scan w6 A1 N c1 L seq l true HBK.out (Kd.C_below (Kd.C_below HC1.out HW1.out) (HY5.out.trans (HY6.out.mono HY5.out.size))) HX1.out (by have := HNB.out.1; omega) HNB.out.2).mono ?_; rw [HLL.out]; rintro e w7 ⟨A7, c7, rfl, h1, h2, h3⟩; have HC7 := Aside0.mk h2; have HB7 := Aside0.mk (HB6.out.trans (h3.mono HB6.out.size)); clear h1 h2 h3)
        have g2 : (seq == seq) = true := by simp
        go_wp2_with (first
          | (go_at_call 14; refine (sameP_one w7 A7 A n0 c7 ca l HC7.out (Kd.C_below HC.out HB7.out)).mono ?_; rintro e w8 ⟨rfl, h1⟩; have HB8 := Aside0.mk (HB7.out.trans (h1.mono HB7.out.size)); clear h1)
          | (go_at_call 15; refine (lives_c w8).mono ?_; rintro e w9 ⟨rfl, h1⟩; have HB9 := Aside0.mk (HB8.out.trans (h1.mono HB8.out.size)); clear h1))
        go_ret
        exact ⟨rfl, HB9.out⟩
      · have g1 : (E != 0) = true := by simp [hz]
        have hN0 : N = 0 := by
          rw [HN.out, HL.out]
          unfold recR
          rw [if_neg (by rw [← HE.out]; exact hz)]
          rfl
        have g3 : ((N : Int) == 0) = true := by simp [hN0]
        clear hN0 hz
        go_wp2_with (go_at_call 15; refine (lives_c w6).mono ?_; rintro e w9 ⟨rfl, h1⟩; have HB9 := Aside0.mk (HB6.out.trans (h1.mono HB6.out.size)); clear h1)
        go_ret
        exact ⟨rfl, HB9.out⟩
    · have f2 : decide ((70 : Int) < m0) = false := decide_eq_false (by omega)
      go_upto_region 5 with fail
      clear f2
      have HC := Aside0.mk (HA.out n0 (by omega))
      have HD := Aside0.mk (HB.out m0 (by omega))
      have hnn : n0 ≤ 100 ∧ m0 ≤ 70 ∧ n0 ≤ ca ∧ m0 ≤ cb := by omega
      have HNN := Aside0.mk hnn
      clear hnn
      go_upto_region 6 with (go_at_call 9; refine (own_record W seq A n0 ca l HC.out HNN.out.1 HSQ.out.1 HSQ.out.2).mono ?_; rw [← HE.out, ← HL.out, ← HN.out]; rintro e w1 ⟨A1, c1, rfl, h1, h2, h3⟩; have HC1 := Aside0.mk h2; have HB1 := Aside0.mk h3; have HX1 := Aside0.mk h1; clear h1 h2 h3)
      go_upto_region 7 with (go_at_call 10; refine (ref_record w1 seq A n0 ca l (Kd.C_below HC.out HB1.out) HNN.out.2.2.1 HNN.out.1 HSQ.out.1 HSQ.out.2).mono ?_; rw [← HE.out, ← HL.out, ← HN.out]; rintro e w2 ⟨A2, c2, rfl, h1, h2, h3⟩; have HC2 := Aside0.mk h2; have HB2 := Aside0.mk (HB1.out.trans (h3.mono HB1.out.size)); have HY2 := Aside0.mk h3; clear h1 h2 h3)
      go_upto_region 8 with (go_at_call 11; refine (own_scan w2 B m0 cb s sq out ok HSC.out (Kd.C_below HD.out HB2.out) HNN.out.2.2.2 HNN.out.2.1 HSB.out).mono ?_; rw [← HM.out]; rintro e w3 ⟨A3, c3, rfl, h1, h2, h3⟩; have HC3 := Aside0.mk h2; have HB3 := Aside0.mk (HB2.out.trans (h3.mono HB2.out.size)); have HY3 := Aside0.mk h3; clear h1 h2 h3)
      go_upto_region 9 with (go_at_call 12; refine (ref_scan w3 B m0 cb s sq out ok HSC.out (Kd.C_below HD.out HB3.out) HNN.out.2.2.2 HNN.out.2.1 HSB.out).mono ?_; rw [← HM.out]; rintro e w4 ⟨A4, c4, rfl, h1, h2, h3⟩; have HC4 := Aside0.mk h2; have HB4 := Aside0.mk (HB3.out.trans (h3.mono HB3.out.size)); have HY4 := Aside0.mk h3; clear h1 h2 h3)
      have HW1 := Aside0.mk (show Below w1.heap.size w1 w4 from (HY2.out.trans (HY3.out.mono HY2.out.size)).trans (HY4.out.mono (Nat.le_trans HY2.out.size HY3.out.size)))
      have HW2 := Aside0.mk (show Below w2.heap.size w2 w4 from HY3.out.trans (HY4.out.mono HY3.out.size))
      go_upto_region 11 with (first
        | (go_at_call 13; refine (same_one w4 A1 A2 N c1 c2 L (Kd.C_below HC1.out HW1.out) (Kd.C_below HC2.out HW2.out)).mono ?_; rintro e w5 ⟨rfl, h1⟩; have HB5 := Aside0.mk (HB4.out.trans (h1.mono HB4.out.size)); have HY5 := Aside0.mk h1; clear h1)
        | (go_at_call 14; refine (sameP_one w5 A3 A4 M c3 c4 out (Kd.C_below HC3.out (HY4.out.trans (HY5.out.mono HY4.out.size))) (Kd.C_below HC4.out HY5.out)).mono ?_; rintro e w6 ⟨rfl, h1⟩; have HB6 := Aside0.mk (HB5.out.trans (h1.mono HB5.out.size)); have HY6 := Aside0.mk h1; clear h1))
      by_cases hz : E = 0
      · have g1 : (E != 0) = false := by simp [hz]
        have HZ := Aside0.mk hz
        clear hz
        have HBK := Aside0.mk (show ScanR L seq l true from by rw [HL.out]; exact rec_back (HE.out.symm.trans HZ.out) HSQ.out.1 HSQ.out.2)
        have HNB := Aside0.mk (show N ≤ 64 ∧ ∀ r ∈ L, BytesOk r from by
          have h64 := (recE_0 (HE.out.symm.trans HZ.out)).2.2.2
          have hr : L = recS seq l := by rw [HL.out]; unfold recR; rw [if_pos (HE.out.symm.trans HZ.out)]
          refine ⟨by rw [HN.out, hr, recS_len]; exact h64, fun r hr' => (recS_ok HPB.out r (hr ▸ hr')).2⟩)
        have HLL := Aside0.mk (show l.length = n0 by rw [HLA.out]; omega)
        go_upto_region 14 with (go_at_call 11; refine (own_scan w6 A1 N c1 L seq l true HBK.out (Kd.C_below (Kd.C_below HC1.out HW1.out) (HY5.out.trans (HY6.out.mono HY5.out.size))) HX1.out (by have := HNB.out.1; omega) HNB.out.2).mono ?_; rw [HLL.out]; rintro e w7 ⟨A7, c7, rfl, h1, h2, h3⟩; have HC7 := Aside0.mk h2; have HB7 := Aside0.mk (HB6.out.trans (h3.mono HB6.out.size)); clear h1 h2 h3)
        have g2 : (seq == seq) = true := by simp
        go_wp2_with (first
          | (go_at_call 14; refine (sameP_one w7 A7 A n0 c7 ca l HC7.out (Kd.C_below HC.out HB7.out)).mono ?_; rintro e w8 ⟨rfl, h1⟩; have HB8 := Aside0.mk (HB7.out.trans (h1.mono HB7.out.size)); clear h1)
          | (go_at_call 15; refine (lives_c w8).mono ?_; rintro e w9 ⟨rfl, h1⟩; have HB9 := Aside0.mk (HB8.out.trans (h1.mono HB8.out.size)); clear h1))
        go_ret
        exact ⟨rfl, HB9.out⟩
      · have g1 : (E != 0) = true := by simp [hz]
        have hN0 : N = 0 := by
          rw [HN.out, HL.out]
          unfold recR
          rw [if_neg (by rw [← HE.out]; exact hz)]
          rfl
        have g3 : ((N : Int) == 0) = true := by simp [hN0]
        clear hN0 hz
        go_wp2_with (go_at_call 15; refine (lives_c w6).mono ?_; rintro e w9 ⟨rfl, h1⟩; have HB9 := Aside0.mk (HB6.out.trans (h1.mono HB6.out.size)); clear h1)
        go_ret
        exact ⟨rfl, HB9.out⟩
end Go.Proofs.Ytmghgghheebnjaa.Dis
namespace Go.Proofs.Ytmghgghheebnjaa.walRecords
open Go.ChangeShapes Go.WideShapes Go.ChangeAt Go.RowKit Go.Joins
open Go.ChangeMaps (open_string shut_string)
set_option linter.unusedVariables false
theorem own : ownKnob Try.prog.godebug = none := by kernel_rfl
theorem laidOut : laidOutB Try.prog = true := by kernel_rfl
theorem reach : reachBytes = 140737488351232 := by kernel_rfl
set_option maxHeartbeats 1000000 in
set_option maxRecDepth 100000 in
theorem lifted (os : Os) (started : os.Started) (H : Type) (enc : TypeId × Value → H) :
    ReturnsInHanded {} Try.checked os 3 .any (Rows.walRecordsSpec.pre6 enc Try.prog Try.f3 Rows.walRecordsRow.domain false) (Rows.walRecordsSpec.post enc Try.prog Try.f3 false true false false) := by
  refine returnsInHanded_of_change_sized (C := Try.checked) own started (by kernel_rfl) Try.func3
    (ChangeSpec.witness6 (enc := enc) (C := Try.checked) false ⟨#[], #[.int .u64 0, .slice none 0 0, .slice none 0 0], []⟩ 8 (by kernel_rfl) (by kernel_rfl) (by kernel_rfl) (by kernel_rfl)) ?_
  intro W base args ds gs before hval0 hW hcnd hsz0 _
  have hval : ∀ (j : Nat) t v, Try.f3.params[j]? = some t → args[j]? = some v → Value.okWide Try.prog W .any base t v := hval0
  have hW' := hW
  obtain ⟨p, q, hA0, hV, rfl, hfz, hnd⟩ := hW
  have hA : DataW.TrodAll enc Try.prog W 0 (fun _ => true) true Try.f3.params.toList args.toList ds p := hA0
  rw [Try.params3] at hA hval hsz0
  obtain ⟨v0, vs0, d0, ds0, p0, q0, hargs, rfl, rfl, h0, r0⟩ := trodAll_cons hA
  obtain ⟨v1, vs1, d1, ds1, p1, q1, rfl, rfl, rfl, h1, r1⟩ := trodAll_cons r0
  obtain ⟨v2, vs2, d2, ds2, p2, q2, rfl, rfl, rfl, h2, r2⟩ := trodAll_cons r1
  obtain ⟨rfl, rfl, rfl⟩ := trodAll_nil r2
  obtain rfl : args = #[v0, v1, v2] := by cases args; simp_all
  obtain ⟨rfl, rfl⟩ := trodVars_none hV
  obtain ⟨a0, rfl, rfl, rfl, w0⟩ := open_int Try.underlying22 (hval 0 22 v0 rfl rfl) h0
  have k1 := h1
  have lt1 : ∀ x ∈ p1, x.block < W.heap.size := by obtain ⟨m, hm⟩ := k1; exact DataW.trod_lt m _ _ _ hm
  obtain ⟨x1, len1, cap1, rfl⟩ := okWide_slice Try.underlying23 (hval 1 23 v1 rfl rfl)
  obtain ⟨m1, f1⟩ := h1
  obtain ⟨A1, c1, l1, e1, B1, H1, O1⟩ := Dis.pages_K f1
  have e1' := congrArg (fun x => x[0]?) e1
  simp [Value.cells] at e1'
  obtain ⟨rfl, rfl, rfl⟩ := e1'
  have z1 : ((d1, p1).1.weights Try.prog 23).all (· ≤ reachBytes) = true := List.all_eq_true.2 fun n hn => List.all_eq_true.1 hsz0 n (DataW.weights_mem_each (j := 1) rfl rfl n hn)
  have O1 := And.intro O1.1 (O1.2 reachBytes z1)
  have k2 := h2
  have lt2 : ∀ x ∈ p2, x.block < W.heap.size := by obtain ⟨m, hm⟩ := k2; exact DataW.trod_lt m _ _ _ hm
  obtain ⟨x2, len2, cap2, rfl⟩ := okWide_slice Try.underlying24 (hval 2 24 v2 rfl rfl)
  obtain ⟨m2, f2⟩ := h2
  obtain ⟨A2, c2, l2, e2, B2, H2, O2⟩ := Dis.rows_K f2
  have e2' := congrArg (fun x => x[0]?) e2
  simp [Value.cells] at e2'
  obtain ⟨rfl, rfl, rfl⟩ := e2'
  have z2 : ((d2, p2).1.weights Try.prog 24).all (· ≤ reachBytes) = true := List.all_eq_true.2 fun n hn => List.all_eq_true.1 hsz0 n (DataW.weights_mem_each (j := 2) rfl rfl n hn)
  have O2 := And.intro O2.1 (O2.2 reachBytes z2)
  clear hA0 hval0 hsz0
  rw [reach] at O1 O2
  refine (Dis.records_calls W a0 l1 l2 x1 x2 cap1 cap2 H1 B1 H2 B2 (by have := bounds_u64 w0; omega) (by have := bounds_u64 w0; omega) O1.1 O2.1).mono fun e W' ⟨he, bel⟩ => ?_
  subst he
  exact ⟨_, rfl, _, _, _, [], _, [], hW', trodAll_mk1 (shut_bool Try.underlying4 _), (trodAll_cons_mk (shut_int Try.underlying22 w0) (trodAll_cons_mk (Below.trod laidOut (by kernel_rfl) (of_decide_eq_true (by kernel_rfl)) k1 bel lt1) (trodAll_cons_mk (Below.trod laidOut (by kernel_rfl) (of_decide_eq_true (by kernel_rfl)) k2 bel lt2) trodAll_mk0))), rfl, bel.frame _, fun h => by cases h⟩
theorem over : Rows.walRecordsRow.holds Try.pinned (OpenSpec.ofChange Rows.walRecordsSpec) :=
  OpenClaim.holds_of_wide 3 Try.f3 rfl rfl rfl rfl rfl rfl rfl ⟨rfl, rfl, rfl, rfl, rfl⟩ rfl rfl rfl rfl rfl (by kernel_rfl) Try.func3 (by kernel_rfl)
    (of_decide_eq_true (by kernel_rfl)) (by unfold Func.isWrapper; first | (rw [if_pos (by decide +kernel)]; kernel_rfl) | (rw [if_neg (by decide +kernel)]; exact ⟨rfl, rfl⟩))
    (fun os started H enc _ => lifted os started H enc)
theorem proved : Rows.WalRecordsSaid := over
#print axioms proved
end Go.Proofs.Ytmghgghheebnjaa.walRecords
namespace Go.Proofs.Ytmghgghheebnjaa
/-- The row, under a short name, for the claim. -/
theorem walRecords_holds : Rows.WalRecordsSaid := walRecords.proved
end Go.Proofs.Ytmghgghheebnjaa
