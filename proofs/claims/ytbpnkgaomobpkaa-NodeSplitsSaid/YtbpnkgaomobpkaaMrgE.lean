/- A region that draws its order, in which several operations that write or call may come up at once: what is known is told by which of them are done, each is shown once. -/
import Derived.Test.YtbpnkgaomobpkaaMrgA
namespace Go.Proofs.Ytbpnkgaomobpkaa.Mrg
open Go.RowKit Go.Proofs.YtbpnkgaomobpkaaW.PrintWords Go.Proofs.YtbpnkgaomobpkaaW.PrintLast Go.Proofs.YtbpnkgaomobpkaaW.PrintMore
set_option linter.unusedVariables false
set_option linter.unusedSimpArgs false
/-- What has come up: l0, and of the events those that d tells. -/
def lat : Array Bool → List Nat → List Bool → Array Bool
  | l, e :: es, b :: bs => lat (if b then l.setIfInBounds e true else l) es bs
  | l, _, _ => l
/-- One more event done. -/
def on : List Bool → Nat → List Bool
  | _ :: bs, 0 => true :: bs
  | b :: bs, j + 1 => b :: on bs j
  | [], _ => []
def offs : List Bool → Nat
  | [] => 0
  | b :: bs => (if b then 0 else 1) + offs bs
theorem on_offs : ∀ (d : List Bool) (j : Nat), d.getD j true = false → offs (on d j) + 1 = offs d
  | [], j, h => by simp at h
  | b :: bs, 0, h => by
    have : b = false := by simpa using h
    subst this
    show (if true = true then 0 else 1) + offs bs + 1 = (if false = true then 0 else 1) + offs bs
    simp; omega
  | b :: bs, j + 1, h => by
    have := on_offs bs j (by simpa using h)
    show (if b = true then 0 else 1) + offs (on bs j) + 1 = (if b = true then 0 else 1) + offs bs
    omega
theorem on_at : ∀ (d : List Bool) (j : Nat), j < d.length → (on d j).getD j false = true
  | [], j, h => by simp at h
  | b :: bs, 0, h => rfl
  | b :: bs, j + 1, h => by
    have := on_at bs j (by simpa using h)
    simpa [on] using this
theorem on_ne : ∀ (d : List Bool) (j i : Nat), i ≠ j → (on d j).getD i false = d.getD i false
  | [], j, i, _ => rfl
  | b :: bs, 0, 0, h => absurd rfl h
  | b :: bs, 0, i + 1, h => rfl
  | b :: bs, j + 1, 0, h => rfl
  | b :: bs, j + 1, i + 1, h => by
    have := on_ne bs j i (by omega)
    simpa [on] using this
def okLat (md : Region.Mode) (ops : Array Oper) (l0 : Array Bool) (evs : List Nat) (states : List (List Bool)) : Bool :=
  states.all fun d => (offs d == 0) || (!(Region.ready md ops (lat l0 evs d)).isEmpty && (Region.ready md ops (lat l0 evs d)).all fun i =>
    (List.range evs.length).any fun j => evs.getD j 0 == i && !d.getD j true && states.contains (on d j) && lat l0 evs (on d j) == (lat l0 evs d).setIfInBounds i true)
/-- Wherever event j may come up, event k is done. -/
def after (states : List (List Bool)) (j k : Nat) : Bool := states.all fun d => d.getD j true || !states.contains (on d j) || d.getD k false
theorem after_of {states : List (List Bool)} {j k : Nat} (h : after states j k = true) {d : List Bool} (hd : d ∈ states) (hj : d.getD j true = false) (hn : on d j ∈ states) : d.getD k false = true := by
  have := List.all_eq_true.1 h d hd
  simp only [hj, Bool.false_or, Bool.or_eq_true, Bool.not_eq_true'] at this
  rcases this with h1 | h1
  · rw [List.contains_iff_mem.2 hn] at h1; cases h1
  · exact h1
/-- No event is done behind event j. -/
def before (states : List (List Bool)) (j k : Nat) : Bool := states.all fun d => d.getD j true || !states.contains (on d j) || !d.getD k true
theorem before_of {states : List (List Bool)} {j k : Nat} (h : before states j k = true) {d : List Bool} (hd : d ∈ states) (hj : d.getD j true = false) (hn : on d j ∈ states) : d.getD k true = false := by
  have := List.all_eq_true.1 h d hd
  simp only [hj, Bool.false_or, Bool.or_eq_true, Bool.not_eq_true'] at this
  rcases this with h1 | h1
  · rw [List.contains_iff_mem.2 hn] at h1; cases h1
  · exact h1
theorem bit_abs {d : List Bool} {k : Nat} (h1 : d.getD k true = false) (h2 : d.getD k false = true) : False := by
  rw [List.getD_eq_getElem?_getD] at h1 h2
  cases h : d[k]? with
  | none => rw [h] at h1; cases h1
  | some b => rw [h] at h1 h2; rw [show b = false from h1] at h2; cases h2
section
variable {P : Program} {ops : Array Oper} {Q : Exit → Act → World → Prop} {md : Region.Mode} {S : World → Prop}
theorem lattice (l0 : Array Bool) (evs : List Nat) (states : List (List Bool)) (hok : okLat md ops l0 evs states = true) (Inv : List Bool → Act → World → Prop) (fuel : Nat)
    (hstep : ∀ d j, d ∈ states → d.getD j true = false → on d j ∈ states → ∀ a w, S w → Inv d a w → ∀ o, ops[evs.getD j 0]? = some o → ∀ K : Act → World → Prop, Shut (∀ a' w', S w' → Inv (on d j) a' w' → K a' w') → if Region.wanted o (yielded ops a.tmps) = true then Oper.wp P o a w K Q else K (a.put o.dst undef) w)
    (hfin : ∀ d a w, d ∈ states → offs d = 0 → S w → Inv d a w → wpAnyLast P md ops Q S [] fuel (lat l0 evs d) a w) :
    ∀ (m : Nat) (d : List Bool) (a : Act) (w : World), d ∈ states → offs d = m → S w → Inv d a w → wpAnyLast P md ops Q S [] (fuel + m) (lat l0 evs d) a w := by
  intro m
  induction m with
  | zero => intro d a w hd h0 hS hI; exact hfin d a w hd h0 hS hI
  | succ m ih =>
    intro d a w hd hm hS hI
    have h1 := List.all_eq_true.1 hok d hd
    have h0 : (offs d == 0) = false := by rw [hm]; rfl
    rw [h0, Bool.false_or, Bool.and_eq_true] at h1
    obtain ⟨hne, hall⟩ := h1
    refine ⟨fun h => (by rw [h] at hne; simp at hne), fun i hi => ?_⟩
    obtain ⟨j, hj, hj2⟩ := List.any_eq_true.1 (List.all_eq_true.1 hall i hi)
    simp only [Bool.and_eq_true, beq_iff_eq, Bool.not_eq_true'] at hj2
    obtain ⟨⟨⟨e1, e2⟩, e3⟩, e4⟩ := hj2
    have hmem : on d j ∈ states := List.contains_iff_mem.1 e3
    have hofs := on_offs d j e2
    subst e1
    obtain ⟨o, ho⟩ : ∃ o, ops[evs.getD j 0]? = some o := by
      obtain ⟨_, o, ho, _⟩ := mem_ready.1 hi
      exact ⟨o, ho⟩
    refine wpOp_step ho (fun K hK => hstep d j hd e2 hmem a w hS hI o ho K (fun a' w' hS' hI' => hK a' w' ⟨fun _ _ => hS', ?_⟩))
    rw [← e4]
    exact ih (on d j) a' w' hmem (by omega) hS' hI'
/-- The act with the events' values. -/
def putVs : Act → List Tmp → List Value → Act
  | a, t :: ts, v :: vs => putVs (a.put (some t) v) ts vs
  | a, _, _ => a
theorem put_comm (a : Act) (t u : Tmp) (v x : Value) (h : t ≠ u) : (a.put (some t) v).put (some u) x = (a.put (some u) x).put (some t) v := by
  simp only [Act.put]
  rw [Array.setIfInBounds_comm _ _ h]
theorem put_same (a : Act) (t : Tmp) (v x : Value) : (a.put (some t) v).put (some t) x = a.put (some t) x := by
  simp [Act.put]
theorem put_out : ∀ (ts : List Tmp) (vs : List Value) (a : Act) (t : Tmp) (v : Value), t ∉ ts → (putVs a ts vs).put (some t) v = putVs (a.put (some t) v) ts vs
  | [], vs, a, t, v, _ => by cases vs <;> rfl
  | u :: ts, [], a, t, v, _ => rfl
  | u :: ts, x :: vs, a, t, v, h => by
    show (putVs (a.put (some u) x) ts vs).put (some t) v = putVs ((a.put (some t) v).put (some u) x) ts vs
    rw [put_out ts vs _ t v (fun hm => h (List.mem_cons_of_mem _ hm)), put_comm a u t x v (fun e => h (by rw [e]; exact List.mem_cons_self))]
theorem put_set : ∀ (ts : List Tmp) (vs : List Value) (a : Act) (j : Nat) (t : Tmp) (v : Value), ts.Nodup → vs.length = ts.length → ts[j]? = some t → (putVs a ts vs).put (some t) v = putVs a ts (vs.set j v)
  | [], vs, a, j, t, v, _, _, h => by simp at h
  | u :: ts, [], a, j, t, v, _, hl, _ => by simp at hl
  | u :: ts, x :: vs, a, 0, t, v, hn, hl, h => by
    obtain rfl : u = t := by simpa using h
    show (putVs (a.put (some u) x) ts vs).put (some u) v = putVs (a.put (some u) v) ts vs
    rw [put_out ts vs _ u v (List.nodup_cons.1 hn).1, put_same]
  | u :: ts, x :: vs, a, j + 1, t, v, hn, hl, h => put_set ts vs (a.put (some u) x) j t v (List.nodup_cons.1 hn).2 (by simpa using hl) (by simpa using h)
/-- Each event's place is where its operation puts its value; a store puts none. -/
def okDst (ops : Array Oper) (evs : List Nat) (ts : List Tmp) : Bool := (List.range evs.length).all fun j => match ops[evs.getD j 0]?, ts[j]? with
  | some o, some t => o.dst == some t || o.dst == none
  | _, _ => false
def upd (o : Oper) (xs : List Value) (j : Nat) (v : Value) : List Value := if o.dst.isNone then xs else xs.set j v
theorem lattice2 (l0 : Array Bool) (evs : List Nat) (states : List (List Bool)) (ts : List Tmp) (hok : okLat md ops l0 evs states = true) (hdst : okDst ops evs ts = true) (hnd : ts.Nodup) (hlen : states.all (fun d => d.length == evs.length) = true) (F : List Bool → List Value → World → Prop) (fuel : Nat) {a0 : Act}
    (hstep : ∀ j, j < evs.length → ∀ d, d ∈ states → d.getD j true = false → on d j ∈ states → ∀ xs w, xs.length = ts.length → S w → F d xs w → ∀ a, a = putVs a0 ts xs → ∀ o, ops[evs.getD j 0]? = some o → ∀ K : Act → World → Prop, Shut (∀ v w', S w' → F (on d j) (upd o xs j v) w' → K (a.put o.dst v) w') → if Region.wanted o (yielded ops a.tmps) = true then Oper.wp P o a w K Q else K (a.put o.dst undef) w)
    (hfin : ∀ d xs a w, d ∈ states → offs d = 0 → xs.length = ts.length → S w → F d xs w → a = putVs a0 ts xs → wpAnyLast P md ops Q S [] fuel (lat l0 evs d) a w)
    (m : Nat) (d : List Bool) (xs : List Value) (w : World) (hd : d ∈ states) (hm : offs d = m) (hx : xs.length = ts.length) (hS : S w) (hF : F d xs w) : wpAnyLast P md ops Q S [] (fuel + m) (lat l0 evs d) (putVs a0 ts xs) w := by
  refine lattice l0 evs states hok (fun d a w => ∃ xs, xs.length = ts.length ∧ a = putVs a0 ts xs ∧ F d xs w) fuel ?_ ?_ m d _ w hd hm hS ⟨xs, hx, rfl, hF⟩
  · intro d j hd hj hn a w hS ⟨xs, hx, ha, hF⟩ o ho K hK
    have hdl : d.length = evs.length := by simpa using List.all_eq_true.1 hlen d hd
    have hjl : j < evs.length := by
      rcases Nat.lt_or_ge j evs.length with h | h
      · exact h
      · rw [List.getD_eq_getElem?_getD, List.getElem?_eq_none (by omega)] at hj
        cases hj
    have hdt := List.all_eq_true.1 hdst j (List.mem_range.2 hjl)
    rw [ho] at hdt
    obtain ⟨t, ht⟩ : ∃ t, ts[j]? = some t := by
      cases h : ts[j]? with
      | none => rw [h] at hdt; cases hdt
      | some t => exact ⟨t, rfl⟩
    rw [ht] at hdt
    have hod : o.dst = some t ∨ o.dst = none := by simpa using hdt
    refine hstep j hjl d hd hj hn xs w hx hS hF a ha o ho K (fun v w' hS' hF' => ?_)
    rcases hod with hod | hod
    · have hu : upd o xs j v = xs.set j v := by unfold upd; rw [hod]; rfl
      rw [hu] at hF'
      refine hK _ _ hS' ⟨xs.set j v, by rw [List.length_set]; exact hx, ?_, hF'⟩
      rw [hod, ha]
      exact put_set ts xs a0 j t v hnd hx ht
    · have hu : upd o xs j v = xs := by unfold upd; rw [hod]; rfl
      rw [hu] at hF'
      refine hK _ _ hS' ⟨xs, hx, ?_, hF'⟩
      rw [hod, ha]
      rfl
  · intro d a w hd h0 hS ⟨xs, hx, ha, hF⟩
    exact hfin d xs a w hd h0 hx hS hF ha
theorem offs_no : ∀ n, offs (List.replicate n false) = n
  | 0 => rfl
  | n + 1 => by
    show (if false = true then 0 else 1) + offs (List.replicate n false) = n + 1
    rw [offs_no n]
    simp
    omega
theorem put_self (a : Act) (t : Tmp) : a.put (some t) (a.tmps.getD t undef) = a := by
  obtain ⟨tmps, defers⟩ := a
  simp only [Act.put]
  congr 1
  apply Array.ext_getElem?
  intro i
  rw [Array.getElem?_setIfInBounds]
  by_cases h : t = i
  · subst h
    rw [if_pos rfl]
    by_cases h2 : t < tmps.size
    · rw [if_pos h2]; simp [h2]
    · rw [if_neg h2]; exact (Array.getElem?_eq_none (Nat.le_of_not_lt h2)).symm
  · rw [if_neg h]
theorem putVs_self : ∀ (ts : List Tmp) (a : Act), putVs a ts (ts.map fun t => a.tmps.getD t undef) = a
  | [], a => rfl
  | t :: ts, a => by
    show putVs (a.put (some t) (a.tmps.getD t undef)) ts (ts.map fun t => a.tmps.getD t undef) = a
    rw [put_self]
    exact putVs_self ts a
theorem lattice3 (l0 : Array Bool) (evs : List Nat) (states : List (List Bool)) (ts : List Tmp) (hok : okLat md ops l0 evs states = true) (hdst : okDst ops evs ts = true) (hnd : ts.Nodup) (hlen : states.all (fun d => d.length == evs.length) = true)
    (hfull : states.all (fun d => !(offs d == 0) || d == List.replicate evs.length true) = true) (hst : states.contains (List.replicate evs.length false) = true) (F : List Bool → List Value → World → Prop) (fuel : Nat) {n : Nat} {l : Array Bool} {a : Act} {w : World} (hn : n = fuel + evs.length) (hl : (lat l0 evs (List.replicate evs.length false) == l) = true)
    (hS : S w) (hF : ∀ xs, xs.length = ts.length → F (List.replicate evs.length false) xs w)
    (hstep : ∀ j, j < evs.length → ∀ d, d ∈ states → d.getD j true = false → on d j ∈ states → ∀ xs w, xs.length = ts.length → S w → F d xs w → ∀ a', a' = putVs a ts xs → ∀ o, ops[evs.getD j 0]? = some o → ∀ K : Act → World → Prop, Shut (∀ v w', S w' → F (on d j) (upd o xs j v) w' → K (a'.put o.dst v) w') → if Region.wanted o (yielded ops a'.tmps) = true then Oper.wp P o a' w K Q else K (a'.put o.dst undef) w)
    (hfin : ∀ xs w', xs.length = ts.length → S w' → F (List.replicate evs.length true) xs w' → ∀ a', a' = putVs a ts xs → wpAnyLast P md ops Q S [] fuel (lat l0 evs (List.replicate evs.length true)) a' w') : wpAnyLast P md ops Q S [] n l a w := by
  subst hn
  rw [← eq_of_beq hl]
  have h := lattice2 (a0 := a) l0 evs states ts hok hdst hnd hlen F fuel hstep (fun d xs a' w' hd h0 hx hS hF ha => by
    have := List.all_eq_true.1 hfull d hd
    rw [h0] at this
    have hd2 : d = List.replicate evs.length true := by simpa using this
    subst hd2
    exact hfin xs w' hx hS hF a' ha) evs.length (List.replicate evs.length false) (ts.map fun t => a.tmps.getD t undef) w (List.contains_iff_mem.1 hst) (offs_no _) (by simp) hS (hF _ (by simp))
  rw [putVs_self] at h
  exact h
end
end Go.Proofs.Ytbpnkgaomobpkaa.Mrg
