/- The law WalActs returns true for every list of acts, and leaves its arguments as they were; no further condition. (Merged by merge.py.) -/
import Derived.Test.YtmghgghheebnjaaDisR
import Derived.Deep.Strs
import Derived.Lib.SmallJoins
import Derived.SizedLaws
import Derived.Test.YtmghgghheebnjaaWalR
import Derived.Test.YtmghgghheebnjaaWalS
import Derived.Test.YtmghgghheebnjaaPWalRecordsx0
import Derived.Test.YtmghgghheebnjaaQRec
import Derived.Test.YtmghgghheebnjaaRfX
import Derived.Test.YtmghgghheebnjaaRows
import Derived.WalkKit
import Derived.ProofKit
import Derived.OpenShut
import Derived.ShutString
import Derived.ChangeOld
import Derived.Below
import Derived.Carry
namespace Go.Proofs.Ytmghgghheebnjaa.Dis
open Go.RowKit Go.ChangeShapes Go.WideShapes Go.ChangeAt Go.Deep Go.Joins Go.Proofs.YtmghgghheebnjaaW.PrintWords
set_option linter.unusedVariables false
section
variable {H : Type} {enc : TypeId × Value → H} {P : Program} {w : World} {base : Nat} {spare : Nat → Bool} {held : Bool}
theorem slice_K {α : Type} [Inhabited α] (d : Kd α) {Q : α → DataW H → Prop} {t e : TypeId} {fuel : Nat} {cs : List Value} {x : DataW H × List MemPlace} (ht : P.underlying t = some (.slice e)) (hc : P.cellsOf e = d.sz)
    (hel : ∀ m cs x, DataW.trod enc P w base spare held m e cs = some x → ∃ a, d.K w a cs ∧ Q a x.1)
    (h : DataW.trod enc P w base spare held fuel t cs = some x) :
    ∃ (A : Option Addr) (c : Nat) (l : List α) (el sp : List (DataW H)), cs = [.slice A l.length c] ∧ l.length ≤ c ∧ Kd.C d w A l.length l ∧ el.length = l.length ∧ (∀ a ∈ l, ∃ y ∈ el, Q a y) ∧ (x.1 = .nil ∧ l = [] ∨ x.1 = .slice el sp) := by
  rcases DataW.trod_slice ht h with ⟨rfl, rfl⟩ | ⟨a, len, cap, elems, rest, n, _, rfl, rfl, hb, hl, hm, hlen, hel', _, _⟩
  · exact ⟨none, 0, [], [], [], rfl, Nat.le_refl _, ⟨rfl, by simp, fun h => absurd h (by simp)⟩, rfl, fun a ha => absurd ha (by simp), .inl ⟨rfl, rfl⟩⟩
  · have each : ∀ i, i < len → ∃ p, (∃ cs', w.cells? base (a.add (i * d.sz)) d.sz = some cs' ∧ d.K w p cs') ∧ ∃ y ∈ elems.map (·.1), Q p y := fun i hi => by
      have h1 := hel' i hi
      have hi' : i < elems.length := by omega
      rw [List.getElem?_eq_getElem hi', Option.bind_eq_some_iff, hc] at h1
      obtain ⟨cs', h2, h3⟩ := h1
      obtain ⟨p, hp, hq⟩ := hel _ _ _ h3
      exact ⟨p, ⟨cs', h2, hp⟩, _, List.mem_map.2 ⟨_, List.getElem_mem hi', rfl⟩, hq⟩
    obtain ⟨f, hf⟩ := choose_lt each
    refine ⟨some a, cap, (List.range len).map f, elems.map (·.1), rest.map (·.1), by simp, by simpa using hl, ⟨rfl, by simp only [List.length_map, List.length_range]; simp only [maxLen] at hm; omega, fun _ => ⟨a, rfl, fun j p hj => ?_⟩⟩, by simp [hlen], fun p hp => ?_, .inr rfl⟩
    · obtain ⟨hj1, hj2⟩ := List.getElem?_eq_some_iff.1 hj
      simp only [List.length_map, List.length_range] at hj1
      rw [List.getElem_map, List.getElem_range] at hj2
      subst hj2
      obtain ⟨⟨cs', h2, h3⟩, _⟩ := hf j hj1
      refine ⟨cs', d.K_len h3, h3, fun i u hi => ?_⟩
      obtain ⟨hi1, hi2⟩ := List.getElem?_eq_some_iff.1 hi
      have h4 := (World.cells?_some h2).2.2 i (by rw [← d.K_len h3]; exact hi1)
      rw [Go.Proofs.YtmghgghheebnjaaW.PrintWords.add_add] at h4
      rw [h4, hi]
    · obtain ⟨j, hj, rfl⟩ := List.mem_map.1 hp
      exact (hf j (List.mem_range.1 hj)).2
theorem weights_mem {t : TypeId} : ∀ {el : List (DataW H)} {y : DataW H}, y ∈ el → ∀ n ∈ y.weights P t, n ∈ DataW.weightsAll P t el
  | d :: r, y, hy, n, hn => by
    simp only [DataW.weightsAll, List.mem_append]
    rcases List.mem_cons.1 hy with rfl | hy
    · exact .inl hn
    · exact .inr (weights_mem hy n hn)
theorem slice_sized {R : Nat} {t e : TypeId} {el sp : List (DataW H)} (ht : P.underlying t = some (.slice e)) (h : ((DataW.slice el sp).weights P t).all (· ≤ R) = true) :
    el.length * P.bytesOf e ≤ R ∧ ∀ y ∈ el, (y.weights P e).all (· ≤ R) = true := by
  have h' := List.all_eq_true.1 h
  have e1 : (DataW.slice el sp).weights P t = (el.length + sp.length) * P.bytesOf e :: (DataW.weightsAll P e el ++ DataW.weightsAll P e sp) := by simp [DataW.weights, ht]
  rw [e1] at h'
  refine ⟨?_, fun y hy => List.all_eq_true.2 fun n hn => h' n (List.mem_cons_of_mem _ (List.mem_append.2 (.inl (weights_mem hy n hn))))⟩
  have := h' _ List.mem_cons_self
  exact Nat.le_trans (Nat.mul_le_mul_right _ (Nat.le_add_right _ _)) (by simpa using this)
end
section
variable {H : Type} {enc : TypeId × Value → H} {w : World} {base : Nat} {spare : Nat → Bool} {held : Bool}
theorem bytes_K {fuel : Nat} {cs : List Value} {x : DataW H × List MemPlace} (h : DataW.trod enc Try.prog w base spare held fuel 56 cs = some x) :
    ∃ (A : Option Addr) (c : Nat) (l : List Int), cs = [.slice A l.length c] ∧ l.length ≤ c ∧ Kd.C (Kd.int .u8) w A l.length l ∧ OkB l ∧ ∀ R, (x.1.weights Try.prog 56).all (· ≤ R) = true → l.length ≤ R := by
  obtain ⟨A, c, l, el, sp, h1, h2, h3, h4, h5, h6⟩ := slice_K (P := Try.prog) (Kd.int .u8) (Q := fun n _ => 0 ≤ n ∧ n < 256) Try.underlying56 (by kernel_rfl) (fun m cs x hx => by
    obtain ⟨n, rfl, _, hw⟩ := DataW.trod_int Try.underlying5 hx
    have := bounds_u8 hw
    exact ⟨n, rfl, by omega⟩) h
  refine ⟨A, c, l, h1, h2, h3, fun n hn => (h5 n hn).elim fun _ hq => hq.2, fun R hR => ?_⟩
  rcases h6 with ⟨_, rfl⟩ | h6
  · exact Nat.zero_le _
  · rw [h6] at hR
    have := (slice_sized Try.underlying56 hR).1
    rw [show Try.prog.bytesOf 5 = 1 by kernel_rfl, h4] at this
    omega
theorem bools_K {fuel : Nat} {cs : List Value} {x : DataW H × List MemPlace} (h : DataW.trod enc Try.prog w base spare held fuel 44 cs = some x) :
    ∃ (A : Option Addr) (c : Nat) (l : List Bool), cs = [.slice A l.length c] ∧ l.length ≤ c ∧ Kd.C Kd.bool w A l.length l ∧ ∀ R, (x.1.weights Try.prog 44).all (· ≤ R) = true → l.length ≤ R := by
  obtain ⟨A, c, l, el, sp, h1, h2, h3, h4, h5, h6⟩ := slice_K (P := Try.prog) Kd.bool (Q := fun _ _ => True) Try.underlying44 (by kernel_rfl) (fun m cs x hx => by
    obtain ⟨n, rfl, _⟩ := DataW.trod_bool Try.underlying4 hx
    exact ⟨n, rfl, trivial⟩) h
  refine ⟨A, c, l, h1, h2, h3, fun R hR => ?_⟩
  rcases h6 with ⟨_, rfl⟩ | h6
  · exact Nat.zero_le _
  · rw [h6] at hR
    have := (slice_sized Try.underlying44 hR).1
    rw [show Try.prog.bytesOf 4 = 1 by kernel_rfl, h4] at this
    omega
end
end Go.Proofs.Ytmghgghheebnjaa.Dis
namespace Go.Proofs.Ytmghgghheebnjaa.Dis
open Go.RowKit Go.Proofs.YtmghgghheebnjaaW.PrintWords Go.Proofs.YtmghgghheebnjaaW.PrintLast Go.Proofs.YtmghgghheebnjaaW.PrintMore Go.Maps Go.Proofs.Ytmghgghheebnjaa.PWalRecords
set_option linter.unusedVariables false
set_option linter.unusedSimpArgs false
/-- A put: its number, its byte. -/
abbrev Put_ := Int × Int
def putK : Kd Put_ := Kd.pair (Kd.int .i64) (Kd.int .u8)
theorem atPut {w : World} {A : Option Addr} {n : Nat} {l : List Put_} (h : Kd.C putK w A n l) (k : Nat) (hk : k < n) : ∃ ad, A = some ad ∧ w.cell? (ad.add (k * 2)) = some (.int .i64 (l.getD k (0, 0)).1) ∧ w.cell? ⟨(ad.add (k * 2)).block, (ad.add (k * 2)).off + 1, none⟩ = some (.int .u8 (l.getD k (0, 0)).2) := by
  obtain ⟨ad, c, e, _, hK, hc0⟩ := Kd.C_get h (0, 0) (k : Int) (by omega) (by omega)
  have hc : ∀ j u, c[j]? = some u → w.cell? (ad.add (k * 2 + j)) = some u := fun j u hj => by have := hc0 j u hj; rwa [Int.toNat_natCast] at this
  rw [Int.toNat_natCast] at hK
  obtain ⟨_, _, rfl, rfl, rfl⟩ := hK
  exact ⟨ad, e, hc 0 _ rfl, by rw [← add_field _ _ 1 (by omega)]; exact hc 1 _ rfl⟩
/-- The last three bits. -/
def low3 (x : Int) : Int := Go.bits .and .i64 x 7
theorem low3_bound (x : Int) : 0 ≤ low3 x ∧ low3 x ≤ 7 := by
  have hb : low3 x = IntKind.i64.wrap (((BitVec.ofInt IntKind.i64.bits x &&& BitVec.ofInt IntKind.i64.bits 7).toNat : Nat) : Int) := rfl
  have h : (BitVec.ofInt IntKind.i64.bits x &&& BitVec.ofInt IntKind.i64.bits 7).toNat ≤ 7 := by
    rw [BitVec.toNat_and]
    refine Nat.le_trans Nat.and_le_right ?_
    decide
  rw [hb, IntKind.wrap_i64]
  omega
/-- Pages of puts. -/
def pageOf (p : Put_) : S58 := ⟨low3 p.1, List.replicate 512 p.2⟩
def pagesW (l : List Put_) : List S58 := (l.take 70).map pageOf
theorem pagesW_snoc {l : List Put_} {k : Nat} (hk : k < l.length) : (l.take (k + 1)).map pageOf = (l.take k).map pageOf ++ [pageOf (l.getD k (0, 0))] := by
  rw [List.getD_eq_getElem?_getD, List.getElem?_eq_getElem hk, Option.getD_some, ← List.take_append_getElem hk, List.map_append]
  rfl
set_option maxHeartbeats 8000000 in
set_option maxRecDepth 100000 in
theorem pages_calls (W : World) (A : Option Addr) (n c : Nat) (l : List Put_) (hC : Kd.C putK W A n l) : Calls Try.prog 21 #[.slice A n c, .int .i64 8] W fun e w' => ∃ v, e = .returned v ∧ Kd.R k58 58 w' W.heap.size tt v (pagesW l) ∧ Below W.heap.size W w' := by
  have HC := Aside0.mk hC
  have HL := Aside0.mk hC.1
  have INF8 := Aside0.mk info58'
  have hmx : n ≤ 9223372036854775807 := hC.2.1
  clear hC
  go_enter Try.func21, Try.ntmps21
  go_upto_region 2 with ((with_reducible refine gate_dst (N := 7) rfl ?_); refine Kd.R_lit k58 (w0 := W) W.heap.size 58 ?hg (N := 7) ?hd (xs := ([] : List S58)) (inner := []) (ok := tt) (okp := tt) ?hr ?hp (fun _ hk => hk) trivial (Below.refl _ _) (Nat.le_refl _) (by simp) ?_; (case hd => rfl); (case hg => rfl); (case hr => first | (go_simp; done) | (go_simp; rfl)); (case hp => exact (Reps.none _ _)); intro v3 w3 ho hb hg_ hnew_; clear hg_ hnew_; have HO := Aside0.mk ho; have HB3 := Aside0.mk hb; clear hb ho)
  go_wp2_with fail
  go_loopw [5, 6] (fun y x wr => ∃ (k : Nat), k ≤ n ∧ k ≤ 70 ∧ x = .int .i64 k ∧ Aside0 (Kd.R k58 58 wr W.heap.size tt y ((l.take k).map pageOf)) ∧ Aside0 (Below W.heap.size W wr)) (fun _ x _ => 70 - (intOf x).toNat)
  case atStart => exact ⟨0, Nat.zero_le _, Nat.zero_le _, rfl, HO, HB3⟩
  case round =>
    obtain ⟨k, hk, hk7, rfl, HRk, HBk⟩ := hrel
    by_cases hlt : k < n
    · have f1 : decide ((k : Int) < n) = true := decide_eq_true (by omega)
      by_cases hlt2 : k < 70
      · have f2 : decide ((k : Int) < 70) = true := decide_eq_true (by omega)
        obtain ⟨ad, hA, p0, p1⟩ := atPut (Kd.C_below HC.out HBk.out) k hlt
        subst hA
        obtain ⟨yA, yc, hy⟩ := Kd.R_slice HRk.out
        subst hy
        rw [show ((l.take k).map pageOf).length = k by rw [List.length_map, List.length_take, HL.out]; omega] at HRk ⊢
        have HSN := Aside0.mk (pagesW_snoc (l := l) (k := k) (by rw [HL.out]; exact hlt))
        obtain ⟨p, hp⟩ : ∃ p, p = l.getD k (0, 0) := ⟨_, rfl⟩
        rw [← hp] at p0 p1 HSN
        obtain ⟨no, cc⟩ := p
        dsimp only at p0 p1
        have HPA := Aside0.mk (show ∀ w', Below W.heap.size W w' → w'.cell? (ad.add (k * 2)) = some (.int .i64 no) ∧ w'.cell? ⟨(ad.add (k * 2)).block, (ad.add (k * 2)).off + 1, none⟩ = some (.int .u8 cc) from fun w' hb => by
          obtain ⟨ad2, hA2, h0, h1⟩ := atPut (Kd.C_below HC.out hb) k hlt
          injection hA2 with hA2
          subst hA2
          rw [← hp] at h0 h1
          exact ⟨h0, h1⟩)
        have hlo : Go.bits .and .i64 no 7 = low3 no := rfl
        have HLTR := Aside0.mk (Kd.R_lt HRk.out)
        have HWS := Aside0.mk HBk.out.size
        clear hp p0 p1
        go_upto_region 5 with fail
        have hdr : Below wr.heap.size wr wr.drew := below_drew (Below.refl _ _)
        refine start_ (n := 18) (S := fun w' => Below W.heap.size W w') (ds := []) #[false, false, false, false, false, false, false, false, false, false, false, false, false, false, false, false, false, false] (by kernel_rfl) rfl rfl (HBk.out.trans (hdr.mono HBk.out.size)) (fun hHeld => ?_)
        have HRd := Aside0.mk (Kd.R_below HRk.out hdr)
        have HLd := Aside0.mk (show wr.heap.size ≤ wr.drew.heap.size from hdr.size)
        have HPd := Aside0.mk (show ∀ w', Below W.heap.size W w' → w'.cell? (ad.add (k * 2)) = some (.int .i64 no) ∧ w'.cell? ⟨(ad.add (k * 2)).block, (ad.add (k * 2)).off + 1, none⟩ = some (.int .u8 cc) from HPA.out)
        generalize wr.drew = wD at hdr hHeld HRd HLd ⊢
        refine pure_ (i := 0) (N := some 18) (v := ?_) (a' := ?_) #[true, false, false, false, false, false, false, false, false, false, false, false, false, false, false, false, false, false] rfl rfl (by kernel_rfl) (fun _ _ _ h => h) (Or.inl ⟨by rfl, ?_⟩) ?_ ?_
        rotate_left
        · intro w'
          go_simp
          with_reducible rfl
        rotate_left
        · simp only [Act.put, List.setIfInBounds_toArray, List.set_cons_zero, List.set_cons_succ]
          rfl
        refine pure_ (i := 1) (N := some 19) (v := ?_) (a' := ?_) #[true, true, false, false, false, false, false, false, false, false, false, false, false, false, false, false, false, false] rfl rfl (by kernel_rfl) (fun _ _ _ h => h) (Or.inl ⟨by rfl, ?_⟩) ?_ ?_
        rotate_left
        · intro w'
          go_simp
          with_reducible rfl
        rotate_left
        · simp only [Act.put, List.setIfInBounds_toArray, List.set_cons_zero, List.set_cons_succ]
          rfl
        refine pure_ (i := 2) (N := some 20) (v := ?_) (a' := ?_) #[true, true, true, false, false, false, false, false, false, false, false, false, false, false, false, false, false, false] rfl rfl (by kernel_rfl) (fun _ _ _ h => h) (Or.inl ⟨by rfl, ?_⟩) ?_ ?_
        rotate_left
        · intro w'
          go_simp
          with_reducible rfl
        rotate_left
        · simp only [Act.put, List.setIfInBounds_toArray, List.set_cons_zero, List.set_cons_succ]
          rfl
        refine pure_ (i := 3) (N := some 21) (v := .pointer (some (ad.add (k * 2)))) (a' := ?_) #[true, true, true, true, false, false, false, false, false, false, false, false, false, false, false, false, false, false] rfl rfl (by kernel_rfl) (fun _ _ _ h => h) (Or.inl ⟨by rfl, ?_⟩) ?_ ?_
        · intro w'
          first | (go_simp; done) | (go_simp; rw [if_pos (show k < n by omega)])
        rotate_left
        · simp only [Act.put, List.setIfInBounds_toArray, List.set_cons_zero, List.set_cons_succ]
          rfl
        refine pure_ (i := 4) (N := some 22) (v := ?_) (a' := ?_) #[true, true, true, true, true, false, false, false, false, false, false, false, false, false, false, false, false, false] rfl rfl (by kernel_rfl) (fun _ _ _ h => h) (Or.inl ⟨by rfl, ?_⟩) ?_ ?_
        rotate_left
        · intro w'
          go_simp
          with_reducible rfl
        rotate_left
        · simp only [Act.put, List.setIfInBounds_toArray, List.set_cons_zero, List.set_cons_succ]
          rfl
        refine take_ (i := 5) (N := some 23) (v := ?_) (a' := ?_) #[true, true, true, true, true, true, false, false, false, false, false, false, false, false, false, false, false, false] rfl rfl (by kernel_rfl) (fun _ _ _ h => h) (Or.inl ⟨by rfl, ?_⟩) hHeld ?_ ?_
        rotate_left
        · intro w' s0
          have s1 := (HPd.out w' s0).1
          go_simp
          with_reducible rfl
        rotate_left
        · simp only [Act.put, List.setIfInBounds_toArray, List.set_cons_zero, List.set_cons_succ]
          rfl
        refine pure_ (i := 6) (N := some 24) (v := ?_) (a' := ?_) #[true, true, true, true, true, true, true, false, false, false, false, false, false, false, false, false, false, false] rfl rfl (by kernel_rfl) (fun _ _ _ h => h) (Or.inl ⟨by rfl, ?_⟩) ?_ ?_
        rotate_left
        · intro w'
          go_simp
          with_reducible rfl
        rotate_left
        · simp only [Act.put, List.setIfInBounds_toArray, List.set_cons_zero, List.set_cons_succ]
          rfl
        refine pure_ (i := 7) (N := some 25) (v := .int .i64 7) (a' := ?_) #[true, true, true, true, true, true, true, true, false, false, false, false, false, false, false, false, false, false] rfl rfl (by kernel_rfl) (fun _ _ _ h => h) (Or.inl ⟨by rfl, ?_⟩) ?_ ?_
        · intro w'
          first | (go_simp; done) | (go_simp; go_num) | (go_simp; rfl)
        rotate_left
        · simp only [Act.put, List.setIfInBounds_toArray, List.set_cons_zero, List.set_cons_succ]
          rfl
        refine pure_ (i := 8) (N := some 26) (v := .int .i64 (low3 no)) (a' := ?_) #[true, true, true, true, true, true, true, true, true, false, false, false, false, false, false, false, false, false] rfl rfl (by kernel_rfl) (fun _ _ _ h => h) (Or.inl ⟨by rfl, ?_⟩) ?_ ?_
        · intro w'
          first | (go_simp; done) | (go_simp; rfl)
        rotate_left
        · simp only [Act.put, List.setIfInBounds_toArray, List.set_cons_zero, List.set_cons_succ]
          rfl
        refine pure_ (i := 9) (N := some 27) (v := ?_) (a' := ?_) #[true, true, true, true, true, true, true, true, true, true, false, false, false, false, false, false, false, false] rfl rfl (by kernel_rfl) (fun _ _ _ h => h) (Or.inl ⟨by rfl, ?_⟩) ?_ ?_
        rotate_left
        · intro w'
          go_simp
          with_reducible rfl
        rotate_left
        · simp only [Act.put, List.setIfInBounds_toArray, List.set_cons_zero, List.set_cons_succ]
          rfl
        refine pure_ (i := 10) (N := some 28) (v := ?_) (a' := ?_) #[true, true, true, true, true, true, true, true, true, true, true, false, false, false, false, false, false, false] rfl rfl (by kernel_rfl) (fun _ _ _ h => h) (Or.inl ⟨by rfl, ?_⟩) ?_ ?_
        rotate_left
        · intro w'
          go_simp
          with_reducible rfl
        rotate_left
        · simp only [Act.put, List.setIfInBounds_toArray, List.set_cons_zero, List.set_cons_succ]
          rfl
        refine pure_ (i := 11) (N := some 29) (v := .pointer (some (ad.add (k * 2)))) (a' := ?_) #[true, true, true, true, true, true, true, true, true, true, true, true, false, false, false, false, false, false] rfl rfl (by kernel_rfl) (fun _ _ _ h => h) (Or.inl ⟨by rfl, ?_⟩) ?_ ?_
        · intro w'
          first | (go_simp; done) | (go_simp; rw [if_pos (show k < n by omega)])
        rotate_left
        · simp only [Act.put, List.setIfInBounds_toArray, List.set_cons_zero, List.set_cons_succ]
          rfl
        refine pure_ (i := 12) (N := some 30) (v := ?_) (a' := ?_) #[true, true, true, true, true, true, true, true, true, true, true, true, true, false, false, false, false, false] rfl rfl (by kernel_rfl) (fun _ _ _ h => h) (Or.inl ⟨by rfl, ?_⟩) ?_ ?_
        rotate_left
        · intro w'
          go_simp
          with_reducible rfl
        rotate_left
        · simp only [Act.put, List.setIfInBounds_toArray, List.set_cons_zero, List.set_cons_succ]
          rfl
        refine take_ (i := 13) (N := some 31) (v := ?_) (a' := ?_) #[true, true, true, true, true, true, true, true, true, true, true, true, true, true, false, false, false, false] rfl rfl (by kernel_rfl) (fun _ _ _ h => h) (Or.inl ⟨by rfl, ?_⟩) hHeld ?_ ?_
        rotate_left
        · intro w' s0
          have s1 := (HPd.out w' s0).2
          go_simp
          with_reducible rfl
        rotate_left
        · simp only [Act.put, List.setIfInBounds_toArray, List.set_cons_zero, List.set_cons_succ]
          rfl
        refine one_ (i := 14) (N := some 32) #[true, true, true, true, true, true, true, true, true, true, true, true, true, true, true, false, false, false] rfl rfl (by kernel_rfl) (by decide) (fun K1 hK => ?_)
        refine goes_ Try.func25 (by kernel_rfl) rfl #[.int .i64 (low3 no), .int .u8 cc] (by rfl) rfl rfl (by (try simp only [List.map_toArray, List.map_cons, List.map_nil]); first | done | rfl) ?_
        refine (page_c wD (low3 no) cc).mono ?_
        rintro e w5 ⟨A5, c5, rfl, h1, h2⟩
        have HR5 := Aside0.mk (Kd.R_below HRd.out h2)
        have HV5 := Aside0.mk (Kd.R_mono (ok' := fun q => wr.heap.size ≤ q) (Kd.R_bound h1) (fun q hq => Nat.le_trans HLd.out hq.2.1))
        have HV5' := Aside0.mk (Kd.R_lower HV5.out (Nat.le_trans HWS.out HLd.out))
        have hb5 := hHeld.trans (h2.mono hHeld.size)
        refine ⟨_, rfl, ?_⟩
        refine hK.out _ _ hb5 (fun hHeld => ?_)
        clear hK K1 h1 h2
        obtain ⟨w6, hw6⟩ : ∃ w6, w6 = w5.alloc (.cells #[.int .i64 (low3 no), .slice A5 512 c5] 58) := ⟨_, rfl⟩
        have hb56 : Below w5.heap.size w5 w6 := by rw [hw6]; exact below_alloc (Below.refl _ _) _
        refine one_ (i := 15) (N := some 33) #[true, true, true, true, true, true, true, true, true, true, true, true, true, true, true, true, false, false] rfl rfl (by kernel_rfl) (by decide) (fun K1 hK => ?_)
        refine value_ (by rfl) rfl (v := .slice (some ⟨w5.heap.size, 0, none⟩) 1 1) (w1 := w6) (by rw [hw6]; first | (go_simp; done) | (go_simp; rfl)) ?_
        refine hK.out _ _ (hb5.trans (hb56.mono hb5.size)) (fun hHeld => ?_)
        clear hK K1 
        rw [hw6]
        refine one_ (i := 16) (N := some 34) #[true, true, true, true, true, true, true, true, true, true, true, true, true, true, true, true, true, false] rfl rfl (by kernel_rfl) (by decide) (fun K1 hK => ?_)
        refine Kd.R_append_step k58 (w0 := W) (W := w5) W.heap.size (by rfl) (.tmp 18) (.tmp 33) 23 58 (.agg #[.int .i64 0, .slice none 0 0]) 32 rfl Try.underlying23 INF8.out rfl (by decide) (by decide) (.slice yA k yc) ((l.take k).map pageOf) ⟨low3 no, List.replicate 512 cc⟩ [.int .i64 (low3 no), .slice A5 512 c5] tt (fun q => wr.heap.size ≤ q) rfl rfl (k58_mkM w5 W.heap.size (fun q => wr.heap.size ≤ q) ⟨low3 no, List.replicate 512 cc⟩ HV5'.out) (fun q hq => ⟨trivial, fun e => Nat.not_lt.2 hq (HLTR.out q e.symm)⟩) (fun _ _ => trivial) HR5.out hb5 hb5.size ?hl ?_
        case hl => rw [List.length_map, List.length_take]; omega
        intro v7 w7 ho hb7 hG hat
        have HO7 := Aside0.mk ho
        clear ho hG hat
        show K1 (Act.put _ (some 34) _) _
        simp only [Act.put, List.setIfInBounds_toArray, List.set_cons_zero, List.set_cons_succ]
        refine hK.out _ _ hb7 (fun hHeld => ?_)
        clear hK K1 
        refine pure_ (i := 17) (N := some 5) (v := ?_) (a' := ?_) #[true, true, true, true, true, true, true, true, true, true, true, true, true, true, true, true, true, true] rfl rfl (by kernel_rfl) (fun _ _ _ h => h) (Or.inl ⟨by rfl, ?_⟩) ?_ ?_
        rotate_left
        · intro w'
          go_simp
          with_reducible rfl
        rotate_left
        · simp only [Act.put, List.setIfInBounds_toArray, List.set_cons_zero, List.set_cons_succ]
          rfl
        refine done_ (by kernel_rfl) ?_
        go_wp2
        go_roundw
        case rel => exact ⟨k + 1, by omega, by omega, by go_num, ⟨by rw [HSN.out]; exact HO7.out⟩, ⟨hb7⟩⟩
        case measure => simp [intOf]; omega
      · obtain rfl : k = 70 := by omega
        have f2 : decide (((70 : Nat) : Int) < 70) = false := by decide
        go_wp2
        go_ret
        exact ⟨_, rfl, HRk.out, HBk.out⟩
    · obtain rfl : k = n := by omega
      have f1 : decide ((k : Int) < k) = false := decide_eq_false (by omega)
      have hpw : pagesW l = (l.take k).map pageOf := by unfold pagesW; rw [List.take_of_length_le (by rw [HL.out]; omega), List.take_of_length_le (by rw [HL.out]; exact Nat.le_refl _)]
      have HPW := Aside0.mk hpw
      clear hpw
      go_wp2
      go_ret
      exact ⟨_, rfl, by rw [HPW.out]; exact HRk.out, HBk.out⟩
end Go.Proofs.Ytmghgghheebnjaa.Dis
namespace Go.Proofs.Ytmghgghheebnjaa.Dis
open Go.RowKit Go.ChangeShapes Go.WideShapes Go.ChangeAt Go.Deep Go.Joins Go.Proofs.YtmghgghheebnjaaW.PrintWords
set_option linter.unusedVariables false
/-- An act: its puts, the call with which the power goes, what stays. -/
abbrev Act_ := List Put_ × Int × List Bool
def actK : Kd Act_ := Kd.pair (Kd.slice 61 putK) (Kd.pair (Kd.int .i64) (Kd.slice 4 Kd.bool))
def act0 : Act_ := ([], 0, [])
def OkP (p : Put_) : Prop := I64 p.1 ∧ 0 ≤ p.2 ∧ p.2 < 256
structure OkA (a : Act_) (R : Nat) : Prop where
  puts : ∀ p ∈ a.1, OkP p
  many : a.1.length ≤ R
  arm : I64 a.2.1
  keep : a.2.2.length ≤ R
section
variable {H : Type} {enc : TypeId × Value → H} {w : World} {base : Nat} {spare : Nat → Bool} {held : Bool}
set_option maxRecDepth 100000 in
theorem put_K {m : Nat} {cs : List Value} {x : DataW H × List MemPlace} (h : DataW.trod enc Try.prog w base spare held m 61 cs = some x) : ∃ a : Put_, putK.K w a cs ∧ OkP a := by
  obtain ⟨y0, y1, n, rfl, hl, h0, h1⟩ := trod_struct2 Try.underlying61 h
  have hl2 : cs.length = 2 := hl.trans (by kernel_rfl)
  obtain ⟨c0, c1, rfl⟩ : ∃ c0 c1, cs = [c0, c1] := by
    match cs, hl2 with
    | [c0, c1], _ => exact ⟨c0, c1, rfl⟩
  have k3 : Try.prog.cellsOf 3 = 1 := by kernel_rfl
  have k5 : Try.prog.cellsOf 5 = 1 := by kernel_rfl
  simp only [k3, k5, List.drop_zero, List.drop_succ_cons, List.take_succ_cons, List.take_zero] at h0 h1
  obtain ⟨x0, e0, _, w0⟩ := DataW.trod_int Try.underlying3 h0
  obtain ⟨x1, e1, _, w1⟩ := DataW.trod_int Try.underlying5 h1
  have b0 := bounds_i64 w0
  have b1 := bounds_u8 w1
  exact ⟨(x0, x1), ⟨[c0], [c1], rfl, e0, e1⟩, ⟨b0.1, b0.2⟩, b1.1, by omega⟩
theorem puts_K {fuel : Nat} {cs : List Value} {x : DataW H × List MemPlace} (h : DataW.trod enc Try.prog w base spare held fuel 43 cs = some x) :
    ∃ (A : Option Addr) (c : Nat) (l : List Put_), cs = [.slice A l.length c] ∧ l.length ≤ c ∧ Kd.C putK w A l.length l ∧ (∀ p ∈ l, OkP p) ∧ ∀ R, (x.1.weights Try.prog 43).all (· ≤ R) = true → l.length ≤ R := by
  obtain ⟨A, c, l, el, sp, h1, h2, h3, h4, h5, h6⟩ := slice_K (P := Try.prog) putK (Q := fun n _ => OkP n) Try.underlying43 (by kernel_rfl) (fun m cs x hx => by
    obtain ⟨a, ha, hb⟩ := put_K hx
    exact ⟨a, ha, hb⟩) h
  refine ⟨A, c, l, h1, h2, h3, fun n hn => (h5 n hn).elim fun _ hq => hq.2, fun R hR => ?_⟩
  rcases h6 with ⟨_, rfl⟩ | h6
  · exact Nat.zero_le _
  · rw [h6] at hR
    have := (slice_sized Try.underlying43 hR).1
    rw [show Try.prog.bytesOf 61 = 16 by kernel_rfl, h4] at this
    omega
set_option maxRecDepth 100000 in
theorem act_K {m : Nat} {cs : List Value} {x : DataW H × List MemPlace} (h : DataW.trod enc Try.prog w base spare held m 46 cs = some x) :
    ∃ a : Act_, actK.K w a cs ∧ ∀ R, (x.1.weights Try.prog 46).all (· ≤ R) = true → OkA a R := by
  obtain ⟨y0, y1, y2, n, rfl, hl, h0, h1, h2⟩ := trod_struct3 Try.underlying46 h
  have hl3 : cs.length = 3 := hl.trans (by kernel_rfl)
  obtain ⟨c0, c1, c2, rfl⟩ : ∃ c0 c1 c2, cs = [c0, c1, c2] := by
    match cs, hl3 with
    | [c0, c1, c2], _ => exact ⟨c0, c1, c2, rfl⟩
  have k3 : Try.prog.cellsOf 3 = 1 := by kernel_rfl
  have k43 : Try.prog.cellsOf 43 = 1 := by kernel_rfl
  have k44 : Try.prog.cellsOf 44 = 1 := by kernel_rfl
  simp only [k3, k43, k44, List.drop_zero, List.drop_succ_cons, List.take_succ_cons, List.take_zero] at h0 h1 h2
  obtain ⟨A0, c0', l0, e0, hc0, hC0, ho0, hs0⟩ := puts_K h0
  obtain ⟨x1, e1, _, w1⟩ := DataW.trod_int Try.underlying3 h1
  obtain ⟨A2, c2', l2, e2, hc2, hC2, hs2⟩ := bools_K h2
  refine ⟨(l0, x1, l2), ⟨[c0], [c1, c2], rfl, ⟨A0, c0', e0, hc0, hC0⟩, [c1], [c2], rfl, e1, ⟨A2, c2', e2, hc2, hC2⟩⟩, fun R hR => ?_⟩
  have e : (DataW.agg [y0.1, y1.1, y2.1]).weights Try.prog 46 = y0.1.weights Try.prog 43 ++ (y1.1.weights Try.prog 3 ++ (y2.1.weights Try.prog 44 ++ [])) := by
    simp [DataW.weights, DataW.weightsEach, Try.underlying46]
  rw [e, List.all_append, List.all_append, List.all_append, Bool.and_eq_true, Bool.and_eq_true, Bool.and_eq_true] at hR
  have b1 := bounds_i64 w1
  exact ⟨ho0, hs0 R hR.1, ⟨b1.1, b1.2⟩, hs2 R hR.2.2.1⟩
theorem acts_K {fuel : Nat} {cs : List Value} {x : DataW H × List MemPlace} (h : DataW.trod enc Try.prog w base spare held fuel 34 cs = some x) :
    ∃ (A : Option Addr) (c : Nat) (l : List Act_), cs = [.slice A l.length c] ∧ l.length ≤ c ∧ Kd.C actK w A l.length l ∧ ∀ R, (x.1.weights Try.prog 34).all (· ≤ R) = true → l.length ≤ R ∧ ∀ a ∈ l, OkA a R := by
  obtain ⟨A, c, l, el, sp, h1, h2, h3, h4, h5, h6⟩ := slice_K (P := Try.prog) actK (Q := fun a y => ∀ R, (y.weights Try.prog 46).all (· ≤ R) = true → OkA a R) Try.underlying34 (by kernel_rfl) (fun m cs x hx => act_K hx) h
  refine ⟨A, c, l, h1, h2, h3, fun R hR => ?_⟩
  rcases h6 with ⟨_, rfl⟩ | h6
  · exact ⟨Nat.zero_le _, fun a ha => absurd ha (by simp)⟩
  · rw [h6] at hR
    have hs := slice_sized Try.underlying34 hR
    rw [show Try.prog.bytesOf 46 = 56 by kernel_rfl, h4] at hs
    exact ⟨by omega, fun a ha => (h5 a ha).elim fun y hy => hy.2 R (hs.2 y hy.1)⟩
end
/-- An act of a row. -/
theorem act_at {w : World} {A : Option Addr} {n : Nat} {l : List Act_} (h : actK.C w A n l) (k : Nat) (hk : k < n) :
    ∃ ad A0 c0 A2 c2, A = some ad ∧ w.cell? (ad.add (k * 3)) = some (.slice A0 (l.getD k act0).1.length c0) ∧ w.cell? ⟨(ad.add (k * 3)).block, (ad.add (k * 3)).off + 1, none⟩ = some (.int .i64 (l.getD k act0).2.1) ∧ w.cell? ⟨(ad.add (k * 3)).block, (ad.add (k * 3)).off + 2, none⟩ = some (.slice A2 (l.getD k act0).2.2.length c2) ∧
      (l.getD k act0).1.length ≤ c0 ∧ Kd.C putK w A0 (l.getD k act0).1.length (l.getD k act0).1 ∧ (l.getD k act0).2.2.length ≤ c2 ∧ Kd.C Kd.bool w A2 (l.getD k act0).2.2.length (l.getD k act0).2.2 := by
  obtain ⟨ad, c, e, _, hK, hc0⟩ := Kd.C_get h act0 (k : Int) (by omega) (by omega)
  have hc : ∀ j u, c[j]? = some u → w.cell? (ad.add (k * 3 + j)) = some u := fun j u hj => by have := hc0 j u hj; rwa [Int.toNat_natCast] at this
  rw [Int.toNat_natCast] at hK
  obtain ⟨_, _, rfl, ⟨A0, c0, rfl, hl0, hC0⟩, _, _, rfl, rfl, ⟨A2, c2, rfl, hl2, hC2⟩⟩ := hK
  exact ⟨ad, A0, c0, A2, c2, e, hc 0 _ rfl, by rw [← add_field _ _ 1 (by omega)]; exact hc 1 _ rfl, by rw [← add_field _ _ 2 (by omega)]; exact hc 2 _ rfl, hl0, hC0, hl2, hC2⟩
end Go.Proofs.Ytmghgghheebnjaa.Dis
namespace Go.Proofs.Ytmghgghheebnjaa.Dis
open Go.RowKit Go.Proofs.YtmghgghheebnjaaW.PrintWords Go.Proofs.YtmghgghheebnjaaW.PrintLast Go.Proofs.YtmghgghheebnjaaW.PrintMore Go.Maps Go.Proofs.Ytmghgghheebnjaa.PWalRecords
set_option linter.unusedVariables false
set_option linter.unusedSimpArgs false
/-- Opening with power: the log stays. -/
theorem open_live {d : D} (h : Live d) (hs : d.since = []) (hn : 64 < d.n) (hsec : ∀ i, Sec (d.fast i)) : ∃ d1 : D, openD d = (d1, seqTo d 64, 0) ∧ Live d1 ∧ d1.since = [] ∧ d1.n = d.n ∧ d1.cnt ≤ d.cnt + 64 ∧ ∀ i : Nat, i < 64 → d1.fast (i : Int) = d.fast (i : Int) := by
  have hb : ∀ s ∈ logF d.fast, BytesOk s := by
    intro s hs
    unfold logF at hs
    obtain ⟨k, _, rfl⟩ := List.mem_map.1 hs
    exact (hsec _).2
  obtain ⟨F, hF⟩ : ∃ F, F = (pagesOf (logF d.fast)).filter (fun p => thereB d.n p.f0) := ⟨_, rfl⟩
  have hFp : ∀ p ∈ F, thereB d.n p.f0 = true ∧ p.f1.length = 512 := by
    intro p hp
    rw [hF] at hp
    have h1 := List.mem_filter.1 hp
    exact ⟨h1.2, (pagesOf_ok hb p h1.1).2.2.2⟩
  have hFl : F.length ≤ 64 := by
    rw [hF]
    refine Nat.le_trans (List.length_filter_le _ _) ?_
    unfold pagesOf
    split
    · rename_i hh
      unfold outS
      rw [List.length_map, List.length_range]
      exact hh.m64
    · simp
  obtain ⟨c1, hw1, hc1⟩ := writesD_live h hs hFp
  refine ⟨{ d with fast := applyW (pgW F) d.fast, cnt := c1 }, by rw [openD_live h hs hn, ← hF, hw1], h, hs, rfl, by show c1 ≤ _; omega, fun i hi => ?_⟩
  refine applyW_out _ _ _ (fun x hx => ?_)
  obtain ⟨p, hp, rfl⟩ := List.mem_map.1 hx
  have := of_decide_eq_true (hFp p hp).1
  show 64 + p.f0 ≠ (i : Int)
  omega
theorem callD_or (d : D) : (callD d).2 = 0 ∨ (callD d).2 = 190 := callD_e d
/-- Writes on any disk: a first part of them is there. -/
theorem wrD_any : ∀ (xs : List (Int × List Int)) (d : D), (∀ x ∈ xs, 0 ≤ x.1 ∧ x.1 < d.n ∧ x.2.length = 512) → ∃ j, (wrD d xs).1.fast = d.fast ∧ (wrD d xs).1.n = d.n ∧ (wrD d xs).1.since = d.since ++ xs.take j ∧ ((wrD d xs).2 = 0 → xs.take j = xs) ∧ (wrD d xs).1.cnt ≤ d.cnt + xs.length := by
  intro xs
  induction xs with
  | nil => intro d _; exact ⟨0, rfl, rfl, by simp [wrD], fun _ => rfl, by simp [wrD]⟩
  | cons x xs ih =>
    intro d hx
    have h1 := hx x List.mem_cons_self
    have hp : pad x.2 = x.2 := by unfold pad; rw [h1.2.2]; simp
    have hcn := callD_cnt d
    have hcf := callD_fast d
    have hcs := callD_since d
    have hcl := callD_n d
    unfold wrD
    rcases callD_or d with hc | hc
    · have ht : thereD (callD d).1 x.1 = 0 := by unfold thereD; rw [hcl, if_neg (by omega), if_neg (by omega)]
      have hw : writeD d x.1 x.2 = ({ (callD d).1 with since := (callD d).1.since ++ [(x.1, x.2)], cnt := (callD d).1.cnt + 1 }, 0) := by
        unfold writeD
        rw [if_neg (by rw [hc]; exact fun h => h rfl), if_neg (by rw [ht]; exact fun h => h rfl), if_neg (by omega), hp]
      rw [hw, if_pos rfl]
      obtain ⟨j, a1, a2, a3, a4, a5⟩ := ih { (callD d).1 with since := (callD d).1.since ++ [(x.1, x.2)], cnt := (callD d).1.cnt + 1 } (fun y hy => by have := hx y (List.mem_cons_of_mem _ hy); exact ⟨this.1, by show y.1 < (callD d).1.n; rw [hcl]; exact this.2.1, this.2.2⟩)
      refine ⟨j + 1, by rw [a1]; exact hcf, by rw [a2]; exact hcl, ?_, fun h => by rw [List.take_succ_cons, a4 h], ?_⟩
      · rw [a3]
        show (callD d).1.since ++ [(x.1, x.2)] ++ xs.take j = _
        rw [hcs, List.append_assoc]
        rfl
      · have a6 : _ ≤ (callD d).1.cnt + 1 + xs.length := a5
        have a7 := hcn
        refine Nat.le_trans a6 ?_
        rw [List.length_cons]
        omega
    · have hw : writeD d x.1 x.2 = ((callD d).1, 190) := by
        unfold writeD
        rw [if_pos (by rw [hc]; decide), hc]
      rw [hw, if_neg (fun h => absurd (h : (190 : Int) = 0) (by decide))]
      exact ⟨0, hcf, hcl, by rw [List.take_zero, List.append_nil]; exact hcs, fun h => absurd (show (190 : Int) = 0 from h) (by decide), by show (callD d).1.cnt ≤ _; omega⟩
theorem flushD_any (d : D) : ((flushD d).2 = 0 ∧ (flushD d).1.fast = applyW d.since d.fast ∧ (flushD d).1.since = [] ∧ (flushD d).1.n = d.n ∧ (flushD d).1.cnt = d.cnt) ∨ ((flushD d).2 ≠ 0 ∧ (flushD d).1.fast = d.fast ∧ (flushD d).1.since = d.since ∧ (flushD d).1.n = d.n ∧ (flushD d).1.cnt = d.cnt) := by
  unfold flushD
  rcases callD_or d with hc | hc
  · left
    rw [if_pos hc]
    refine ⟨rfl, ?_, rfl, callD_n d, callD_cnt d⟩
    show keptTo (fun _ => true) (callD d).1.since (callD d).1.fast (callD d).1.since.length = _
    rw [keptTo_all _ _ _ (Nat.le_refl _), List.take_of_length_le (Nat.le_refl _), callD_since, callD_fast]
  · right
    rw [if_neg (by rw [hc]; decide)]
    exact ⟨by rw [hc]; decide, callD_fast d, callD_since d, callD_n d, callD_cnt d⟩
theorem writesD_any {d : D} (hs : d.since = []) {l : List S58} (hp : ∀ p ∈ l, thereB d.n p.f0 = true ∧ p.f1.length = 512) : (∀ x ∈ (writesD d l).1.since, 64 ≤ x.1) ∧ (∀ i : Int, i < 64 → (writesD d l).1.fast i = d.fast i) ∧ (writesD d l).1.n = d.n ∧ (writesD d l).1.cnt ≤ d.cnt + l.length := by
  have hx : ∀ x ∈ pgW l, 0 ≤ x.1 ∧ x.1 < d.n ∧ x.2.length = 512 ∧ 64 ≤ x.1 := by
    intro x hx
    obtain ⟨p, hpm, rfl⟩ := List.mem_map.1 hx
    have h1 := hp p hpm
    have h2 := of_decide_eq_true h1.1
    exact ⟨by show 0 ≤ 64 + p.f0; omega, by show 64 + p.f0 < d.n; omega, h1.2, by show 64 ≤ 64 + p.f0; omega⟩
  obtain ⟨j, a1, a2, a3, a4, a5⟩ := wrD_any (pgW l) d (fun x h => ⟨(hx x h).1, (hx x h).2.1, (hx x h).2.2.1⟩)
  have hl : (pgW l).length = l.length := by unfold pgW; simp
  rw [hl] at a5
  rw [hs, List.nil_append] at a3
  have hsi : ∀ x ∈ (wrD d (pgW l)).1.since, 64 ≤ x.1 := fun x h => by rw [a3] at h; exact (hx x (List.mem_of_mem_take h)).2.2.2
  unfold writesD
  split
  · split
    · exact ⟨hsi, ⟨fun i _ => by rw [a1], a2, a5⟩⟩
    · rcases flushD_any (wrD d (pgW l)).1 with ⟨_, b1, b2, b3, b4⟩ | ⟨_, b1, b2, b3, b4⟩
      · refine ⟨fun x h => absurd (b2 ▸ h : x ∈ []) (by simp), fun i hi => ?_, b3.trans a2, Nat.le_trans (Nat.le_of_eq b4) a5⟩
        rw [b1, applyW_out _ _ _ (fun x h e => by have := hsi x h; omega), a1]
      · exact ⟨fun x h => by rw [b2] at h; exact hsi x h, fun i _ => by rw [b1, a1], by rw [b3, a2], by rw [b4]; exact a5⟩
  · exact ⟨hsi, fun i _ => by rw [a1], a2, a5⟩
/-- A commit on any disk. -/
theorem commit_any {d : D} (hs : d.since = []) (hn : 64 < d.n) {s : Int} (h0 : 0 ≤ s) (h1 : s < 18446744073709551616) {l : List S58} (hp : ∀ p ∈ l, thereB d.n p.f0 = true ∧ p.f1.length = 512 ∧ BytesOk p.f1) :
    (commitD d s l).1.n = d.n ∧ (commitD d s l).1.cnt ≤ d.cnt + 128 ∧ ((commitD d s l).2.2 = 0 → l ≠ [] → (commitD d s l).2.1 = s + 1) ∧
    (((commitD d s l).2.1 = s ∧ (commitD d s l).1.fast = d.fast ∧ ∀ x ∈ (commitD d s l).1.since, numB (x.2.take 8) = s + 1) ∨
     ((commitD d s l).2.1 = s + 1 ∧ s + 1 < 18446744073709551616 ∧ numB (((commitD d s l).1.fast 0).take 8) = s + 1 ∧ (∀ i : Nat, i < 64 → (commitD d s l).1.fast (i : Int) = d.fast (i : Int) ∨ numB (((commitD d s l).1.fast (i : Int)).take 8) = s + 1) ∧ ∀ x ∈ (commitD d s l).1.since, 64 ≤ x.1)) := by
  have early : ∀ e : Int, e ≠ 0 → ((d, s, e) : D × Int × Int).1.n = d.n ∧ ((d, s, e) : D × Int × Int).1.cnt ≤ d.cnt + 128 ∧ (((d, s, e) : D × Int × Int).2.2 = 0 → l ≠ [] → ((d, s, e) : D × Int × Int).2.1 = s + 1) ∧
      ((((d, s, e) : D × Int × Int).2.1 = s ∧ ((d, s, e) : D × Int × Int).1.fast = d.fast ∧ ∀ x ∈ ((d, s, e) : D × Int × Int).1.since, numB (x.2.take 8) = s + 1) ∨
     (((d, s, e) : D × Int × Int).2.1 = s + 1 ∧ s + 1 < 18446744073709551616 ∧ numB ((((d, s, e) : D × Int × Int).1.fast 0).take 8) = s + 1 ∧ (∀ i : Nat, i < 64 → ((d, s, e) : D × Int × Int).1.fast (i : Int) = d.fast (i : Int) ∨ numB ((((d, s, e) : D × Int × Int).1.fast (i : Int)).take 8) = s + 1) ∧ ∀ x ∈ ((d, s, e) : D × Int × Int).1.since, 64 ≤ x.1)) := fun e he =>
    ⟨rfl, Nat.le_add_right _ _, fun h => absurd h he, .inl ⟨rfl, rfl, fun x hx => by rw [show ((d, s, e) : D × Int × Int).1.since = [] from hs] at hx; cases hx⟩⟩
  unfold commitD
  split
  · exact early 1 (by decide)
  split
  · rename_i hl
    refine ⟨rfl, Nat.le_add_right _ _, fun _ h => absurd (List.eq_nil_of_length_eq_zero hl) h, .inl ⟨rfl, rfl, fun x hx => ?_⟩⟩
    rw [show ((d, s, (0 : Int)) : D × Int × Int).1.since = [] from hs] at hx
    cases hx
  split
  · exact early 8 (by decide)
  rename_i hmx
  split
  · rename_i he
    exact early _ he
  rename_i he
  have he' : recE (s + 1) l = 0 := Classical.byContradiction he
  have hr := recE_0 he'
  have hrs := recS_ok (seq := s + 1) (l := l) (fun p hpm => (hp p hpm).2.2)
  have hN := recS_len (s + 1) l
  have hsq : ∀ x ∈ enumW 0 (recS (s + 1) l), numB (x.2.take 8) = s + 1 ∧ 0 ≤ x.1 ∧ x.1 < 64 := by
    intro x hx
    have h2 := enumW_mem _ 0 x hx
    obtain ⟨i, _, hi⟩ := List.mem_map.1 h2.2.2
    refine ⟨?_, by have := h2.1; omega, by have := h2.2.1; omega⟩
    rw [← hi, sect_parts.1]
    exact numB_big _ 8 (by omega) (by have : (256 : Int) ^ 8 = 18446744073709551616 := by decide
                                      omega)
  obtain ⟨j, a1, a2, a3, a4, a5⟩ := wrD_any (enumW 0 (recS (s + 1) l)) d (fun x hx => by
    have h2 := enumW_mem _ 0 x hx
    exact ⟨(hsq x hx).2.1, by have := (hsq x hx).2.2; omega, (hrs _ h2.2.2).1⟩)
  rw [hs, List.nil_append] at a3
  rw [enumW_len] at a5
  have hsi : ∀ x ∈ (wrD d (enumW 0 (recS (s + 1) l))).1.since, numB (x.2.take 8) = s + 1 := fun x h => by rw [a3] at h; exact (hsq x (List.mem_of_mem_take h)).1
  split
  · rename_i h2
    exact ⟨a2, by show (wrD d (enumW 0 (recS (s + 1) l))).1.cnt ≤ _; omega, fun h => absurd h h2, .inl ⟨rfl, a1, hsi⟩⟩
  rename_i h2
  have h2' : (wrD d (enumW 0 (recS (s + 1) l))).2 = 0 := Classical.byContradiction h2
  rcases flushD_any (wrD d (enumW 0 (recS (s + 1) l))).1 with ⟨b0, b1, b2, b3, b4⟩ | ⟨b0, b1, b2, b3, b4⟩
  · rw [if_neg (by rw [b0]; exact fun h => h rfl)]
    obtain ⟨c1, c2, c3, c4⟩ := writesD_any (d := (flushD (wrD d (enumW 0 (recS (s + 1) l))).1).1) b2 (l := l) (fun p hpm => by rw [b3, a2]; exact ⟨(hp p hpm).1, (hp p hpm).2.1⟩)
    have hat : ∀ i : Nat, i < 64 → (writesD (flushD (wrD d (enumW 0 (recS (s + 1) l))).1).1 l).1.fast (i : Int) = if i < (recS (s + 1) l).length then (recS (s + 1) l).getD i [] else d.fast (i : Int) := by
      intro i hi
      rw [c2 (i : Int) (by omega), b1, a3, a4 h2', a1, applyW_enum]
      by_cases hlt : i < (recS (s + 1) l).length
      · rw [if_pos hlt, if_pos (by omega)]
        show (recS (s + 1) l).getD ((i : Int) - ((0 : Nat) : Int)).toNat [] = _
        rw [show ((i : Int) - ((0 : Nat) : Int)).toNat = i by omega]
      · rw [if_neg hlt, if_neg (by omega)]
    have hnum : ∀ i : Nat, i < (recS (s + 1) l).length → numB (((recS (s + 1) l).getD i []).take 8) = s + 1 := by
      intro i hi
      have h3 := recS_at (s + 1) l [] (i := i) (by rw [← hN]; exact hi)
      rw [List.append_nil] at h3
      rw [h3, sect_parts.1]
      exact numB_big _ 8 (by omega) (by have : (256 : Int) ^ 8 = 18446744073709551616 := by decide
                                        omega)
    have hN1 : 1 ≤ secsN l.length := by unfold secsN; omega
    refine ⟨by show (writesD _ l).1.n = _; rw [c3, b3, a2], by show (writesD _ l).1.cnt ≤ _; rw [b4] at c4; omega, fun _ _ => rfl, .inr ⟨rfl, by omega, ?_, fun i hi => ?_, c1⟩⟩
    · show numB (((writesD _ l).1.fast ((0 : Nat) : Int)).take 8) = s + 1
      rw [hat 0 (by decide), if_pos (by rw [hN]; omega)]
      exact hnum 0 (by rw [hN]; omega)
    · show (writesD _ l).1.fast (i : Int) = _ ∨ numB (((writesD _ l).1.fast (i : Int)).take 8) = s + 1
      rw [hat i hi]
      by_cases hlt : i < (recS (s + 1) l).length
      · rw [if_pos hlt]; exact .inr (hnum i hlt)
      · rw [if_neg hlt]; exact .inl rfl
  · rw [if_pos b0]
    exact ⟨by show (flushD _).1.n = _; rw [b3, a2], by show (flushD _).1.cnt ≤ _; rw [b4]; omega, fun h => absurd h b0, .inl ⟨rfl, by show (flushD _).1.fast = _; rw [b1, a1], fun x h => hsi x (by rw [← b2]; exact h)⟩⟩
theorem keptTo_or (F : Nat → Bool) (l : List (Int × List Int)) (f : Int → List Int) (i : Int) : ∀ k, k ≤ l.length → keptTo F l f k i = f i ∨ ∃ x ∈ l, x.1 = i ∧ keptTo F l f k i = x.2 := by
  intro k
  induction k with
  | zero => intro _; exact .inl rfl
  | succ k ih =>
    intro hk
    unfold keptTo
    split
    · have hm : l.getD k (0, zeros) ∈ l := by rw [List.getD_eq_getElem?_getD, List.getElem?_eq_getElem (by omega)]; exact List.getElem_mem _
      generalize l.getD k (0, zeros) = x at hm
      unfold upd
      by_cases e : i = x.1
      · rw [if_pos e]; exact .inr ⟨x, hm, e.symm, rfl⟩
      · rw [if_neg e]; exact ih (by omega)
    · exact ih (by omega)
theorem seqTo_hit {d : D} : ∀ k, seqTo d k = 0 ∨ ∃ i, i < k ∧ numB ((rdRow d i).take 8) = seqTo d k := by
  intro k
  induction k with
  | zero => exact .inl rfl
  | succ k ih =>
    unfold seqTo
    split
    · exact .inr ⟨k, by omega, rfl⟩
    · rcases ih with h | ⟨i, hi, h⟩
      · exact .inl h
      · exact .inr ⟨i, by omega, h⟩
/-- One round of WalSeqs. -/
theorem seqs_step {d : D} (h : Live d) (hs : d.since = []) (hn : 64 < d.n) (hsec : ∀ i, Sec (d.fast i)) {l : List S58} (hp : ∀ p ∈ l, thereB d.n p.f0 = true ∧ p.f1.length = 512 ∧ BytesOk p.f1) (arm : Int) (keep : List Bool) :
    ∃ (d1 d2 d3 : D) (s s' e : Int), openD d = (d1, s, 0) ∧ s = seqTo d 64 ∧ 0 ≤ s ∧ s < 18446744073709551616 ∧ d1.cnt ≤ d.cnt + 64 ∧ commitD (armD d1 arm) s l = (d2, s', e) ∧ (e = 0 → l ≠ [] → s' = s + 1) ∧ (s' = s ∨ (s' = s + 1 ∧ s + 1 < 18446744073709551616)) ∧ d2.cnt ≤ d.cnt + 192 ∧
      crashD d2 keep = d3 ∧ Live d3 ∧ d3.since = [] ∧ d3.n = d.n ∧ d3.cnt ≤ d.cnt + 192 ∧ s' ≤ seqTo d3 64 ∧ seqTo d3 64 ≤ s + 1 := by
  obtain ⟨d1, ho, hl1, hs1, hn1, hc1, hlow⟩ := open_live h hs hn hsec
  have hb := seqTo_bound (d := d) (fun k hk _ => by rw [(rd_live h hs hn hk).1]; exact hsec _) 64 (Nat.le_refl _) (fun i hi => (rd_live h hs hn hi).2)
  obtain ⟨c1, c2, c3, c4⟩ := commit_any (d := armD d1 arm) hs1 (by show 64 < d1.n; rw [hn1]; exact hn) hb.1 hb.2 (l := l) (fun p hpm => by show thereB d1.n p.f0 = true ∧ _; rw [hn1]; exact hp p hpm)
  obtain ⟨r, hr⟩ : ∃ r, r = commitD (armD d1 arm) (seqTo d 64) l := ⟨_, rfl⟩
  rw [← hr] at c1 c2 c3 c4
  obtain ⟨d2, s', e⟩ := r
  dsimp only at c1 c2 c3 c4
  have hn3 : (crashD d2 keep).n = d.n := by show d2.n = _; rw [c1]; exact hn1
  have hl3 : Live (crashD d2 keep) := ⟨rfl, rfl⟩
  have hs3 : (crashD d2 keep).since = [] := rfl
  have hf3 : (crashD d2 keep).fast = keptTo (kept keep) d2.since d2.fast d2.since.length := rfl
  have hc2' : d2.cnt ≤ d.cnt + 192 := by have : (armD d1 arm).cnt = d1.cnt := rfl; omega
  refine ⟨d1, d2, _, seqTo d 64, s', e, ho, rfl, hb.1, hb.2, hc1, hr.symm, c3, ?_, hc2', rfl, hl3, hs3, hn3, by show d2.cnt ≤ _; exact hc2', ?_, ?_⟩
  · rcases c4 with ⟨h1, _⟩ | ⟨h1, h2, _⟩
    · exact .inl h1
    · exact .inr ⟨h1, h2⟩
  · rcases c4 with ⟨h1, h2, h3⟩ | ⟨h1, h2, h3, _, h4⟩
    · rw [h1]
      rcases seqTo_hit (d := d) 64 with h0 | ⟨i, hi, h5⟩
      · rw [h0]; exact seqTo_pos _ _
      · rw [← h5]
        have h6 := seqTo_ge (d := crashD d2 keep) 64 i hi
        rw [(rd_live hl3 hs3 (by rw [hn3]; exact hn) hi).1, hf3] at h6
        rw [(rd_live h hs hn hi).1] at h5 ⊢
        rcases keptTo_or (kept keep) d2.since d2.fast (i : Int) _ (Nat.le_refl _) with h7 | ⟨x, hx, _, h7⟩
        · rw [h7, h2] at h6
          have h8 : (armD d1 arm).fast (i : Int) = d.fast (i : Int) := hlow i hi
          rw [h8] at h6
          exact h6
        · rw [h7, h3 x hx] at h6
          omega
    · rw [h1]
      have h6 := seqTo_ge (d := crashD d2 keep) 64 0 (by decide)
      rw [(rd_live hl3 hs3 (by rw [hn3]; exact hn) (by decide)).1, hf3] at h6
      rcases keptTo_or (kept keep) d2.since d2.fast ((0 : Nat) : Int) _ (Nat.le_refl _) with h7 | ⟨x, hx, h8, _⟩
      · rw [h7] at h6
        have h9 : numB ((d2.fast ((0 : Nat) : Int)).take 8) = seqTo d 64 + 1 := h3
        rw [h9] at h6
        exact h6
      · have := h4 x hx
        omega
  · refine seqTo_le (by omega) 64 (fun i hi => ?_)
    rw [(rd_live hl3 hs3 (by rw [hn3]; exact hn) hi).1, hf3]
    have hold : numB ((d.fast (i : Int)).take 8) ≤ seqTo d 64 := by
      have := seqTo_ge (d := d) 64 i hi
      rwa [(rd_live h hs hn hi).1] at this
    have hd1 : (armD d1 arm).fast (i : Int) = d.fast (i : Int) := hlow i hi
    rcases keptTo_or (kept keep) d2.since d2.fast (i : Int) _ (Nat.le_refl _) with h7 | ⟨x, hx, h8, h7⟩
    · rw [h7]
      rcases c4 with ⟨_, h2, _⟩ | ⟨_, _, _, h4, _⟩
      · rw [h2, hd1]; omega
      · rcases h4 i hi with h5 | h5
        · rw [h5, hd1]; omega
        · rw [h5]; exact Int.le_refl _
    · rw [h7]
      rcases c4 with ⟨_, _, h3⟩ | ⟨_, _, _, _, h4⟩
      · rw [h3 x hx]; exact Int.le_refl _
      · have := h4 x hx
        omega
theorem pagesW_ok {l : List Put_} (h : ∀ p ∈ l, 0 ≤ p.2 ∧ p.2 < 256) : ∀ p ∈ pagesW l, thereB 72 p.f0 = true ∧ p.f1.length = 512 ∧ BytesOk p.f1 := by
  intro p hp
  obtain ⟨q, hq, rfl⟩ := List.mem_map.1 hp
  have h1 := low3_bound q.1
  have h2 := h q (List.mem_of_mem_take hq)
  exact ⟨decide_eq_true (by show 0 ≤ low3 q.1 ∧ low3 q.1 < 72 - 64; omega), List.length_replicate, fun x hx => by rw [(List.mem_replicate.1 hx).2]; exact h2⟩
end Go.Proofs.Ytmghgghheebnjaa.Dis
namespace Go.Proofs.Ytmghgghheebnjaa.Dis
open Go.RowKit Go.Proofs.YtmghgghheebnjaaW.PrintWords Go.Proofs.YtmghgghheebnjaaW.PrintLast Go.Proofs.YtmghgghheebnjaaW.PrintMore
set_option linter.unusedVariables false
set_option linter.unusedSimpArgs false
/-- What has come up: l0, and of the events those that d tells. -/
def lat : Array Bool → List Nat → List Bool → Array Bool
  | l, e :: es, b :: bs => lat (if b then l.setIfInBounds e true else l) es bs
  | l, _, _ => l
/-- One more event done. -/
def on : List Bool → Nat → List Bool
  | _ :: bs, 0 => true :: bs
  | b :: bs, j + 1 => b :: on bs j
  | [], _ => []
def offs : List Bool → Nat
  | [] => 0
  | b :: bs => (if b then 0 else 1) + offs bs
theorem on_offs : ∀ (d : List Bool) (j : Nat), d.getD j true = false → offs (on d j) + 1 = offs d
  | [], j, h => by simp at h
  | b :: bs, 0, h => by
    have : b = false := by simpa using h
    subst this
    show (if true = true then 0 else 1) + offs bs + 1 = (if false = true then 0 else 1) + offs bs
    simp; omega
  | b :: bs, j + 1, h => by
    have := on_offs bs j (by simpa using h)
    show (if b = true then 0 else 1) + offs (on bs j) + 1 = (if b = true then 0 else 1) + offs bs
    omega
theorem on_at : ∀ (d : List Bool) (j : Nat), j < d.length → (on d j).getD j false = true
  | [], j, h => by simp at h
  | b :: bs, 0, h => rfl
  | b :: bs, j + 1, h => by
    have := on_at bs j (by simpa using h)
    simpa [on] using this
theorem on_ne : ∀ (d : List Bool) (j i : Nat), i ≠ j → (on d j).getD i false = d.getD i false
  | [], j, i, _ => rfl
  | b :: bs, 0, 0, h => absurd rfl h
  | b :: bs, 0, i + 1, h => rfl
  | b :: bs, j + 1, 0, h => rfl
  | b :: bs, j + 1, i + 1, h => by
    have := on_ne bs j i (by omega)
    simpa [on] using this
def okLat (md : Region.Mode) (ops : Array Oper) (l0 : Array Bool) (evs : List Nat) (states : List (List Bool)) : Bool :=
  states.all fun d => (offs d == 0) || (!(Region.ready md ops (lat l0 evs d)).isEmpty && (Region.ready md ops (lat l0 evs d)).all fun i =>
    (List.range evs.length).any fun j => evs.getD j 0 == i && !d.getD j true && states.contains (on d j) && lat l0 evs (on d j) == (lat l0 evs d).setIfInBounds i true)
/-- Wherever event j may come up, event k is done. -/
def after (states : List (List Bool)) (j k : Nat) : Bool := states.all fun d => d.getD j true || !states.contains (on d j) || d.getD k false
theorem after_of {states : List (List Bool)} {j k : Nat} (h : after states j k = true) {d : List Bool} (hd : d ∈ states) (hj : d.getD j true = false) (hn : on d j ∈ states) : d.getD k false = true := by
  have := List.all_eq_true.1 h d hd
  simp only [hj, Bool.false_or, Bool.or_eq_true, Bool.not_eq_true'] at this
  rcases this with h1 | h1
  · rw [List.contains_iff_mem.2 hn] at h1; cases h1
  · exact h1
/-- No event is done behind event j. -/
def before (states : List (List Bool)) (j k : Nat) : Bool := states.all fun d => d.getD j true || !states.contains (on d j) || !d.getD k true
theorem before_of {states : List (List Bool)} {j k : Nat} (h : before states j k = true) {d : List Bool} (hd : d ∈ states) (hj : d.getD j true = false) (hn : on d j ∈ states) : d.getD k true = false := by
  have := List.all_eq_true.1 h d hd
  simp only [hj, Bool.false_or, Bool.or_eq_true, Bool.not_eq_true'] at this
  rcases this with h1 | h1
  · rw [List.contains_iff_mem.2 hn] at h1; cases h1
  · exact h1
theorem bit_abs {d : List Bool} {k : Nat} (h1 : d.getD k true = false) (h2 : d.getD k false = true) : False := by
  rw [List.getD_eq_getElem?_getD] at h1 h2
  cases h : d[k]? with
  | none => rw [h] at h1; cases h1
  | some b => rw [h] at h1 h2; rw [show b = false from h1] at h2; cases h2
section
variable {P : Program} {ops : Array Oper} {Q : Exit → Act → World → Prop} {md : Region.Mode} {S : World → Prop}
theorem lattice (l0 : Array Bool) (evs : List Nat) (states : List (List Bool)) (hok : okLat md ops l0 evs states = true) (Inv : List Bool → Act → World → Prop) (fuel : Nat)
    (hstep : ∀ d j, d ∈ states → d.getD j true = false → on d j ∈ states → ∀ a w, S w → Inv d a w → ∀ o, ops[evs.getD j 0]? = some o → ∀ K : Act → World → Prop, Shut (∀ a' w', S w' → Inv (on d j) a' w' → K a' w') → if Region.wanted o (yielded ops a.tmps) = true then Oper.wp P o a w K Q else K (a.put o.dst undef) w)
    (hfin : ∀ d a w, d ∈ states → offs d = 0 → S w → Inv d a w → wpAnyLast P md ops Q S [] fuel (lat l0 evs d) a w) :
    ∀ (m : Nat) (d : List Bool) (a : Act) (w : World), d ∈ states → offs d = m → S w → Inv d a w → wpAnyLast P md ops Q S [] (fuel + m) (lat l0 evs d) a w := by
  intro m
  induction m with
  | zero => intro d a w hd h0 hS hI; exact hfin d a w hd h0 hS hI
  | succ m ih =>
    intro d a w hd hm hS hI
    have h1 := List.all_eq_true.1 hok d hd
    have h0 : (offs d == 0) = false := by rw [hm]; rfl
    rw [h0, Bool.false_or, Bool.and_eq_true] at h1
    obtain ⟨hne, hall⟩ := h1
    refine ⟨fun h => (by rw [h] at hne; simp at hne), fun i hi => ?_⟩
    obtain ⟨j, hj, hj2⟩ := List.any_eq_true.1 (List.all_eq_true.1 hall i hi)
    simp only [Bool.and_eq_true, beq_iff_eq, Bool.not_eq_true'] at hj2
    obtain ⟨⟨⟨e1, e2⟩, e3⟩, e4⟩ := hj2
    have hmem : on d j ∈ states := List.contains_iff_mem.1 e3
    have hofs := on_offs d j e2
    subst e1
    obtain ⟨o, ho⟩ : ∃ o, ops[evs.getD j 0]? = some o := by
      obtain ⟨_, o, ho, _⟩ := mem_ready.1 hi
      exact ⟨o, ho⟩
    refine wpOp_step ho (fun K hK => hstep d j hd e2 hmem a w hS hI o ho K (fun a' w' hS' hI' => hK a' w' ⟨fun _ _ => hS', ?_⟩))
    rw [← e4]
    exact ih (on d j) a' w' hmem (by omega) hS' hI'
/-- The act with the events' values. -/
def putVs : Act → List Tmp → List Value → Act
  | a, t :: ts, v :: vs => putVs (a.put (some t) v) ts vs
  | a, _, _ => a
theorem put_comm (a : Act) (t u : Tmp) (v x : Value) (h : t ≠ u) : (a.put (some t) v).put (some u) x = (a.put (some u) x).put (some t) v := by
  simp only [Act.put]
  rw [Array.setIfInBounds_comm _ _ h]
theorem put_same (a : Act) (t : Tmp) (v x : Value) : (a.put (some t) v).put (some t) x = a.put (some t) x := by
  simp [Act.put]
theorem put_out : ∀ (ts : List Tmp) (vs : List Value) (a : Act) (t : Tmp) (v : Value), t ∉ ts → (putVs a ts vs).put (some t) v = putVs (a.put (some t) v) ts vs
  | [], vs, a, t, v, _ => by cases vs <;> rfl
  | u :: ts, [], a, t, v, _ => rfl
  | u :: ts, x :: vs, a, t, v, h => by
    show (putVs (a.put (some u) x) ts vs).put (some t) v = putVs ((a.put (some t) v).put (some u) x) ts vs
    rw [put_out ts vs _ t v (fun hm => h (List.mem_cons_of_mem _ hm)), put_comm a u t x v (fun e => h (by rw [e]; exact List.mem_cons_self))]
theorem put_set : ∀ (ts : List Tmp) (vs : List Value) (a : Act) (j : Nat) (t : Tmp) (v : Value), ts.Nodup → vs.length = ts.length → ts[j]? = some t → (putVs a ts vs).put (some t) v = putVs a ts (vs.set j v)
  | [], vs, a, j, t, v, _, _, h => by simp at h
  | u :: ts, [], a, j, t, v, _, hl, _ => by simp at hl
  | u :: ts, x :: vs, a, 0, t, v, hn, hl, h => by
    obtain rfl : u = t := by simpa using h
    show (putVs (a.put (some u) x) ts vs).put (some u) v = putVs (a.put (some u) v) ts vs
    rw [put_out ts vs _ u v (List.nodup_cons.1 hn).1, put_same]
  | u :: ts, x :: vs, a, j + 1, t, v, hn, hl, h => put_set ts vs (a.put (some u) x) j t v (List.nodup_cons.1 hn).2 (by simpa using hl) (by simpa using h)
/-- Each event's place is where its operation puts its value; a store puts none. -/
def okDst (ops : Array Oper) (evs : List Nat) (ts : List Tmp) : Bool := (List.range evs.length).all fun j => match ops[evs.getD j 0]?, ts[j]? with
  | some o, some t => o.dst == some t || o.dst == none
  | _, _ => false
def updO (o : Oper) (xs : List Value) (j : Nat) (v : Value) : List Value := if o.dst.isNone then xs else xs.set j v
theorem lattice2 (l0 : Array Bool) (evs : List Nat) (states : List (List Bool)) (ts : List Tmp) (hok : okLat md ops l0 evs states = true) (hdst : okDst ops evs ts = true) (hnd : ts.Nodup) (hlen : states.all (fun d => d.length == evs.length) = true) (F : List Bool → List Value → World → Prop) (fuel : Nat) {a0 : Act}
    (hstep : ∀ j, j < evs.length → ∀ d, d ∈ states → d.getD j true = false → on d j ∈ states → ∀ xs w, xs.length = ts.length → S w → F d xs w → ∀ a, a = putVs a0 ts xs → ∀ o, ops[evs.getD j 0]? = some o → ∀ K : Act → World → Prop, Shut (∀ v w', S w' → F (on d j) (updO o xs j v) w' → K (a.put o.dst v) w') → if Region.wanted o (yielded ops a.tmps) = true then Oper.wp P o a w K Q else K (a.put o.dst undef) w)
    (hfin : ∀ d xs a w, d ∈ states → offs d = 0 → xs.length = ts.length → S w → F d xs w → a = putVs a0 ts xs → wpAnyLast P md ops Q S [] fuel (lat l0 evs d) a w)
    (m : Nat) (d : List Bool) (xs : List Value) (w : World) (hd : d ∈ states) (hm : offs d = m) (hx : xs.length = ts.length) (hS : S w) (hF : F d xs w) : wpAnyLast P md ops Q S [] (fuel + m) (lat l0 evs d) (putVs a0 ts xs) w := by
  refine lattice l0 evs states hok (fun d a w => ∃ xs, xs.length = ts.length ∧ a = putVs a0 ts xs ∧ F d xs w) fuel ?_ ?_ m d _ w hd hm hS ⟨xs, hx, rfl, hF⟩
  · intro d j hd hj hn a w hS ⟨xs, hx, ha, hF⟩ o ho K hK
    have hdl : d.length = evs.length := by simpa using List.all_eq_true.1 hlen d hd
    have hjl : j < evs.length := by
      rcases Nat.lt_or_ge j evs.length with h | h
      · exact h
      · rw [List.getD_eq_getElem?_getD, List.getElem?_eq_none (by omega)] at hj
        cases hj
    have hdt := List.all_eq_true.1 hdst j (List.mem_range.2 hjl)
    rw [ho] at hdt
    obtain ⟨t, ht⟩ : ∃ t, ts[j]? = some t := by
      cases h : ts[j]? with
      | none => rw [h] at hdt; cases hdt
      | some t => exact ⟨t, rfl⟩
    rw [ht] at hdt
    have hod : o.dst = some t ∨ o.dst = none := by simpa using hdt
    refine hstep j hjl d hd hj hn xs w hx hS hF a ha o ho K (fun v w' hS' hF' => ?_)
    rcases hod with hod | hod
    · have hu : updO o xs j v = xs.set j v := by unfold updO; rw [hod]; rfl
      rw [hu] at hF'
      refine hK _ _ hS' ⟨xs.set j v, by rw [List.length_set]; exact hx, ?_, hF'⟩
      rw [hod, ha]
      exact put_set ts xs a0 j t v hnd hx ht
    · have hu : updO o xs j v = xs := by unfold updO; rw [hod]; rfl
      rw [hu] at hF'
      refine hK _ _ hS' ⟨xs, hx, ?_, hF'⟩
      rw [hod, ha]
      rfl
  · intro d a w hd h0 hS ⟨xs, hx, ha, hF⟩
    exact hfin d xs a w hd h0 hx hS hF ha
theorem offs_no : ∀ n, offs (List.replicate n false) = n
  | 0 => rfl
  | n + 1 => by
    show (if false = true then 0 else 1) + offs (List.replicate n false) = n + 1
    rw [offs_no n]
    simp
    omega
theorem put_self (a : Act) (t : Tmp) : a.put (some t) (a.tmps.getD t undef) = a := by
  obtain ⟨tmps, defers⟩ := a
  simp only [Act.put]
  congr 1
  apply Array.ext_getElem?
  intro i
  rw [Array.getElem?_setIfInBounds]
  by_cases h : t = i
  · subst h
    rw [if_pos rfl]
    by_cases h2 : t < tmps.size
    · rw [if_pos h2]; simp [h2]
    · rw [if_neg h2]; exact (Array.getElem?_eq_none (Nat.le_of_not_lt h2)).symm
  · rw [if_neg h]
theorem putVs_self : ∀ (ts : List Tmp) (a : Act), putVs a ts (ts.map fun t => a.tmps.getD t undef) = a
  | [], a => rfl
  | t :: ts, a => by
    show putVs (a.put (some t) (a.tmps.getD t undef)) ts (ts.map fun t => a.tmps.getD t undef) = a
    rw [put_self]
    exact putVs_self ts a
theorem lattice3 (l0 : Array Bool) (evs : List Nat) (states : List (List Bool)) (ts : List Tmp) (hok : okLat md ops l0 evs states = true) (hdst : okDst ops evs ts = true) (hnd : ts.Nodup) (hlen : states.all (fun d => d.length == evs.length) = true)
    (hfull : states.all (fun d => !(offs d == 0) || d == List.replicate evs.length true) = true) (hst : states.contains (List.replicate evs.length false) = true) (F : List Bool → List Value → World → Prop) (fuel : Nat) {n : Nat} {l : Array Bool} {a : Act} {w : World} (hn : n = fuel + evs.length) (hl : (lat l0 evs (List.replicate evs.length false) == l) = true)
    (hS : S w) (hF : ∀ xs, xs.length = ts.length → F (List.replicate evs.length false) xs w)
    (hstep : ∀ j, j < evs.length → ∀ d, d ∈ states → d.getD j true = false → on d j ∈ states → ∀ xs w, xs.length = ts.length → S w → F d xs w → ∀ a', a' = putVs a ts xs → ∀ o, ops[evs.getD j 0]? = some o → ∀ K : Act → World → Prop, Shut (∀ v w', S w' → F (on d j) (updO o xs j v) w' → K (a'.put o.dst v) w') → if Region.wanted o (yielded ops a'.tmps) = true then Oper.wp P o a' w K Q else K (a'.put o.dst undef) w)
    (hfin : ∀ xs w', xs.length = ts.length → S w' → F (List.replicate evs.length true) xs w' → ∀ a', a' = putVs a ts xs → wpAnyLast P md ops Q S [] fuel (lat l0 evs (List.replicate evs.length true)) a' w') : wpAnyLast P md ops Q S [] n l a w := by
  subst hn
  rw [← eq_of_beq hl]
  have h := lattice2 (a0 := a) l0 evs states ts hok hdst hnd hlen F fuel hstep (fun d xs a' w' hd h0 hx hS hF ha => by
    have := List.all_eq_true.1 hfull d hd
    rw [h0] at this
    have hd2 : d = List.replicate evs.length true := by simpa using this
    subst hd2
    exact hfin xs w' hx hS hF a' ha) evs.length (List.replicate evs.length false) (ts.map fun t => a.tmps.getD t undef) w (List.contains_iff_mem.1 hst) (offs_no _) (by simp) hS (hF _ (by simp))
  rw [putVs_self] at h
  exact h
end
end Go.Proofs.Ytmghgghheebnjaa.Dis
namespace Go.Proofs.Ytmghgghheebnjaa.PWalRecords
open Go.RowKit Go.Proofs.YtmghgghheebnjaaW.PrintWords Go.Proofs.YtmghgghheebnjaaW.PrintLast Go.Proofs.YtmghgghheebnjaaW.PrintMore
attribute [local go_sem] max2_int min2_int max_two min_two max_three min_three max_four min_four   -- for this text's walks alone
set_option linter.unusedVariables false
set_option linter.unusedSimpArgs false

/-! ### aukletref20_Num: function 41 -/
def aukletref20_Num.l0 : Nat → List Int → Int → Int → Option (Int)
  | 0, _, _, _ => none
  | k + 1, x0, x3, x4 => if x4 < (x0.length : Int) then (if 0 ≤ x4 then (aukletref20_Num.l0 k x0 (IntKind.u64.wrap ((IntKind.u64.wrap (x3 * 256)) + (IntKind.u64.wrap (rd x0 x4)))) (wrap64 (x4 + 1))) else (none)) else (some x3)
def aukletref20_Num.f (k : Nat) (l0 : List Int) : Option (Int) := aukletref20_Num.l0 k l0 0 0
theorem aukletref20_Num.mono_l : ∀ k, (∀ y0 y1 y2, LeO (aukletref20_Num.l0 k y0 y1 y2) (aukletref20_Num.l0 (k + 1) y0 y1 y2))
  | 0 => fun _ _ _ r h => by simp [aukletref20_Num.l0] at h
  | k + 1 => by
    have ih0 := aukletref20_Num.mono_l k
    · intro y0 y1 y2
      unfold aukletref20_Num.l0
      repeat' first
      | (with_reducible exact ih0 _ _ _)
      | (with_reducible exact LeO.refl _)
      | (with_reducible exact LeO.none _)
      | (with_reducible refine LeO.ite ?_ ?_)
      | (with_reducible refine LeO.bind ?_ (fun _ => ?_))
      | exact ih0 _ _ _
      | exact LeO.none _
      | refine LeO.ite ?_ ?_
      | refine LeO.bind ?_ (fun _ => ?_)
theorem aukletref20_Num.mono : ∀ a0 k, LeO (aukletref20_Num.f k a0) (aukletref20_Num.f (k + 1) a0) := by
  intro a0 k
  have ih0 := aukletref20_Num.mono_l k
  unfold aukletref20_Num.f
  repeat' first
      | (with_reducible exact ih0 _ _ _)
      | (with_reducible exact LeO.refl _)
      | (with_reducible exact LeO.none _)
      | (with_reducible refine LeO.ite ?_ ?_)
      | (with_reducible refine LeO.bind ?_ (fun _ => ?_))
      | exact ih0 _ _ _
      | exact LeO.none _
      | refine LeO.ite ?_ ?_
      | refine LeO.bind ?_ (fun _ => ?_)
set_option maxHeartbeats 8000000 in
set_option maxRecDepth 100000 in
theorem aukletref20_Num.calls (k : Nat) (A0 : Option Addr) (c0 : Nat) (l0 : List Int) (r : Int) (w : World) (hr0 : Kd.C (Kd.int .u8) w A0 l0.length l0) (hc0 : l0.length ≤ c0) (h : aukletref20_Num.f k l0 = some r) :
    Calls Try.prog 41 #[.slice A0 l0.length c0] w fun e w' => e = .returned (.int .u64 r) ∧ Drawn0 w w' := by
  have HR0 := Aside0.mk hr0
  have HC0 := Aside0.mk hc0
  clear hr0 hc0
  have H : (aukletref20_Num.l0 k l0 0 0) = some r := h
  clear h
  have H' := Aside0.mk H
  clear H
  go_enter Try.func41, Try.ntmps41
  go_wp2
  go_loopg [3, 4] k (fun kq v3 v4 w' => ∃ (x3_1 : Int) (x4_1 : Int), v3 = .int .u64 x3_1 ∧ v4 = .int .i64 x4_1 ∧ Aside0 (aukletref20_Num.l0 kq l0 x3_1 x4_1 = some r) ∧ Aside0 (kq ≤ k) ∧ Drawn0 w w')
  case atStart => exact ⟨(0), (0), (by first | rfl | (simp; done) | (simp [*]; done)), (by first | rfl | (simp; done) | (simp [*]; done)), H', ⟨Nat.le_refl _⟩, by repeat (first | exact Drawn0.refl _ | apply Drawn0.step)⟩
  case round =>
    clear H'
    obtain ⟨x3_1, x4_1, rfl, rfl, HA, HK1, ⟨m1, rfl⟩⟩ := hrel
    cases gk with
    | zero => exact absurd HA.out (by simp [aukletref20_Num.l0])
    | succ k1 =>
      have H := HA.out
      clear HA
      simp only [aukletref20_Num.l0] at H
      by_cases c2 : x4_1 < (l0.length : Int)
      · rw [if_pos c2] at H
        have c2b0 : decide (x4_1 < (l0.length : Int)) = true := decide_eq_true c2
        clear c2
        by_cases c3 : 0 ≤ x4_1
        · rw [if_pos c3] at H
          have c3b0 : decide (0 ≤ x4_1) = true := decide_eq_true c3
          clear c3
          have H' := Aside0.mk H
          clear H
          have p182 : 0 ≤ (x4_1 : Int) := of_decide_eq_true (by first | (with_reducible assumption) | assumption)
          have q182 : x4_1 < (l0.length : Int) := of_decide_eq_true (by first | (with_reducible assumption) | assumption)
          obtain ⟨ad182, e182, hx182_0⟩ := Kd.at_int HR0.out x4_1 p182 q182
          cases e182
          replace p182 := eq_true p182
          replace q182 := eq_true q182
          go_wp2
          go_roundg k1
          case measure => have := HK1.out; omega
          case rel => exact ⟨(IntKind.u64.wrap ((IntKind.u64.wrap (x3_1 * 256)) + (IntKind.u64.wrap (rd l0 x4_1)))), (wrap64 (x4_1 + 1)), (by first | rfl | (simp; done) | (simp [*]; done)), (by first | rfl | (simp; done) | (simp [*]; done)), H', ⟨by have := HK1.out; omega⟩, by repeat (first | exact Drawn0.refl _ | apply Drawn0.step)⟩
        · rw [if_neg c3] at H
          exact absurd H (by simp)
      · rw [if_neg c2] at H
        have c2b0 : decide (x4_1 < (l0.length : Int)) = false := decide_eq_false c2
        clear c2
        obtain rfl := Option.some.inj H
        go_wp2
        go_ret
        exact ⟨by first | rfl | (simp; done) | (simp [*]; done), by repeat (first | exact Drawn0.refl _ | apply Drawn0.step)⟩

end Go.Proofs.Ytmghgghheebnjaa.PWalRecords
namespace Go.Proofs.Ytmghgghheebnjaa.Dis
open Go.RowKit Go.Proofs.YtmghgghheebnjaaW.PrintWords Go.Proofs.YtmghgghheebnjaaW.PrintLast Go.Proofs.YtmghgghheebnjaaW.PrintMore Go.Maps Go.Proofs.Ytmghgghheebnjaa.PWalRecords
set_option linter.unusedVariables false
set_option linter.unusedSimpArgs false
theorem w64_nat (n : Nat) (h : n ≤ 9223372036854775807) : wrap64 (n : Int) = (n : Int) := w64_in _ (by omega)
theorem num_l0 (l : List Int) (h8 : l.length ≤ 8) (hb : BytesOk l) : ∀ (m i K : Nat), i + m = l.length → m < K → aukletref20_Num.l0 K l (numB (l.take i)) (i : Int) = some (numB l) := by
  intro m
  induction m with
  | zero =>
    intro i K hi hK
    obtain ⟨K', rfl⟩ : ∃ K', K = K' + 1 := ⟨K - 1, by omega⟩
    unfold aukletref20_Num.l0
    rw [if_neg (by omega), List.take_of_length_le (by omega)]
  | succ m ih =>
    intro i K hi hK
    obtain ⟨K', rfl⟩ : ∃ K', K = K' + 1 := ⟨K - 1, by omega⟩
    unfold aukletref20_Num.l0
    rw [if_pos (by omega), if_pos (by omega)]
    have hg : i < l.length := by omega
    have e1 : rd l (i : Int) = l[i] := by
      show l.getD ((i : Int)).toNat 0 = _
      rw [Int.toNat_natCast, List.getD_eq_getElem?_getD, List.getElem?_eq_getElem hg]
      rfl
    have e2 : l.take (i + 1) = l.take i ++ [l[i]] := (List.take_append_getElem hg).symm
    have b1 := numB_bound (hb.take i)
    have b2 := hb _ (List.getElem_mem hg)
    have b3 : (256 : Int) ^ (l.take i).length ≤ 256 ^ 7 := by
      have h : (l.take i).length ≤ 7 := by rw [List.length_take]; omega
      generalize (l.take i).length = m at h
      rcases (by omega : m = 0 ∨ m = 1 ∨ m = 2 ∨ m = 3 ∨ m = 4 ∨ m = 5 ∨ m = 6 ∨ m = 7) with rfl | rfl | rfl | rfl | rfl | rfl | rfl | rfl <;> decide
    have e3 : (256 : Int) ^ 7 = 72057594037927936 := by decide
    rw [e1, u64_in (show 0 ≤ numB (l.take i) * 256 by omega) (by omega), u64_in b2.1 (by omega), u64_in (by omega) (by omega), ← numB_snoc, ← e2, show wrap64 ((i : Int) + 1) = ((i + 1 : Nat) : Int) from (w64_in _ (by omega)).trans (by omega)]
    exact ih (i + 1) K' (by omega) (by omega)
theorem num_f {l : List Int} (h8 : l.length ≤ 8) (hb : BytesOk l) {K : Nat} (hK : 8 < K) : aukletref20_Num.f K l = some (numB l) := by
  have := num_l0 l h8 hb l.length 0 K (by omega) (by omega)
  rw [List.take_zero] at this
  exact this
theorem set_rep : ∀ (m : Nat) (t : List Int) (v : Int), (List.replicate (m + 1) 0 ++ t).set m v = List.replicate m 0 ++ v :: t := by
  intro m
  induction m with
  | zero => intro t v; rfl
  | succ m ih =>
    intro t v
    rw [List.replicate_succ, List.cons_append, List.set_cons_succ, ih, List.replicate_succ, List.cons_append]
theorem bigr_l0 (n : Int) (h0 : 0 ≤ n) (h1 : n < 18446744073709551616) (k : Nat) (hk : k ≤ 8) : ∀ (m K : Nat), m ≤ k → m < K → aukletref20_Big.l0 K (n / 256 ^ (k - m)) (List.replicate m 0 ++ bigB n (k - m)) ((m : Int) - 1) = some (bigB n k) := by
  intro m
  induction m with
  | zero =>
    intro K hm hK
    obtain ⟨K', rfl⟩ : ∃ K', K = K' + 1 := ⟨K - 1, by omega⟩
    unfold aukletref20_Big.l0
    rw [if_neg (by omega)]
    simp
  | succ m ih =>
    intro K hm hK
    obtain ⟨K', rfl⟩ : ∃ K', K = K' + 1 := ⟨K - 1, by omega⟩
    unfold aukletref20_Big.l0
    obtain ⟨j, hj⟩ : ∃ j, j = k - (m + 1) := ⟨_, rfl⟩
    have hj2 : k - m = j + 1 := by omega
    obtain ⟨p, hp⟩ : ∃ p : Int, p = 256 ^ j := ⟨_, rfl⟩
    have hp0 : 0 < p := by rw [hp]; exact Int.pow_pos (by decide)
    have hq0 : 0 ≤ n / p := Int.ediv_nonneg h0 (by omega)
    have hq1 : n / p ≤ n := Int.ediv_le_self _ h0
    have hd0 : 0 ≤ n / p / 256 := Int.ediv_nonneg hq0 (by decide)
    have hd1 : n / p / 256 ≤ n / p := Int.ediv_le_self _ hq0
    rw [← hj, ← hp, show ((m + 1 : Nat) : Int) - 1 = (m : Int) by omega, if_pos (by omega), if_pos (by omega), if_pos (by simp; omega), Int.toNat_natCast, set_rep, Int.tdiv_eq_ediv_of_nonneg hq0, Int.tmod_eq_emod_of_nonneg hq0, u64_in hd0 (by omega), show wrap64 ((m : Int) - 1) = (m : Int) - 1 from w64_in _ (by omega)]
    have e1 : n / p / 256 = n / 256 ^ (k - m) := by rw [hj2, Int.pow_succ, ← hp]; exact Int.ediv_ediv_of_nonneg (by omega)
    have e2 : (n / p % 256 % 256 :: bigB n j) = bigB n (k - m) := by
      rw [hj2]
      unfold bigB
      rw [← hp, Int.emod_emod_of_dvd _ (Int.dvd_refl 256)]
      cases j <;> rfl
    rw [e1, e2]
    exact ih K' (by omega) (by omega)
theorem bigr_f {n : Int} (h0 : 0 ≤ n) (h1 : n < 18446744073709551616) {k : Nat} (hk : k ≤ 8) {K : Nat} (hK : 8 < K) : aukletref20_Big.f K n (k : Int) = some (bigB n k) := by
  unfold aukletref20_Big.f
  rw [if_pos (by omega), if_pos (by omega), Int.toNat_natCast, show wrap64 ((k : Int) - 1) = (k : Int) - 1 from w64_in _ (by omega)]
  have := bigr_l0 n h0 h1 k hk k K (Nat.le_refl _) (by omega)
  rw [Nat.sub_self, Int.pow_zero, Int.ediv_one] at this
  simpa [bigB] using this
theorem bigr8 {n : Int} (h0 : 0 ≤ n) (h1 : n < 18446744073709551616) {K : Nat} (hK : 8 < K) : aukletref20_Big.f K n 8 = some (bigB n 8) := bigr_f h0 h1 (k := 8) (by decide) hK
theorem bigr4 {n : Int} (h0 : 0 ≤ n) (h1 : n < 18446744073709551616) {K : Nat} (hK : 8 < K) : aukletref20_Big.f K n 4 = some (bigB n 4) := bigr_f h0 h1 (k := 4) (by decide) hK
theorem bigr2 {n : Int} (h0 : 0 ≤ n) (h1 : n < 18446744073709551616) {K : Nat} (hK : 8 < K) : aukletref20_Big.f K n 2 = some (bigB n 2) := bigr_f h0 h1 (k := 2) (by decide) hK
theorem need_f (n : Nat) (h : n ≤ 1000000) : aukletref20_need.f (n : Int) = some (secsN n : Int) := by
  unfold aukletref20_need.f
  rw [w64_in (516 * (n : Int)) (by omega), w64_in (4 + 516 * (n : Int)) (by omega), Int.tdiv_eq_ediv_of_nonneg (by omega), Int.tmod_eq_emod_of_nonneg (by omega), w64_in ((4 + 516 * (n : Int)) / 500) (by omega), w64_in ((4 + 516 * (n : Int)) / 500 + 1) (by omega)]
  unfold secsN
  split
  · rename_i h2
    congr 1
    omega
  · rename_i h2
    congr 1
    omega
/-! ### Record -/
theorem sectB_eq {seq : Int} {l : List S58} (h : ∀ p ∈ l, p.f1.length = 512) {i : Nat} (hi : i < secsN l.length) : sectB seq (secsN l.length) i (bodyB l) = ((bigB seq 8 ++ bigB (i : Int) 2) ++ bigB (secsN l.length : Int) 2) ++ ((bodyZ l).drop (500 * i)).take 500 := by
  rw [← chunk_eq h hi]
  unfold sectB pad
  have hl : (((bodyB l).drop (500 * i)).take 500).length ≤ 500 := by rw [List.length_take]; omega
  generalize ((bodyB l).drop (500 * i)).take 500 = c at hl ⊢
  simp only [List.append_assoc, List.length_append, bigB_len]
  rw [show 512 - (8 + (2 + (2 + c.length))) = 500 - c.length by omega]
theorem bodyZ_len {l : List S58} (h : ∀ p ∈ l, p.f1.length = 512) : (bodyZ l).length = 500 * secsN l.length := by
  unfold bodyZ
  rw [List.length_append, List.length_replicate, bodyB_len h]
  unfold secsN
  omega
theorem record_l2 {seq : Int} (h0 : 0 ≤ seq) (h1 : seq < 18446744073709551616) {l : List S58} (h : ∀ p ∈ l, p.f1.length = 512) (hN : secsN l.length ≤ 64) : ∀ (m i K : Nat), i + m = secsN l.length → m + 20 < K → aukletref20_Record.l2 K seq (bodyZ l) (secsN l.length : Int) ((recS seq l).take i) (i : Int) = some (recS seq l, 0) := by
  intro m
  induction m with
  | zero =>
    intro i K hi hK
    obtain ⟨K', rfl⟩ : ∃ K', K = K' + 1 := ⟨K - 1, by omega⟩
    unfold aukletref20_Record.l2
    rw [if_neg (by omega), List.take_of_length_le (by rw [recS_len]; omega)]
  | succ m ih =>
    intro i K hi hK
    obtain ⟨K', rfl⟩ : ∃ K', K = K' + 1 := ⟨K - 1, by omega⟩
    unfold aukletref20_Record.l2
    have hz := bodyZ_len h
    have hiN : i < secsN l.length := by omega
    rw [if_pos (by omega), bigr8 h0 h1 (K := K') (by omega), Option.bind_some, u64_in (show 0 ≤ (i : Int) by omega) (by omega), bigr2 (n := (i : Int)) (by omega) (by omega) (K := K') (by omega), Option.bind_some, if_pos (by simp only [bigB_len]; decide), Option.bind_some,
      u64_in (show 0 ≤ (secsN l.length : Int) by omega) (by omega), bigr2 (n := (secsN l.length : Int)) (by omega) (by omega) (K := K') (by omega), Option.bind_some, if_pos (by simp only [List.length_append, bigB_len]; decide), Option.bind_some,
      show wrap64 (500 * (i : Int)) = ((500 * i : Nat) : Int) from (w64_in _ (by omega)).trans (by omega), show wrap64 (((500 * i : Nat) : Int) + 500) = ((500 * i + 500 : Nat) : Int) from (w64_in _ (by omega)).trans (by omega),
      if_pos (by omega), if_pos (by omega), if_pos (by omega), Option.bind_some, Int.toNat_natCast, Int.toNat_natCast, if_pos (by simp only [List.length_append, bigB_len, List.length_drop, List.length_take]; omega), if_pos (by rw [List.length_take]; omega), show wrap64 ((i : Int) + 1) = ((i + 1 : Nat) : Int) from (w64_in _ (by omega)).trans (by omega)]
    have e1 : ((bodyZ l).take (500 * i + 500)).drop (500 * i) = ((bodyZ l).drop (500 * i)).take 500 := by rw [List.drop_take]; congr 1; omega
    have e2 : (recS seq l).take i ++ [((bigB seq 8 ++ bigB (i : Int) 2) ++ bigB (secsN l.length : Int) 2) ++ ((bodyZ l).take (500 * i + 500)).drop (500 * i)] = (recS seq l).take (i + 1) := by
      rw [e1, ← sectB_eq h hiN]
      have hlt : i < (recS seq l).length := by rw [recS_len]; exact hiN
      rw [← List.take_append_getElem hlt]
      have h3 := recS_at seq l [] hiN
      rw [List.append_nil, List.getD_eq_getElem?_getD, List.getElem?_eq_getElem hlt, Option.getD_some] at h3
      rw [h3]
    rw [e2]
    exact ih (i + 1) K' (by omega) (by omega)
theorem record_l1 {seq : Int} (h0 : 0 ≤ seq) (h1 : seq < 18446744073709551616) {l : List S58} (h : ∀ p ∈ l, 0 ≤ p.f0 ∧ p.f0 ≤ 2147483647 ∧ p.f1.length = 512) (hl : l.length ≤ 64) (hN : secsN l.length ≤ 64) : ∀ (m j K : Nat), j + m = l.length → m + 100 < K → aukletref20_Record.l1 K seq l (bodyTo l.length j l) (j : Int) = some (recS seq l, 0) := by
  have h5 : ∀ p ∈ l, p.f1.length = 512 := fun p hp => (h p hp).2.2
  intro m
  induction m with
  | zero =>
    intro j K hj hK
    obtain ⟨K', rfl⟩ : ∃ K', K = K' + 1 := ⟨K - 1, by omega⟩
    unfold aukletref20_Record.l1
    obtain rfl : j = l.length := by omega
    have hbl := bodyB_len h5
    have hb : bodyTo l.length l.length l = bodyB l := rfl
    have hsub : (500 * (secsN l.length : Int)) - ((bodyB l).length : Int) = ((500 * secsN l.length - (bodyB l).length : Nat) : Int) := by
      rw [hbl]; unfold secsN; omega
    rw [if_neg (by omega), need_f _ (by omega), Option.bind_some, hb, w64_in (500 * (secsN l.length : Int)) (by omega), hsub, w64_nat _ (by omega), if_pos (by omega), Int.toNat_natCast, if_pos (by omega)]
    have := record_l2 h0 h1 h5 hN (secsN l.length) 0 K' (by omega) (by omega)
    rw [List.take_zero] at this
    exact this
  | succ m ih =>
    intro j K hj hK
    obtain ⟨K', rfl⟩ : ∃ K', K = K' + 1 := ⟨K - 1, by omega⟩
    unfold aukletref20_Record.l1
    have hjl : j < l.length := by omega
    have hmem : l.getD j z58 ∈ l := by rw [List.getD_eq_getElem?_getD, List.getElem?_eq_getElem hjl]; exact List.getElem_mem _
    have hp := h _ hmem
    have hrd : rd_T58 l (j : Int) = l.getD j z58 := by unfold rd_T58; rw [Int.toNat_natCast]
    have hbt := bodyTo_len (n := l.length) h5 (k := j) (by omega)
    have hsu := bodyTo_succ (n := l.length) hjl
    rw [if_pos (by omega), if_pos (by omega), hrd, u64_in hp.1 (by omega), bigr4 hp.1 (by omega) (K := K') (by omega), Option.bind_some, if_pos (by rw [bigB_len]; omega), Option.bind_some, if_pos (by rw [List.length_append, bigB_len, hp.2.2]; omega), ← hsu, show wrap64 ((j : Int) + 1) = ((j + 1 : Nat) : Int) from (w64_in _ (by omega)).trans (by omega)]
    exact ih (j + 1) K' (by omega) (by omega)
theorem bodyTo_zero (n : Nat) (l : List S58) : bodyTo n 0 l = bigB n 4 := by unfold bodyTo; simp
theorem rj1 (K : Nat) (seq : Int) (l : List S58) (b : Bool) : aukletref20_Record.j1 (K + 1) seq l b = if b = true then (some (([] : List (List Int)), 210)) else ((aukletref20_Big.f K (IntKind.u64.wrap ((l.length : Int))) 4).bind fun t112 => (aukletref20_Record.l1 K seq l t112 0)) := by rw [aukletref20_Record.j1]
theorem record_l0 {seq : Int} (h0 : 0 ≤ seq) (h1 : seq < 18446744073709551616) {l : List S58} (hl : l.length ≤ 100) : ∀ (m i K : Nat), i + m = l.length → m + 300 < K → (∀ j, j < i → badB (l.getD j z58).f0 (l.getD j z58).f1.length = false) → aukletref20_Record.l0 K seq l (i : Int) = some (recR seq l, recE seq l) := by
  intro m
  induction m with
  | zero =>
    intro i K hi hK hg
    obtain ⟨K', rfl⟩ : ∃ K', K = K' + 1 := ⟨K - 1, by omega⟩
    unfold aukletref20_Record.l0
    rw [if_neg (by omega)]
    by_cases hs : seq = 0
    · have he : recE seq l = 1 := by unfold recE; rw [if_pos hs]
      rw [if_pos hs]
      unfold recR
      rw [he, if_neg (by decide)]
    have hany : l.any (fun p => badB p.f0 p.f1.length) = false := by
      rw [List.any_eq_false]
      intro p hp
      obtain ⟨j, hj, rfl⟩ := List.getElem_of_mem hp
      have := hg j (by omega)
      rw [List.getD_eq_getElem?_getD, List.getElem?_eq_getElem hj, Option.getD_some] at this
      rw [this]
      decide
    have hgood := good_all hany
    rw [if_neg hs]
    by_cases h64 : 64 < l.length
    · have he : recE seq l = 210 := by unfold recE; rw [if_neg hs, hany, if_neg (by decide), if_pos h64]
      rw [if_pos (by omega)]
      obtain ⟨K2, rfl⟩ : ∃ K2, K' = K2 + 1 := ⟨K' - 1, by omega⟩
      rw [rj1, if_pos rfl]
      unfold recR
      rw [he, if_neg (by decide)]
    rw [if_neg (by omega), need_f _ (by omega), Option.bind_some]
    obtain ⟨K2, rfl⟩ : ∃ K2, K' = K2 + 1 := ⟨K' - 1, by omega⟩
    rw [rj1]
    by_cases hn : 64 < secsN l.length
    · have he : recE seq l = 210 := by unfold recE; rw [if_neg hs, hany, if_neg (by decide), if_neg h64, if_pos hn]
      rw [if_pos (decide_eq_true (by omega))]
      unfold recR
      rw [he, if_neg (by decide)]
    · have he : recE seq l = 0 := by unfold recE; rw [if_neg hs, hany, if_neg (by decide), if_neg h64, if_neg hn]
      rw [decide_eq_false (by omega), if_neg (by decide), u64_in (by omega) (by omega), bigr4 (n := (l.length : Int)) (by omega) (by omega) (K := K2) (by omega), Option.bind_some, ← bodyTo_zero l.length l]
      unfold recR
      rw [he, if_pos rfl]
      exact record_l1 h0 h1 hgood (by omega) (by omega) l.length 0 K2 (by omega) (by omega)
  | succ m ih =>
    intro i K hi hK hg
    obtain ⟨K', rfl⟩ : ∃ K', K = K' + 1 := ⟨K - 1, by omega⟩
    unfold aukletref20_Record.l0
    have hil : i < l.length := by omega
    have hmem : l.getD i z58 ∈ l := by rw [List.getD_eq_getElem?_getD, List.getElem?_eq_getElem hil]; exact List.getElem_mem _
    have hrd : rd_T58 l (i : Int) = l.getD i z58 := by unfold rd_T58; rw [Int.toNat_natCast]
    have hbad : badB (l.getD i z58).f0 (l.getD i z58).f1.length = true → (recR seq l, recE seq l) = (([] : List (List Int)), (1 : Int)) := by
      intro hb
      have he : recE seq l = 1 := by
        unfold recE
        split
        · rfl
        · rw [if_pos (List.any_eq_true.2 ⟨_, hmem, hb⟩)]
      unfold recR
      rw [he, if_neg (by decide)]
    rw [if_pos (by omega), if_pos (by omega), hrd]
    generalize hq : l.getD i z58 = q at *
    by_cases c1 : q.f0 < 0
    · rw [if_pos c1, hbad (by unfold badB; simp [c1])]
    by_cases c2 : q.f0 > 2147483647
    · rw [if_neg c1, if_pos c2, hbad (by unfold badB; simp; omega)]
    by_cases c3 : q.f1.length = 512
    · rw [if_neg c1, if_neg c2, if_pos (by omega), show wrap64 ((i : Int) + 1) = ((i + 1 : Nat) : Int) from (w64_in _ (by omega)).trans (by omega)]
      refine ih (i + 1) K' (by omega) (by omega) (fun j hj => ?_)
      by_cases e : j = i
      · rw [e, hq]
        unfold badB
        simp [c3]
        omega
      · exact hg j (by omega)
    · rw [if_neg c1, if_neg c2, if_neg (by omega), hbad (by unfold badB; simp [c3])]
theorem record_f {seq : Int} (h0 : 0 ≤ seq) (h1 : seq < 18446744073709551616) {l : List S58} (hl : l.length ≤ 100) : aukletref20_Record.f 1000 seq l = some (recR seq l, recE seq l) :=
  record_l0 h0 h1 hl l.length 0 1000 (by omega) (by omega) (fun j hj => absurd hj (Nat.not_lt_zero _))
end Go.Proofs.Ytmghgghheebnjaa.Dis
namespace Go.Proofs.Ytmghgghheebnjaa.Dis
open Go.RowKit Go.Proofs.YtmghgghheebnjaaW.PrintWords Go.Proofs.YtmghgghheebnjaaW.PrintLast Go.Proofs.YtmghgghheebnjaaW.PrintMore Go.Maps Go.Proofs.Ytmghgghheebnjaa.PWalRecords
set_option linter.unusedVariables false
set_option linter.unusedSimpArgs false
theorem cell_ons {w w1 : World} {p : Addr} {v : Value} (h : w.cell? p = some v) (hb : Below w.heap.size w w1) : w1.cell? p = some v := (hb.cell (World.block_lt_of_cell? w p h)).trans h
theorem numr_c {w : World} {A : Option Addr} {n c : Nat} {l : List Int} (hn : n = l.length) (h8 : l.length ≤ 8) (hb : BytesOk l) (h : Kd.C (Kd.int .u8) w A n l) (hc : n ≤ c) :
    Calls Try.prog 41 #[.slice A n c] w fun e w' => e = .returned (.int .u64 (numB l)) ∧ Below w.heap.size w w' := by
  subst hn
  refine (aukletref20_Num.calls 20 A c l _ w h hc (num_f h8 hb (by decide))).mono ?_
  rintro e w' ⟨h1, h2⟩
  exact ⟨h1, h2.below⟩
theorem need_c {w : World} (n : Nat) (h : n ≤ 1000000) : Calls Try.prog 38 #[.int .i64 (n : Int)] w fun e w' => e = .returned (.int .i64 (secsN n : Nat)) ∧ Below w.heap.size w w' := by
  refine (aukletref20_need.calls (n : Int) _ w (need_f n h)).mono ?_
  rintro e w' ⟨h1, h2⟩
  exact ⟨h1, h2.below⟩
/-- An empty row of one's own. -/
theorem R_empty (W : World) (base : Nat) (hb : base ≤ W.heap.size) : Kd.R byteK 5 (W.alloc (.cells #[] 5)) base tt (.slice (some ⟨W.heap.size, 0, none⟩) 0 0) [] := by
  refine ⟨fun k hk => trivial, [], ?_, Reps.none _ _⟩
  have h2 := World.ownsRow_lit (base := base) (e := 5) (size := 1) W #[] 0 hb (by decide) rfl
  have h3 : (W.alloc (.cells #[] 5)).ownsRow base 5 1 (.slice (some ⟨W.heap.size, 0, none⟩) 0 0) 0 [] := by simpa using h2
  exact h3
attribute [local go_sem] max2_int min2_int max_two min_two max_three min_three max_four min_four
set_option maxHeartbeats 32000000 in
set_option maxRecDepth 100000 in
theorem scan_ref (W : World) (A : Option Addr) (n c : Nat) (l : List (List Int)) (hC : rowK.C W A n l) (hcap : n ≤ c) (hn : n ≤ 1000000) (hb : ∀ s ∈ l, BytesOk s) :
    Calls Try.prog 12 #[.slice A n c] W fun e w' => ∃ (sq : Int) (out : List S58) (ok : Bool) (v : Value), e = .returned (.tuple #[.int .u64 sq, v, .bool ok]) ∧ ScanR l sq out ok ∧ Kd.R k58 58 w' W.heap.size tt v out ∧ Below W.heap.size W w' := by
  have HC := Aside0.mk hC
  have HL := Aside0.mk hC.1
  have HBO := Aside0.mk hb
  clear hC hb
  have NO := Aside0.mk (fun (w : World) (hB : Below W.heap.size W w) (h : ∀ n m, ¬ ScanOk l n m) => (⟨0, [], false, .slice none 0 0, rfl, .inr ⟨rfl, rfl, rfl, h⟩, Kd.R_nil _ _ _ _ _, hB⟩ : ∃ (sq : Int) (out : List S58) (ok : Bool) (v : Value), (Ending.returned (.tuple #[.int .u64 0, .slice none 0 0, .bool false]) : Ending) = .returned (.tuple #[.int .u64 sq, v, .bool ok]) ∧ ScanR l sq out ok ∧ Kd.R k58 58 w W.heap.size tt v out ∧ Below W.heap.size W w))
  by_cases h0 : n = 0
  · subst h0
    go_enter Try.func12, Try.ntmps12
    go_wp2
    refine bodyPost_ret (results_list (rs := [.tmp 2, .tmp 3, .tmp 4]) rfl (by simp) (.tmp (.tmp (.tmp .nil)))) rfl ?_
    exact NO.out W (Below.refl _ _) (fun n m h => by have h1 := h.ne; rw [HL.out] at h1; omega)
  have f0 : ((n : Int) == 0) = false := by simp; omega
  obtain ⟨ad, B0, c0, hA, cel0, hle0, hC0⟩ := row_b HC.out 0 (by omega)
  subst hA
  rw [show ad.add 0 = ad from by simp [Addr.add]] at cel0
  obtain ⟨s0, hs0⟩ : ∃ s0, s0 = l.getD 0 [] := ⟨_, rfl⟩
  rw [← hs0] at cel0 hle0 hC0
  obtain ⟨n0, hn0⟩ : ∃ n0, n0 = s0.length := ⟨_, rfl⟩
  rw [← hn0] at cel0 hle0 hC0
  have HS0 := Aside0.mk hs0
  have HN0 := Aside0.mk hn0
  have HC0 := Aside0.mk hC0
  have HCE := Aside0.mk cel0
  clear hs0 hn0 hC0
  by_cases h5 : n0 = 512
  case neg =>
    have f1 : ((n0 : Int) != 512) = true := by simp; omega
    go_enter Try.func12, Try.ntmps12
    go_wp2
    refine bodyPost_ret (results_list (rs := [.tmp 2, .tmp 3, .tmp 4]) rfl (by simp) (.tmp (.tmp (.tmp .nil)))) rfl ?_
    exact NO.out W (Below.refl _ _) (fun n m h => h5 (by rw [HN0.out, HS0.out]; exact h.l0))
  subst h5
  obtain ⟨bd, hA, _⟩ := HC0.out.2.2 (by decide)
  subst hA
  have hok0 : BytesOk s0 := by rw [HS0.out]; exact getD_ok HBO.out 0
  have HBS := Aside0.mk hok0
  have N1 := Aside0.mk (fun (w' : World) (hB : Below W.heap.size W w') => numr_c (n := 8) (c := c0) (l := s0.take 8) (by rw [List.length_take, ← HN0.out]; rfl) (by rw [List.length_take]; omega) (hok0.take 8) (takeC (Kd.C_below HC0.out hB) (by decide)) (by omega))
  have N2 := Aside0.mk (fun (w' : World) (hB : Below W.heap.size W w') => numr_c (n := 2) (c := c0 - 10) (A := some (bd.add 10)) (l := (s0.take 12).drop 10) (by rw [List.length_drop, List.length_take, ← HN0.out]; rfl) (by rw [List.length_drop, List.length_take]; omega) ((hok0.take 12).drop 10) (dropC (n := 12) (m := 10) (c := c0) (takeC (Kd.C_below HC0.out hB) (by decide)) (by decide) (by omega) rfl (by rw [if_neg (by omega)]; rfl)) (by omega))
  have e1 : numB (s0.take 8) = seqS l := by rw [HS0.out]; rfl
  have e2 : numB ((s0.take 12).drop 10) = cntS l := by rw [HS0.out]; rfl
  have b1 := numB_bound (hok0.take 8)
  have b2 := numB_bound ((hok0.take 12).drop 10)
  rw [List.length_take, ← HN0.out] at b1
  rw [List.length_drop, List.length_take, ← HN0.out] at b2
  rw [e1] at N1 b1
  rw [e2] at N2 b2
  obtain ⟨sq, hsq⟩ : ∃ sq, sq = seqS l := ⟨_, rfl⟩
  obtain ⟨N, hN⟩ : ∃ N : Nat, N = (cntS l).toNat := ⟨_, rfl⟩
  have hN' : cntS l = (N : Int) := by omega
  have hNb : N < 65536 := by have := b2.2; rw [hN'] at this; have h : (256 : Int) ^ (min 12 512 - 10) = 65536 := by decide
                             omega
  have hsb : 0 ≤ sq ∧ sq < 18446744073709551616 := by have := b1; rw [← hsq] at this; have h : (256 : Int) ^ (min 8 512) = 18446744073709551616 := by decide
                                                      omega
  rw [← hsq] at N1
  rw [hN'] at N2
  have HSQ := Aside0.mk hsq
  have HNN := Aside0.mk hN'
  clear e1 e2 b1 b2 hsq hN hN' hok0
  have q10 : ¬ c0 = 10 := by omega
  have iN : IntKind.i64.wrap (N : Int) = (N : Int) := by rw [IntKind.wrap_i64]; omega
  have ct10 : ∀ w', Below W.heap.size W w' → w'.cell? ad = some (.slice (some bd) 512 c0) := fun w' hB => (hB.cell (World.block_lt_of_cell? W _ HCE.out)).trans HCE.out
  have HCT := Aside0.mk ct10
  clear ct10
  go_enter Try.func12, Try.ntmps12
  go_upto_region 3 with fail
  have hdr : Below W.heap.size W W.drew := below_drew (Below.refl _ _)
  refine start_ (n := 15) (S := fun w' => Below W.heap.size W w') (ds := []) #[false, false, false, false, false, false, false, false, false, false, false, false, false, false, false] (by kernel_rfl) rfl rfl hdr (fun hHeld => ?_)
  generalize W.drew = wD at hdr hHeld ⊢
  refine pure_ (i := 0) (N := some 24) (v := ?_) (a' := ?_) #[true, false, false, false, false, false, false, false, false, false, false, false, false, false, false] rfl rfl (by kernel_rfl) (fun _ _ _ h => h) (Or.inl ⟨by rfl, ?_⟩) ?_ ?_
  rotate_left
  · intro w'
    go_simp
    with_reducible rfl
  rotate_left
  · simp only [Act.put, List.setIfInBounds_toArray, List.set_cons_zero, List.set_cons_succ]
    rfl
  refine pure_ (i := 1) (N := some 25) (v := .pointer (some ad)) (a' := ?_) #[true, true, false, false, false, false, false, false, false, false, false, false, false, false, false] rfl rfl (by kernel_rfl) (fun _ _ _ h => h) (Or.inl ⟨by rfl, ?_⟩) ?_ ?_
  · intro w'
    first | (go_simp; done) | (go_simp; rw [if_pos (show 0 < n by omega)])
  rotate_left
  · simp only [Act.put, List.setIfInBounds_toArray, List.set_cons_zero, List.set_cons_succ]
    rfl
  refine take_ (i := 2) (N := some 26) (v := ?_) (a' := ?_) #[true, true, true, false, false, false, false, false, false, false, false, false, false, false, false] rfl rfl (by kernel_rfl) (fun _ _ _ h => h) (Or.inl ⟨by rfl, ?_⟩) hHeld ?_ ?_
  rotate_left
  · intro w' s0
    have s1 := HCT.out w' s0
    go_simp
    with_reducible rfl
  rotate_left
  · simp only [Act.put, List.setIfInBounds_toArray, List.set_cons_zero, List.set_cons_succ]
    rfl
  refine pure_ (i := 3) (N := some 27) (v := .slice (some bd) 8 c0) (a' := ?_) #[true, true, true, true, false, false, false, false, false, false, false, false, false, false, false] rfl rfl (by kernel_rfl) (fun _ _ _ h => h) (Or.inl ⟨by rfl, ?_⟩) ?_ ?_
  · intro w'
    exact ex_hi (x := .tmp 26) (y := .const (.int .i64 8)) (m := 8) und56 size5' rfl rfl rfl (by omega)
  rotate_left
  · simp only [Act.put, List.setIfInBounds_toArray, List.set_cons_zero, List.set_cons_succ]
    rfl
  refine pure_ (i := 5) (N := some 29) (v := ?_) (a' := ?_) #[true, true, true, true, false, true, false, false, false, false, false, false, false, false, false] rfl rfl (by kernel_rfl) (fun _ _ _ h => h) (Or.inl ⟨by rfl, ?_⟩) ?_ ?_
  rotate_left
  · intro w'
    go_simp
    with_reducible rfl
  rotate_left
  · simp only [Act.put, List.setIfInBounds_toArray, List.set_cons_zero, List.set_cons_succ]
    rfl
  refine pure_ (i := 6) (N := some 30) (v := .pointer (some ad)) (a' := ?_) #[true, true, true, true, false, true, true, false, false, false, false, false, false, false, false] rfl rfl (by kernel_rfl) (fun _ _ _ h => h) (Or.inl ⟨by rfl, ?_⟩) ?_ ?_
  · intro w'
    first | (go_simp; done) | (go_simp; rw [if_pos (show 0 < n by omega)])
  rotate_left
  · simp only [Act.put, List.setIfInBounds_toArray, List.set_cons_zero, List.set_cons_succ]
    rfl
  refine take_ (i := 7) (N := some 31) (v := ?_) (a' := ?_) #[true, true, true, true, false, true, true, true, false, false, false, false, false, false, false] rfl rfl (by kernel_rfl) (fun _ _ _ h => h) (Or.inl ⟨by rfl, ?_⟩) hHeld ?_ ?_
  rotate_left
  · intro w' s0
    have s1 := HCT.out w' s0
    go_simp
    with_reducible rfl
  rotate_left
  · simp only [Act.put, List.setIfInBounds_toArray, List.set_cons_zero, List.set_cons_succ]
    rfl
  refine pure_ (i := 8) (N := some 32) (v := .slice (some (bd.add 10)) 2 (c0 - 10)) (a' := ?_) #[true, true, true, true, false, true, true, true, true, false, false, false, false, false, false] rfl rfl (by kernel_rfl) (fun _ _ _ h => h) (Or.inl ⟨by rfl, ?_⟩) ?_ ?_
  · intro w'
    exact ex_mid (x := .tmp 31) (y := .const (.int .i64 10)) (z := .const (.int .i64 12)) (m := 10) (h := 12) und56 size5' rfl rfl rfl rfl (by decide) (by omega) (by rw [if_neg (by omega)]; rfl)
  rotate_left
  · simp only [Act.put, List.setIfInBounds_toArray, List.set_cons_zero, List.set_cons_succ]
    rfl
  refine lattice3 (l0 := #[true, true, true, true, false, true, true, true, true, false, false, false, false, false, false]) [4, 9, 10, 11, 12, 13] [[false, false, false, false, false, false], [true, false, false, false, false, false], [true, true, false, false, false, false], [true, true, true, false, false, false], [false, false, false, true, false, false], [true, false, false, true, false, false], [true, true, false, true, false, false], [true, true, true, true, false, false], [true, true, false, false, true, false], [true, true, true, false, true, false], [true, true, false, true, true, false], [true, true, true, true, true, false], [true, true, true, false, true, true], [true, true, true, true, true, true]] [28, 33, 34, 35, 5, 6] (by kernel_rfl) (by kernel_rfl) (by decide) (by kernel_rfl) (by kernel_rfl) (by kernel_rfl) (fun d xs w' => ∃ x0 x1 x2 x3 x4 x5, xs = [x0, x1, x2, x3, x4, x5] ∧ (d.getD 0 false = true → x0 = .int .u64 sq) ∧ (d.getD 1 false = true → x1 = .int .u64 (N : Int)) ∧ (d.getD 2 false = true → x2 = .int .i64 (N : Int)) ∧ (d.getD 3 false = true → ∃ Ae, x3 = .slice Ae 0 0 ∧ Kd.R byteK 5 w' W.heap.size tt (.slice Ae 0 0) []) ∧ (d.getD 4 false = true → x4 = .int .u64 sq) ∧ (d.getD 5 false = true → x5 = .int .i64 (N : Int))) 1 rfl (by kernel_rfl) hHeld ?hF ?hstep ?hfin
  case hF =>
    intro xs hx
    match xs, hx with
    | [x0, x1, x2, x3, x4, x5], _ => exact ⟨x0, x1, x2, x3, x4, x5, rfl, fun h => absurd h (by decide), fun h => absurd h (by decide), fun h => absurd h (by decide), fun h => absurd h (by decide), fun h => absurd h (by decide), fun h => absurd h (by decide)⟩
  case hstep =>
    intro j hj
    have hj : j < 6 := hj
    rcases (by omega : j = 0 ∨ j = 1 ∨ j = 2 ∨ j = 3 ∨ j = 4 ∨ j = 5) with rfl | rfl | rfl | rfl | rfl | rfl
    · intro d hd hjn hn xs wl hx hSl ⟨x0, x1, x2, x3, x4, x5, hxs, fn, fm, fp, fr, fs, ft⟩ a' ha o ho K hK
      subst hxs
      obtain rfl := Option.some.inj (ho.symm.trans (rfl : _ = some _))
      simp only [putVs, Act.put, List.setIfInBounds_toArray, List.set_cons_zero, List.set_cons_succ] at ha
      subst ha
      refine goes_ Try.func41 (by kernel_rfl) rfl #[.slice (some bd) 8 c0] (by rfl) rfl rfl (by (try simp only [List.map_toArray, List.map_cons, List.map_nil]); first | done | rfl) ?_
      refine (N1.out wl hSl).mono ?_
      rintro e w1 ⟨rfl, hb1⟩
      refine ⟨_, rfl, ?_⟩
      exact hK.out _ w1 (hSl.trans (hb1.mono hSl.size)) ⟨_, _, _, _, _, _, rfl, fun h0 => rfl, fun h1 => absurd ((on_ne d 0 1 (by decide)).symm.trans h1) (fun h2 => bit_abs (before_of (j := 0) (k := 1) (by kernel_rfl) hd hjn hn) h2), fun h2 => absurd ((on_ne d 0 2 (by decide)).symm.trans h2) (fun h2 => bit_abs (before_of (j := 0) (k := 2) (by kernel_rfl) hd hjn hn) h2), fun h3 => (by obtain ⟨Ae, e6, h6⟩ := (fr ((on_ne d 0 3 (by decide)).symm.trans h3)); exact ⟨Ae, e6, Kd.R_below h6 hb1⟩), fun h4 => absurd ((on_ne d 0 4 (by decide)).symm.trans h4) (fun h2 => bit_abs (before_of (j := 0) (k := 4) (by kernel_rfl) hd hjn hn) h2), fun h5 => absurd ((on_ne d 0 5 (by decide)).symm.trans h5) (fun h2 => bit_abs (before_of (j := 0) (k := 5) (by kernel_rfl) hd hjn hn) h2)⟩
    · intro d hd hjn hn xs wl hx hSl ⟨x0, x1, x2, x3, x4, x5, hxs, fn, fm, fp, fr, fs, ft⟩ a' ha o ho K hK
      subst hxs
      obtain rfl := Option.some.inj (ho.symm.trans (rfl : _ = some _))
      simp only [putVs, Act.put, List.setIfInBounds_toArray, List.set_cons_zero, List.set_cons_succ] at ha
      subst ha
      have gn := fn (after_of (j := 1) (k := 0) (by kernel_rfl) hd hjn hn)
      refine goes_ Try.func41 (by kernel_rfl) rfl #[.slice (some (bd.add 10)) 2 (c0 - 10)] (by rfl) rfl rfl (by (try simp only [List.map_toArray, List.map_cons, List.map_nil]); first | done | rfl) ?_
      refine (N2.out wl hSl).mono ?_
      rintro e w1 ⟨rfl, hb1⟩
      refine ⟨_, rfl, ?_⟩
      exact hK.out _ w1 (hSl.trans (hb1.mono hSl.size)) ⟨_, _, _, _, _, _, rfl, fun h0 => (fn (after_of (j := 1) (k := 0) (by kernel_rfl) hd hjn hn)), fun h1 => rfl, fun h2 => absurd ((on_ne d 1 2 (by decide)).symm.trans h2) (fun h2 => bit_abs (before_of (j := 1) (k := 2) (by kernel_rfl) hd hjn hn) h2), fun h3 => (by obtain ⟨Ae, e6, h6⟩ := (fr ((on_ne d 1 3 (by decide)).symm.trans h3)); exact ⟨Ae, e6, Kd.R_below h6 hb1⟩), fun h4 => absurd ((on_ne d 1 4 (by decide)).symm.trans h4) (fun h2 => bit_abs (before_of (j := 1) (k := 4) (by kernel_rfl) hd hjn hn) h2), fun h5 => absurd ((on_ne d 1 5 (by decide)).symm.trans h5) (fun h2 => bit_abs (before_of (j := 1) (k := 5) (by kernel_rfl) hd hjn hn) h2)⟩
    · intro d hd hjn hn xs wl hx hSl ⟨x0, x1, x2, x3, x4, x5, hxs, fn, fm, fp, fr, fs, ft⟩ a' ha o ho K hK
      subst hxs
      obtain rfl := Option.some.inj (ho.symm.trans (rfl : _ = some _))
      simp only [putVs, Act.put, List.setIfInBounds_toArray, List.set_cons_zero, List.set_cons_succ] at ha
      subst ha
      have gn := fn (after_of (j := 2) (k := 0) (by kernel_rfl) hd hjn hn)
      have gm := fm (after_of (j := 2) (k := 1) (by kernel_rfl) hd hjn hn)
      subst gm
      have hb1 : Below wl.heap.size wl wl := Below.refl _ _
      refine value_ (by rfl) rfl (v := .int .i64 (N : Int)) (w1 := wl) (by first | (go_simp; done) | (go_simp; rw [iN]; done) | (go_simp; rfl)) ?_
      exact hK.out _ wl hSl ⟨_, _, _, _, _, _, rfl, fun h0 => (fn (after_of (j := 2) (k := 0) (by kernel_rfl) hd hjn hn)), fun h1 => (fm (after_of (j := 2) (k := 1) (by kernel_rfl) hd hjn hn)), fun h2 => rfl, fun h3 => (by obtain ⟨Ae, e6, h6⟩ := (fr ((on_ne d 2 3 (by decide)).symm.trans h3)); exact ⟨Ae, e6, Kd.R_below h6 hb1⟩), fun h4 => (fs ((on_ne d 2 4 (by decide)).symm.trans h4)), fun h5 => absurd ((on_ne d 2 5 (by decide)).symm.trans h5) (fun h2 => bit_abs (before_of (j := 2) (k := 5) (by kernel_rfl) hd hjn hn) h2)⟩
    · intro d hd hjn hn xs wl hx hSl ⟨x0, x1, x2, x3, x4, x5, hxs, fn, fm, fp, fr, fs, ft⟩ a' ha o ho K hK
      subst hxs
      obtain rfl := Option.some.inj (ho.symm.trans (rfl : _ = some _))
      simp only [putVs, Act.put, List.setIfInBounds_toArray, List.set_cons_zero, List.set_cons_succ] at ha
      subst ha
      have hb1 : Below wl.heap.size wl (wl.alloc (.cells #[] 5)) := below_alloc (Below.refl _ _) _
      refine value_ (by rfl) rfl (v := .slice (some ⟨wl.heap.size, 0, none⟩) 0 0) (w1 := wl.alloc (.cells #[] 5)) (by first | (go_simp; done) | (go_simp; rfl)) ?_
      exact hK.out _ _ (hSl.trans (hb1.mono hSl.size)) ⟨_, _, _, _, _, _, rfl, fun h0 => (fn ((on_ne d 3 0 (by decide)).symm.trans h0)), fun h1 => (fm ((on_ne d 3 1 (by decide)).symm.trans h1)), fun h2 => (fp ((on_ne d 3 2 (by decide)).symm.trans h2)), fun h3 => ⟨_, rfl, R_empty wl _ hSl.size⟩, fun h4 => (fs ((on_ne d 3 4 (by decide)).symm.trans h4)), fun h5 => (ft ((on_ne d 3 5 (by decide)).symm.trans h5))⟩
    · intro d hd hjn hn xs wl hx hSl ⟨x0, x1, x2, x3, x4, x5, hxs, fn, fm, fp, fr, fs, ft⟩ a' ha o ho K hK
      subst hxs
      obtain rfl := Option.some.inj (ho.symm.trans (rfl : _ = some _))
      simp only [putVs, Act.put, List.setIfInBounds_toArray, List.set_cons_zero, List.set_cons_succ] at ha
      subst ha
      have gn := fn (after_of (j := 4) (k := 0) (by kernel_rfl) hd hjn hn)
      have gm := fm (after_of (j := 4) (k := 1) (by kernel_rfl) hd hjn hn)
      subst gn
      have hb1 : Below wl.heap.size wl wl := Below.refl _ _
      refine value_ (by rfl) rfl (v := .int .u64 sq) (w1 := wl) (by first | (go_simp; done) | (go_simp; rw [iN]; done) | (go_simp; rfl)) ?_
      exact hK.out _ wl hSl ⟨_, _, _, _, _, _, rfl, fun h0 => (fn (after_of (j := 4) (k := 0) (by kernel_rfl) hd hjn hn)), fun h1 => (fm (after_of (j := 4) (k := 1) (by kernel_rfl) hd hjn hn)), fun h2 => (fp ((on_ne d 4 2 (by decide)).symm.trans h2)), fun h3 => (by obtain ⟨Ae, e6, h6⟩ := (fr ((on_ne d 4 3 (by decide)).symm.trans h3)); exact ⟨Ae, e6, Kd.R_below h6 hb1⟩), fun h4 => rfl, fun h5 => absurd ((on_ne d 4 5 (by decide)).symm.trans h5) (fun h2 => bit_abs (before_of (j := 4) (k := 5) (by kernel_rfl) hd hjn hn) h2)⟩
    · intro d hd hjn hn xs wl hx hSl ⟨x0, x1, x2, x3, x4, x5, hxs, fn, fm, fp, fr, fs, ft⟩ a' ha o ho K hK
      subst hxs
      obtain rfl := Option.some.inj (ho.symm.trans (rfl : _ = some _))
      simp only [putVs, Act.put, List.setIfInBounds_toArray, List.set_cons_zero, List.set_cons_succ] at ha
      subst ha
      have gn := fn (after_of (j := 5) (k := 0) (by kernel_rfl) hd hjn hn)
      have gm := fm (after_of (j := 5) (k := 1) (by kernel_rfl) hd hjn hn)
      have gp := fp (after_of (j := 5) (k := 2) (by kernel_rfl) hd hjn hn)
      have gs := fs (after_of (j := 5) (k := 4) (by kernel_rfl) hd hjn hn)
      subst gp
      have hb1 : Below wl.heap.size wl wl := Below.refl _ _
      refine value_ (by rfl) rfl (v := .int .i64 (N : Int)) (w1 := wl) (by first | (go_simp; done) | (go_simp; rw [iN]; done) | (go_simp; rfl)) ?_
      exact hK.out _ wl hSl ⟨_, _, _, _, _, _, rfl, fun h0 => (fn (after_of (j := 5) (k := 0) (by kernel_rfl) hd hjn hn)), fun h1 => (fm (after_of (j := 5) (k := 1) (by kernel_rfl) hd hjn hn)), fun h2 => (fp (after_of (j := 5) (k := 2) (by kernel_rfl) hd hjn hn)), fun h3 => (by obtain ⟨Ae, e6, h6⟩ := (fr ((on_ne d 5 3 (by decide)).symm.trans h3)); exact ⟨Ae, e6, Kd.R_below h6 hb1⟩), fun h4 => (fs (after_of (j := 5) (k := 4) (by kernel_rfl) hd hjn hn)), fun h5 => rfl⟩
  case hfin =>
    intro xs wl hx hSl ⟨x0, x1, x2, x3, x4, x5, hxs, fn, fm, fp, fr, fs, ft⟩ a' ha
    subst hxs
    simp only [putVs, Act.put, List.setIfInBounds_toArray, List.set_cons_zero, List.set_cons_succ] at ha
    subst ha
    have gn := fn (by decide)
    have gm := fm (by decide)
    have gp := fp (by decide)
    have gr := fr (by decide)
    have gs := fs (by decide)
    have gt := ft (by decide)
    clear fn fm fp fr fs ft
    subst gn
    subst gm
    subst gp
    subst gs
    subst gt
    obtain ⟨Ae, rfl, hre⟩ := gr
    have hHeld := hSl
    have HRE := Aside0.mk hre
    clear hre
    refine pure_ (i := 14) (N := some 7) (v := ?_) (a' := ?_) #[true, true, true, true, true, true, true, true, true, true, true, true, true, true, true] rfl rfl (by kernel_rfl) (fun _ _ _ h => h) (Or.inl ⟨by rfl, ?_⟩) ?_ ?_
    rotate_left
    · intro w'
      go_simp
      with_reducible rfl
    rotate_left
    · simp only [Act.put, List.setIfInBounds_toArray, List.set_cons_zero, List.set_cons_succ]
      rfl
    refine done_ (by kernel_rfl) ?_
    have HBW := Aside0.mk hSl
    clear hSl hHeld hdr
    by_cases hq0 : sq = 0
    · have f1 : (sq == 0) = true := by simp [hq0]
      go_wp2
      refine bodyPost_ret (results_list (rs := [.tmp 2, .tmp 3, .tmp 4]) rfl (by simp) (.tmp (.tmp (.tmp .nil)))) rfl ?_
      exact NO.out wl HBW.out (fun n m h => h.sq (by rw [← HSQ.out]; exact hq0))
    have f1 : (sq == 0) = false := by simp [hq0]
    by_cases hn1 : N = 0
    · have f2 : ((N : Int) == 0) = true := by simp [hn1]
      go_wp2
      refine bodyPost_ret (results_list (rs := [.tmp 2, .tmp 3, .tmp 4]) rfl (by simp) (.tmp (.tmp (.tmp .nil)))) rfl ?_
      exact NO.out wl HBW.out (fun n m h => by have h1 := h.cn; have h2 := h.n1; rw [HNN.out] at h1; omega)
    have f2 : ((N : Int) == 0) = false := by simp; omega
    by_cases hn2 : 64 < N
    · have f3 : decide ((64 : Int) < N) = true := decide_eq_true (by omega)
      go_wp2
      refine bodyPost_ret (results_list (rs := [.tmp 2, .tmp 3, .tmp 4]) rfl (by simp) (.tmp (.tmp (.tmp .nil)))) rfl ?_
      exact NO.out wl HBW.out (fun n m h => by have h1 := h.cn; have h2 := h.n64; rw [HNN.out] at h1; omega)
    have f3 : decide ((64 : Int) < N) = false := decide_eq_false (by omega)
    by_cases hn3 : n < N
    · have f4 : decide ((n : Int) < N) = true := decide_eq_true (by omega)
      go_wp2
      refine bodyPost_ret (results_list (rs := [.tmp 2, .tmp 3, .tmp 4]) rfl (by simp) (.tmp (.tmp (.tmp .nil)))) rfl ?_
      exact NO.out wl HBW.out (fun n' m h => by have h1 := h.cn; have h2 := h.nl; rw [HNN.out] at h1; rw [HL.out] at h2; omega)
    have f4 : decide ((n : Int) < N) = false := decide_eq_false (by omega)
    have INF := Aside0.mk info5
    have INF8 := Aside0.mk info58'
    have HQ0 := Aside0.mk hq0
    go_wp2_with fail
    go_loopw [7, 8] (fun y x wr => ∃ (k : Nat), k ≤ N ∧ x = .int .i64 k ∧ Aside0 (Kd.R byteK 5 wr W.heap.size tt y (logB l k)) ∧ Aside0 (Below W.heap.size W wr) ∧ Aside0 (∀ i : Nat, i < k → partP (l.getD i []) sq i N)) (fun _ x _ => N - (intOf x).toNat)
    case atStart => exact ⟨0, Nat.zero_le _, rfl, HRE, HBW, ⟨fun i h => absurd h (Nat.not_lt_zero _)⟩⟩
    case round =>
      obtain ⟨k, hk, rfl, HRk, HBk, HPk⟩ := hrel
      by_cases hlt : k < N
      · have g1 : decide ((k : Int) < N) = true := decide_eq_true (by omega)
        have hkn : k < n := by omega
        obtain ⟨ad', B, cB, hA, cel, hle, hCB⟩ := row_b HC.out k (by omega)
        injection hA with hA
        subst hA
        have hoks : BytesOk (l.getD k []) := getD_ok HBO.out k
        have HSU := Aside0.mk (logB_succ (show k < l.length by rw [HL.out]; omega))
        have HCEL := Aside0.mk (show ∀ w', Below W.heap.size W w' → w'.cell? (ad.add k) = some (.slice B (l.getD k []).length cB) from fun w' hB => cell_ons cel hB)
        have hnp : ¬ partP (l.getD k []) sq (k : Int) (N : Int) → ∀ n m, ¬ ScanOk l n m := fun hc n' m' h => by
          have h1 := h.cn
          rw [HNN.out] at h1
          obtain rfl : N = n' := by omega
          exact hc (by have := h.part k hlt; rwa [← HSQ.out] at this)
        have HNP := Aside0.mk hnp
        clear hnp
        obtain ⟨s, hs⟩ : ∃ s, s = l.getD k [] := ⟨_, rfl⟩
        rw [← hs] at hle hCB hoks HSU HCEL HNP
        have HS := Aside0.mk hs
        have HCB := Aside0.mk hCB
        have HLE := Aside0.mk hle
        clear hs hCB hle cel
        obtain ⟨m, hm⟩ : ∃ m, m = s.length := ⟨_, rfl⟩
        rw [← hm] at HCB HLE HCEL
        have HM := Aside0.mk hm
        clear hm
        by_cases h5 : m = 512
        case neg =>
          have f5 : ((m : Int) != 512) = true := by simp; omega
          have c1 := HCEL.out wr HBk.out
          go_wp2
          refine bodyPost_ret (results_list (rs := [.tmp 2, .tmp 3, .tmp 4]) rfl (by simp) (.tmp (.tmp (.tmp .nil)))) rfl ?_
          exact NO.out wr HBk.out (HNP.out (fun hc => h5 (HM.out.trans hc.1)))
        subst h5
        obtain ⟨bd2, hA, _⟩ := HCB.out.2.2 (by decide)
        subst hA
        have HBS2 := Aside0.mk hoks
        have hcB : 512 ≤ cB := HLE.out
        have M1 := Aside0.mk (fun (w' : World) (hB : Below W.heap.size W w') => numr_c (n := 8) (c := cB) (l := s.take 8) (by rw [List.length_take, ← HM.out]; rfl) (by rw [List.length_take]; omega) (HBS2.out.take 8) (takeC (Kd.C_below HCB.out hB) (by decide)) (by omega))
        have M2 := Aside0.mk (fun (w' : World) (hB : Below W.heap.size W w') => numr_c (n := 2) (c := cB - 8) (A := some (bd2.add 8)) (l := (s.take 10).drop 8) (by rw [List.length_drop, List.length_take, ← HM.out]; rfl) (by rw [List.length_drop, List.length_take]; omega) ((HBS2.out.take 10).drop 8) (dropC (n := 10) (m := 8) (c := cB) (takeC (Kd.C_below HCB.out hB) (by decide)) (by decide) (by omega) rfl (by rw [if_neg (by omega)]; rfl)) (by omega))
        have M3 := Aside0.mk (fun (w' : World) (hB : Below W.heap.size W w') => numr_c (n := 2) (c := cB - 10) (A := some (bd2.add 10)) (l := (s.take 12).drop 10) (by rw [List.length_drop, List.length_take, ← HM.out]; rfl) (by rw [List.length_drop, List.length_take]; omega) ((HBS2.out.take 12).drop 10) (dropC (n := 12) (m := 10) (c := cB) (takeC (Kd.C_below HCB.out hB) (by decide)) (by decide) (by omega) rfl (by rw [if_neg (by omega)]; rfl)) (by omega))
        have r8 : ¬ cB = 8 := by omega
        have r10 : ¬ cB = 10 := by omega
        have i1 : IntKind.u64.wrap (k : Int) = (k : Int) := u64_in (by omega) (by omega)
        have i2 : IntKind.u64.wrap (N : Int) = (N : Int) := u64_in (by omega) (by omega)
        have hpp : partP s sq (k : Int) (N : Int) ↔ (numB (s.take 8) = sq ∧ numB ((s.take 10).drop 8) = k ∧ numB ((s.take 12).drop 10) = N) := ⟨fun h => h.2, fun h => ⟨HM.out.symm, h⟩⟩
        generalize numB (s.take 8) = x1 at M1 hpp
        generalize numB ((s.take 10).drop 8) = x2 at M2 hpp
        generalize numB ((s.take 12).drop 10) = x3 at M3 hpp
        have HPP := Aside0.mk hpp
        clear hpp hoks
        have c1 := HCEL.out wr HBk.out
        by_cases e1 : x1 = sq
        case neg =>
          have f5 : (x1 != sq) = true := by simp [e1]
          go_wp2_with (go_at_call 41; refine (M1.out wr HBk.out).mono ?_; rintro e w3 ⟨rfl, h1⟩; have HB3 := Aside0.mk (HBk.out.trans (h1.mono HBk.out.size)); have HY3 := Aside0.mk h1; have c2 := HCEL.out w3 HB3.out; clear h1)
          refine bodyPost_ret (results_list (rs := [.tmp 2, .tmp 3, .tmp 4]) rfl (by simp) (.tmp (.tmp (.tmp .nil)))) rfl ?_
          exact NO.out w3 HB3.out (HNP.out (fun hc => e1 (HPP.out.1 hc).1))
        by_cases e2 : x2 = (k : Int)
        case neg =>
          have f5 : (x1 != sq) = false := by simp [e1]
          have f6 : (x2 != (k : Int)) = true := by simp [e2]
          clear e1
          go_wp2_with (first
            | (go_at_call 41; refine (M2.out w3 HB3.out).mono ?_; rintro e w4 ⟨rfl, h1⟩; have HB4 := Aside0.mk (HB3.out.trans (h1.mono HB3.out.size)); have HY4 := Aside0.mk h1; have c3 := HCEL.out w4 HB4.out; clear h1)
            | (go_at_call 41; refine (M1.out wr HBk.out).mono ?_; rintro e w3 ⟨rfl, h1⟩; have HB3 := Aside0.mk (HBk.out.trans (h1.mono HBk.out.size)); have HY3 := Aside0.mk h1; have c2 := HCEL.out w3 HB3.out; clear h1))
          refine bodyPost_ret (results_list (rs := [.tmp 2, .tmp 3, .tmp 4]) rfl (by simp) (.tmp (.tmp (.tmp .nil)))) rfl ?_
          exact NO.out w4 HB4.out (HNP.out (fun hc => e2 (HPP.out.1 hc).2.1))
        by_cases e3 : x3 = (N : Int)
        case neg =>
          have f5 : (x1 != sq) = false := by simp [e1]
          have f6 : (x2 != (k : Int)) = false := by simp [e2]
          have f7 : (x3 != (N : Int)) = true := by simp [e3]
          clear e1 e2
          go_wp2_with (first
            | (go_at_call 41; refine (M3.out w4 HB4.out).mono ?_; rintro e w5 ⟨rfl, h1⟩; have HB5 := Aside0.mk (HB4.out.trans (h1.mono HB4.out.size)); have HY5 := Aside0.mk h1; clear h1)
            | (go_at_call 41; refine (M2.out w3 HB3.out).mono ?_; rintro e w4 ⟨rfl, h1⟩; have HB4 := Aside0.mk (HB3.out.trans (h1.mono HB3.out.size)); have HY4 := Aside0.mk h1; have c3 := HCEL.out w4 HB4.out; clear h1)
            | (go_at_call 41; refine (M1.out wr HBk.out).mono ?_; rintro e w3 ⟨rfl, h1⟩; have HB3 := Aside0.mk (HBk.out.trans (h1.mono HBk.out.size)); have HY3 := Aside0.mk h1; have c2 := HCEL.out w3 HB3.out; clear h1))
          refine bodyPost_ret (results_list (rs := [.tmp 2, .tmp 3, .tmp 4]) rfl (by simp) (.tmp (.tmp (.tmp .nil)))) rfl ?_
          exact NO.out w5 HB5.out (HNP.out (fun hc => e3 (HPP.out.1 hc).2.2))
        have HPT := Aside0.mk (HPP.out.2 ⟨e1, e2, e3⟩)
        have f5 : (x1 != sq) = false := by simp [e1]
        have f6 : (x2 != (k : Int)) = false := by simp [e2]
        have f7 : (x3 != (N : Int)) = false := by simp [e3]
        clear e1 e2 e3
        obtain ⟨A6, c6, hv⟩ := Kd.R_slice HRk.out
        subst hv
        have hll := logB_len k (show k ≤ l.length by rw [HL.out]; omega) (fun i hi => (HPk.out i hi).1)
        obtain ⟨m6, hm6⟩ : ∃ m6, m6 = (logB l k).length := ⟨_, rfl⟩
        have HRk' := Aside0.mk (show Kd.R byteK 5 wr W.heap.size tt (.slice A6 m6 c6) (logB l k) by rw [hm6]; exact HRk.out)
        rw [← hm6]
        have HM6 := Aside0.mk (show (logB l k).length ≤ 100000 by omega)
        clear HRk hm6 hll
        obtain ⟨Ap, hAp⟩ : ∃ Ap, Ap = if cB = 12 then some bd2 else (some bd2).map (·.add (12 * 1)) := ⟨_, rfl⟩
        have HAP := Aside0.mk hAp
        clear hAp
        go_upto_region 11 with (first
          | (go_at_call 41; refine (M3.out w4 HB4.out).mono ?_; rintro e w5 ⟨rfl, h1⟩; have HB5 := Aside0.mk (HB4.out.trans (h1.mono HB4.out.size)); have HY5 := Aside0.mk h1; clear h1)
          | (go_at_call 41; refine (M2.out w3 HB3.out).mono ?_; rintro e w4 ⟨rfl, h1⟩; have HB4 := Aside0.mk (HB3.out.trans (h1.mono HB3.out.size)); have HY4 := Aside0.mk h1; have c3 := HCEL.out w4 HB4.out; clear h1)
          | (go_at_call 41; refine (M1.out wr HBk.out).mono ?_; rintro e w3 ⟨rfl, h1⟩; have HB3 := Aside0.mk (HBk.out.trans (h1.mono HBk.out.size)); have HY3 := Aside0.mk h1; have c2 := HCEL.out w3 HB3.out; clear h1))
        have HR5 := Aside0.mk (Kd.R_below HRk'.out ((HY3.out.trans (HY4.out.mono HY3.out.size)).trans (HY5.out.mono (Nat.le_trans HY3.out.size HY4.out.size))))
        have c4 := HCEL.out w5 HB5.out
        go_wp2_with (first
          | ((with_reducible refine gate_dst (N := 100) rfl ?_); refine Kd.event_run rfl (ex_lo (m := 12) und56 size5' rfl rfl rfl (by omega) HAP.out) ?_)
          | ((with_reducible refine gate_dst (N := 101) rfl ?_); at_builtin; refine Kd.R_append_rows byteK (w0 := W) W.heap.size rfl (.tmp 95) (.tmp 100) 56 5 (.int .u8 0) 1 rfl Try.underlying56 INF.out rfl (by decide) (by decide) (.slice A6 m6 c6) (logB l k) (s.drop 12) Ap 500 (cB - 12) tt (fun _ => False) rfl rfl HR5.out (dropC (n := 512) (m := 12) (c := cB) (Kd.C_below HCB.out HB5.out) (by decide) HLE.out rfl HAP.out) (fun _ _ h => h) (fun _ h => h.elim) (fun _ _ => trivial) HB5.out HB5.out.size ?hl ?_; (case hl => have := HM6.out; omega); intro v6 w6 ho hb hG hat; rw [← HSU.out] at ho; have HR6 := Aside0.mk ho; have HB6 := Aside0.mk hb; clear ho hb hG hat))
        go_roundw
        case rel =>
          refine ⟨_, _, _, _, _, _, _, _, _, _, _, _, _, _, _, _, _, _, _, _, _, _, _, _, _, _, _, _, _, _, _, _, _, _, _, _, _, _, _, _, _, _, _, _, _, _, _, _, _, _, _, _, _, _, _, ?_, rfl⟩
          exact ⟨k + 1, by omega, by go_num, HR6, HB6, ⟨fun i hi => by
            by_cases e : i = k
            · subst e; rw [← HS.out]; exact HPT.out
            · exact HPk.out i (by omega)⟩⟩
        case measure =>
          show N - (intOf (Value.int .i64 ((k : Int) + 1))).toNat < N - (intOf (Value.int .i64 (k : Int))).toNat
          simp [intOf]; omega
      · obtain rfl : k = N := by omega
        have g1 : decide ((k : Int) < k) = false := decide_eq_false (by omega)
        obtain ⟨A6, c6, hv⟩ := Kd.R_slice HRk.out
        subst hv
        have hll := logB_len k (show k ≤ l.length by rw [HL.out]; omega) (fun i hi => (HPk.out i hi).1)
        have hbok := logB_ok HBO.out k
        obtain ⟨bb, hbb⟩ : ∃ bb, bb = logB l k := ⟨_, rfl⟩
        rw [← hbb] at hll hbok HRk ⊢
        have HBB := Aside0.mk hbb
        have HCb := Aside0.mk (Kd.R_reads' HRk.out)
        have hc6 := HCb.out.2.1
        obtain ⟨m6, hm6⟩ : ∃ m6, m6 = bb.length := ⟨_, rfl⟩
        have HC6 := Aside0.mk (show Kd.C byteK wr A6 m6 bb by rw [hm6]; exact HCb.out.2.2)
        rw [← hm6] at hc6 hll ⊢
        have HM6 := Aside0.mk hm6
        have HOK := Aside0.mk hbok
        clear hbb HCb hm6 HRk hbok
        have N3 := Aside0.mk (fun (w' : World) (hB : Below wr.heap.size wr w') => numr_c (n := 4) (c := c6) (A := A6) (l := bb.take 4) (by rw [List.length_take, ← HM6.out]; omega) (by rw [List.length_take]; omega) (HOK.out.take 4) (takeC (Kd.C_below HC6.out hB) (by omega)) (by omega))
        have b3 := numB_bound (HOK.out.take 4)
        rw [List.length_take, ← HM6.out, show min 4 m6 = 4 by omega] at b3
        obtain ⟨M, hM⟩ : ∃ M : Nat, M = (numB (bb.take 4)).toNat := ⟨_, rfl⟩
        have hM' : numB (bb.take 4) = (M : Int) := by omega
        rw [hM'] at N3
        have hMb : M < 4294967296 := by
          have := b3.2
          rw [hM'] at this
          have h : (256 : Int) ^ 4 = 4294967296 := by decide
          omega
        have HMM := Aside0.mk (show manyB (logB l k) = (M : Int) by rw [← HBB.out]; exact hM')
        clear b3 hM hM'
        have iM : IntKind.i64.wrap (M : Int) = (M : Int) := by rw [IntKind.wrap_i64]; omega
        have HX := Aside0.mk (And.intro hll hc6)
        have HNO2 := Aside0.mk (show ¬ (M ≤ 64 ∧ secsN M = k) → ∀ n m, ¬ ScanOk l n m from fun hc n' m' h => by
          have h1 := h.cn
          rw [HNN.out] at h1
          obtain rfl : k = n' := by omega
          have h2 := h.mn
          rw [HMM.out] at h2
          obtain rfl : M = m' := by omega
          exact hc ⟨h.m64, h.secs⟩)
        go_upto_region 13 with (first
          | ((with_reducible refine gate_dst (N := 103) rfl ?_); refine Kd.event_run rfl (ex_hi (m := 4) und56 size5' rfl rfl rfl (by have := HX.out; omega)) ?_)
          | (go_at_call 41; refine (N3.out wr (Below.refl _ _)).mono ?_; rintro e w5 ⟨rfl, h1⟩; have HB5 := Aside0.mk (HBk.out.trans (h1.mono HBk.out.size)); have HY5 := Aside0.mk h1; clear h1)
          | ((with_reducible refine gate_dst (N := 105) rfl ?_); refine Kd.R_lit k58 (w0 := w5) w5.heap.size 58 ?hg (N := 105) ?hd (xs := ([] : List S58)) (inner := []) (ok := tt) (okp := tt) ?hr ?hp (fun _ hk => hk) trivial (Below.refl _ _) (Nat.le_refl _) (by simp) ?_; (case hd => rfl); (case hg => rfl); (case hr => first | (go_simp; done) | (go_simp; rfl)); (case hp => exact (Reps.none _ _)); intro v6 w6 ho hb hg_ hnew_; have HO6 := Aside0.mk ho; have HB6 := Aside0.mk hb; clear hb ho hg_ hnew_))
        by_cases hM64 : 64 < M
        · have g2 : decide ((64 : Int) < M) = true := decide_eq_true (by omega)
          go_wp2
          refine bodyPost_ret (results_list (rs := [.tmp 2, .tmp 3, .tmp 4]) rfl (by simp) (.tmp (.tmp (.tmp .nil)))) rfl ?_
          exact NO.out w6 (HB5.out.trans (HB6.out.mono HB5.out.size)) (HNO2.out (fun hc => by omega))
        have g2 : decide ((64 : Int) < M) = false := decide_eq_false (by omega)
        have HSE := Aside0.mk (fun (w : World) => need_c (w := w) M (by omega))
        by_cases hsN : secsN M = k
        case neg =>
          obtain ⟨sm, hsm⟩ : ∃ sm, sm = secsN M := ⟨_, rfl⟩
          rw [← hsm] at HSE hsN
          have g3 : ((sm : Int) != k) = true := by simp; omega
          have HSM := Aside0.mk hsm
          clear hsm
          go_wp2_with (go_at_call 38; refine (HSE.out w6).mono ?_; rintro e w7 ⟨rfl, h1⟩; have HB7 := Aside0.mk ((HB5.out.trans (HB6.out.mono HB5.out.size)).trans (h1.mono (Nat.le_trans HB5.out.size HB6.out.size))); clear h1)
          refine bodyPost_ret (results_list (rs := [.tmp 2, .tmp 3, .tmp 4]) rfl (by simp) (.tmp (.tmp (.tmp .nil)))) rfl ?_
          exact NO.out w7 HB7.out (HNO2.out (fun hc => hsN (HSM.out.trans hc.2)))
        rw [hsN] at HSE
        have g3 : ((k : Int) != k) = false := by simp
        have HSN := Aside0.mk hsN
        have hMN : 4 + 516 * M ≤ m6 ∧ M ≤ 64 := by rw [hll, ← hsN]; unfold secsN; omega
        clear hsN
        go_wp2_with (go_at_call 38; refine (HSE.out w6).mono ?_; rintro e w7 ⟨rfl, h1⟩; have HB7 := Aside0.mk (HB6.out.trans (h1.mono HB6.out.size)); have HO7 := Aside0.mk (Kd.R_below HO6.out h1); clear h1)
        have HHH := Aside0.mk (And.intro hMN (And.intro hll hc6))
        have HC7 := Aside0.mk (Kd.C_below HC6.out HY5.out)
        go_loopw [10, 11] (fun y x wr => ∃ (j : Nat), j ≤ M ∧ x = .int .i64 j ∧ Aside0 (Kd.R k58 58 wr w5.heap.size tt y ((List.range j).map (pageAt bb))) ∧ Aside0 (∀ i, i < j → noAt bb i ≤ 2147483647) ∧ Aside0 (Below w5.heap.size w5 wr)) (fun _ x _ => M - (intOf x).toNat)
        case atStart => exact ⟨0, Nat.zero_le _, rfl, HO7, ⟨fun i h => absurd h (Nat.not_lt_zero _)⟩, HB7⟩
        case round =>
          obtain ⟨j, hj, rfl, HRj, HNj, HBj⟩ := hrel
          obtain ⟨Ao, co, hv⟩ := Kd.R_slice HRj.out
          subst hv
          rw [List.length_map, List.length_range] at HRj ⊢
          by_cases hlt2 : j < M
          · have k1 : decide ((j : Int) < M) = true := decide_eq_true (by omega)
            obtain ⟨q, hq⟩ : ∃ q, q = 4 + 516 * j := ⟨_, rfl⟩
            obtain ⟨q4, hq4⟩ : ∃ q4, q4 = q + 4 := ⟨_, rfl⟩
            obtain ⟨q5, hq5⟩ : ∃ q5, q5 = q + 516 := ⟨_, rfl⟩
            have hqb : q4 ≤ q5 ∧ q5 ≤ m6 ∧ q ≤ q4 ∧ q4 - q = 4 ∧ q5 - q4 = 512 ∧ q5 ≤ c6 := by omega
            have a1 : IntKind.i64.wrap (516 * (j : Int)) = 516 * (j : Int) := by rw [IntKind.wrap_i64]; omega
            have a2 : IntKind.i64.wrap (4 + 516 * (j : Int)) = (q : Int) := by rw [IntKind.wrap_i64]; omega
            have a3 : IntKind.i64.wrap ((q : Int) + 4) = (q4 : Int) := by rw [IntKind.wrap_i64]; omega
            have a4 : IntKind.i64.wrap ((q : Int) + 516) = (q5 : Int) := by rw [IntKind.wrap_i64]; omega
            obtain ⟨Aq, hAq⟩ : ∃ Aq, Aq = if c6 = q then A6 else A6.map (·.add (q * 1)) := ⟨_, rfl⟩
            obtain ⟨Ar, hAr⟩ : ∃ Ar, Ar = if c6 = q4 then A6 else A6.map (·.add (q4 * 1)) := ⟨_, rfl⟩
            have d1 : (bb.take q4).drop q = (bb.drop (4 + 516 * j)).take 4 := by rw [List.drop_take, hqb.2.2.2.1, hq]
            have d2 : (bb.take q5).drop q4 = ((bb.drop (4 + 516 * j)).take 516).drop 4 := by
              rw [List.drop_take, List.drop_take, List.drop_drop, hqb.2.2.2.2.1, hq4, hq]
            have N4 := Aside0.mk (fun (w' : World) (hB : Below w5.heap.size w5 w') => numr_c (n := 4) (c := c6 - q) (A := Aq) (l := (bb.take q4).drop q) (by rw [List.length_drop, List.length_take, ← HM6.out]; omega) (by rw [List.length_drop, List.length_take, ← HM6.out]; omega) ((HOK.out.take _).drop _) (by
              have h := dropC (n := q4) (m := q) (c := c6) (takeC (Kd.C_below HC7.out hB) (by omega)) hqb.2.2.1 (by omega) rfl hAq
              rwa [hqb.2.2.2.1] at h) (by omega))
            have HCR := Aside0.mk (show ∀ w', Below w5.heap.size w5 w' → Kd.C byteK w' Ar 512 ((bb.take q5).drop q4) from fun w' hB => by
              have h := dropC (n := q5) (m := q4) (c := c6) (takeC (Kd.C_below HC7.out hB) (by omega)) hqb.1 (by omega) rfl hAr
              rwa [hqb.2.2.2.2.1] at h)
            have b4 := numB_bound ((HOK.out.take q4).drop q)
            rw [List.length_drop, List.length_take, ← HM6.out, show min q4 m6 - q = 4 by omega, d1] at b4
            rw [d1] at N4
            rw [d2] at HCR
            have e4 : numB ((bb.drop (4 + 516 * j)).take 4) = noAt bb j := rfl
            rw [e4] at N4 b4
            obtain ⟨nx, hnx⟩ : ∃ nx, nx = noAt bb j := ⟨_, rfl⟩
            rw [← hnx] at N4 b4
            have HNX := Aside0.mk hnx
            have hb4 : 0 ≤ nx ∧ nx < 4294967296 := by
              have h : (256 : Int) ^ 4 = 4294967296 := by decide
              omega
            have iX : IntKind.i64.wrap nx = nx := by rw [IntKind.wrap_i64]; omega
            have HAQ := Aside0.mk hAq
            have HAR := Aside0.mk hAr
            have HQB := Aside0.mk hqb
            obtain ⟨pg, hpg⟩ : ∃ pg, pg = ((bb.drop (4 + 516 * j)).take 516).drop 4 := ⟨_, rfl⟩
            have hpl : pg.length = 512 := by rw [hpg, ← d2, List.length_drop, List.length_take, ← HM6.out]; omega
            rw [← hpg] at HCR
            have HPG := Aside0.mk hpg
            have HPL := Aside0.mk hpl
            clear e4 hnx b4 d1 d2 hAq hAr hpg hpl hqb hq hq4 hq5
            go_upto_region 20 with (first
              | ((with_reducible refine gate_dst (N := 128) rfl ?_); refine Kd.event_run rfl (ex_mid (m := q) (h := q4) und56 size5' rfl rfl rfl rfl HQB.out.2.2.1 (by have := HQB.out; omega) HAQ.out) ?_; rw [HQB.out.2.2.2.1])
              | (go_at_call 41; refine (N4.out wr HBj.out).mono ?_; rintro e w9 ⟨rfl, h1⟩; have HB9 := Aside0.mk (HBj.out.trans (h1.mono HBj.out.size)); have HR9 := Aside0.mk (Kd.R_below HRj.out h1); clear h1))
            by_cases hbig : 2147483647 < nx
            · have k2 : decide (2147483647 < nx) = true := decide_eq_true hbig
              go_wp2
              refine bodyPost_ret (results_list (rs := [.tmp 2, .tmp 3, .tmp 4]) rfl (by simp) (.tmp (.tmp (.tmp .nil)))) rfl ?_
              exact NO.out w9 (HB5.out.trans (HB9.out.mono HB5.out.size)) (fun n' m' h => by
                have h1 := h.cn
                rw [HNN.out] at h1
                obtain rfl : k = n' := by omega
                have h2 := h.mn
                rw [HMM.out] at h2
                obtain rfl : M = m' := by omega
                have h3 := h.nos j hlt2
                rw [← HBB.out, ← HNX.out] at h3
                omega)
            have k2 : decide (2147483647 < nx) = false := decide_eq_false hbig
            have HNB := Aside0.mk (show nx ≤ 2147483647 by omega)
            clear hbig
            go_wp2_with (first
              | ((with_reducible refine gate_dst (N := 135) rfl ?_); refine Kd.R_lit byteK (w0 := w9) w9.heap.size 5 ?hg (N := 135) ?hd (xs := ([] : List Int)) (inner := []) (ok := tt) (okp := tt) ?hr ?hp (fun _ hk => hk) trivial (Below.refl _ _) (Nat.le_refl _) (by simp) ?_; (case hd => rfl); (case hg => rfl); (case hr => first | (go_simp; done) | (go_simp; rfl)); (case hp => exact (Reps.none _ _)); intro v10 w10 ho hb hg_ hnew_; have HO10 := Aside0.mk ho; have HB10 := Aside0.mk hb; clear hb ho hg_ hnew_)
              | ((with_reducible refine gate_dst (N := 141) rfl ?_); refine Kd.event_run rfl (ex_mid (m := q4) (h := q5) und56 size5' rfl rfl rfl rfl HQB.out.1 (by have := HQB.out; omega) HAR.out) ?_; rw [HQB.out.2.2.2.2.1])
              | ((with_reducible refine gate_dst (N := 142) rfl ?_); at_builtin; refine Kd.R_append_rows byteK (w0 := w9) w9.heap.size rfl (.tmp 135) (.tmp 141) 56 5 (.int .u8 0) 1 rfl Try.underlying56 INF.out rfl (by decide) (by decide) v10 [] pg Ar 512 (c6 - q4) tt (fun _ => False) rfl rfl HO10.out (HCR.out w10 (HB9.out.trans (HB10.out.mono HB9.out.size))) (fun _ _ h => h) (fun _ h => h.elim) (fun _ _ => trivial) HB10.out HB10.out.size ?hl ?_; (case hl => simp); intro v11 w11 ho hb hG hat; rw [List.nil_append] at ho; obtain ⟨A11, c11, e11⟩ := Kd.R_slice ho; rw [HPL.out] at e11; subst e11; have HV11 := Aside0.mk (Kd.R_mono (ok' := fun k => w9.heap.size ≤ k) (Kd.R_bound ho) (fun k hk => hk.2.1)); have HB11 := Aside0.mk (HB9.out.trans (hb.mono HB9.out.size)); have HR11 := Aside0.mk (Kd.R_below HR9.out hb); clear ho hb hG hat)
              | ((with_reducible refine gate_dst (N := 145) rfl ?_); at_builtin; refine Kd.R_append k58 (w0 := w5) (W := w11) w5.heap.size rfl (.tmp 132) (.tmp 144) 23 58 (.agg #[.int .i64 0, .slice none 0 0]) 32 rfl Try.underlying23 INF8.out rfl (by decide) (by decide) (.slice Ao j co) ((List.range j).map (pageAt bb)) ⟨nx, pg⟩ [.int .i64 nx, .slice A11 512 c11] tt (fun k => w9.heap.size ≤ k) rfl rfl (k58_mkM w11 w5.heap.size (fun k => w9.heap.size ≤ k) ⟨nx, pg⟩ (Kd.R_lower HV11.out HB9.out.size)) (fun k hk => ⟨trivial, fun e => Nat.not_lt.2 hk (Kd.R_lt HR9.out k e.symm)⟩) (fun _ _ => trivial) HR11.out HB11.out HB11.out.size ?hl ?_; (case hl => simp; omega); intro v12 w12 ho hb hG hat; have HO12 := Aside0.mk ho; have HB12 := Aside0.mk hb; clear ho hb hG hat))
            go_roundw
            case rel => exact ⟨j + 1, by omega, by go_num, ⟨by
                have h := HO12.out
                rw [show (⟨nx, pg⟩ : S58) = pageAt bb j by unfold pageAt; rw [← HNX.out, ← HPG.out]] at h
                rw [List.range_succ, List.map_append, List.map_cons, List.map_nil]
                exact h⟩, ⟨fun i hi => by
                by_cases e : i = j
                · subst e; rw [← HNX.out]; exact HNB.out
                · exact HNj.out i (by omega)⟩, HB12⟩
            case measure => simp [intOf]; omega
          · obtain rfl : j = M := by omega
            have k1 : decide ((j : Int) < j) = false := decide_eq_false (by omega)
            go_wp2
            refine bodyPost_ret (results_list (rs := [.tmp 2, .tmp 3, .tmp 4]) rfl (by simp) (.tmp (.tmp (.tmp .nil)))) rfl ?_
            refine ⟨sq, outS l k j, true, _, rfl, .inl ⟨rfl, HSQ.out, k, j, ⟨by rw [HL.out]; omega, by rw [← HS0.out]; exact HN0.out.symm, by rw [← HSQ.out]; exact HQ0.out, HNN.out, by omega, by omega, by rw [HL.out]; omega, fun i hi => by rw [← HSQ.out]; exact HPk.out i hi, HMM.out, by omega, HSN.out, fun i hi => by rw [← HBB.out]; exact HNj.out i hi⟩, rfl⟩, ?_, HB5.out.trans (HBj.out.mono HB5.out.size)⟩
            have h := Kd.R_lower HRj.out HB5.out.size
            unfold outS
            rw [← HBB.out]
            exact h
end Go.Proofs.Ytmghgghheebnjaa.Dis
namespace Go.Proofs.Ytmghgghheebnjaa.Dis
open Go.RowKit Go.Proofs.YtmghgghheebnjaaW.PrintWords Go.Proofs.YtmghgghheebnjaaW.PrintLast Go.Proofs.YtmghgghheebnjaaW.PrintMore Go.Maps Go.Proofs.Ytmghgghheebnjaa.PWalRecords
set_option linter.unusedVariables false
set_option linter.unusedSimpArgs false
theorem wrD_snoc : ∀ (xs : List (Int × List Int)) (d : D) (x : Int × List Int), (wrD d xs).2 = 0 → wrD d (xs ++ [x]) = writeD (wrD d xs).1 x.1 x.2 := by
  intro xs
  induction xs with
  | nil =>
    intro d x _
    show (if (writeD d x.1 x.2).2 = 0 then ((writeD d x.1 x.2).1, 0) else writeD d x.1 x.2) = writeD d x.1 x.2
    split
    · rename_i h
      rw [← h]
    · rfl
  | cons y ys ih =>
    intro d x h
    have e : ∀ zs, wrD d (y :: zs) = if (writeD d y.1 y.2).2 = 0 then wrD (writeD d y.1 y.2).1 zs else writeD d y.1 y.2 := fun zs => rfl
    rw [e] at h ⊢
    rw [List.cons_append, e]
    split at h
    · rename_i h0
      rw [if_pos h0, if_pos h0]
      exact ih _ x h
    · rename_i h0
      exact absurd h h0
theorem wrD_stop : ∀ (xs ys : List (Int × List Int)) (d : D), (wrD d xs).2 ≠ 0 → wrD d (xs ++ ys) = wrD d xs := by
  intro xs
  induction xs with
  | nil => intro ys d h; exact absurd rfl h
  | cons y zs ih =>
    intro ys d h
    have e : ∀ zs, wrD d (y :: zs) = if (writeD d y.1 y.2).2 = 0 then wrD (writeD d y.1 y.2).1 zs else writeD d y.1 y.2 := fun zs => rfl
    rw [e] at h
    rw [List.cons_append, e, e]
    split at h
    · rename_i h0
      rw [if_pos h0, if_pos h0]
      exact ih ys _ h
    · rename_i h0
      rw [if_neg h0, if_neg h0]
/-- One write more of a list. -/
theorem wrD_next {xs : List (Int × List Int)} {d : D} {i : Nat} (hi : i < xs.length) (h : (wrD d (xs.take i)).2 = 0) {x : Int × List Int} (hx : x = xs[i]) : wrD d (xs.take (i + 1)) = writeD (wrD d (xs.take i)).1 x.1 x.2 ∧ ((writeD (wrD d (xs.take i)).1 x.1 x.2).2 ≠ 0 → wrD d xs = writeD (wrD d (xs.take i)).1 x.1 x.2) := by
  have e : xs.take (i + 1) = xs.take i ++ [x] := by rw [hx]; exact (List.take_append_getElem hi).symm
  have e1 : wrD d (xs.take (i + 1)) = writeD (wrD d (xs.take i)).1 x.1 x.2 := by rw [e]; exact wrD_snoc _ _ _ h
  refine ⟨e1, fun hne => ?_⟩
  rw [← e1] at hne ⊢
  have := wrD_stop (xs.take (i + 1)) (xs.drop (i + 1)) d hne
  rwa [List.take_append_drop] at this
theorem enumW_at : ∀ (rs : List (List Int)) (k i : Nat) (h : i < (enumW k rs).length), (enumW k rs)[i] = (((k + i : Nat) : Int), rs.getD i []) := by
  intro rs
  induction rs with
  | nil => intro k i h; exact absurd h (Nat.not_lt_zero _)
  | cons r rs ih =>
    intro k i h
    cases i with
    | zero => rfl
    | succ i =>
      have := ih (k + 1) i (by simpa [enumW] using h)
      show (enumW (k + 1) rs)[i]'_ = _
      rw [this, show k + 1 + i = k + (i + 1) by omega]
      rfl
/-- What the document's disk must be for a call. -/
theorem sim_ok {d : D} {r : Rf} {B : Nat} (h : Sim d r B) (hB : B ≤ 100000) : (-9223372036854775808 < r.left ∧ r.left ≤ 9223372036854775807) ∧ r.at_.length = r.b.length ∧ r.to_.length = r.ws.length ∧ r.at_.length + r.to_.length ≤ 1000000 ∧ (r.to_.length ≤ 1000000 ∧ r.ws.length ≤ 1000000) := by
  have h1 := h.lb
  have h2 := h.ub
  have h3 := h.size
  have h4 := h.tw
  exact ⟨⟨by omega, h2⟩, h.ab, h4, by omega, by omega, by omega⟩
theorem sim_lens {d : D} {r : Rf} {B : Nat} (h : Sim d r B) (i : Int) : ∀ k, (lastTo (callR r).1 i (bytesR (callR r).1 i) k).length ≤ 1000000 := by
  intro k
  have hs := (sim_call h).1
  have := last_len hs.secw i (bytesR (callR r).1 i) (bytes_len hs.secb i) k
  omega
theorem sim_fresh : Sim (freshD 72) (newR 72) 0 :=
  ⟨rfl, rfl, fun _ => .inl ⟨rfl, rfl⟩, by show _ ≤ (0 : Int); decide, by show (0 : Int) ≤ _; decide, rfl, rfl, rfl, fun i => rfl, fun s hs => (List.not_mem_nil hs).elim, fun s hs => (List.not_mem_nil hs).elim, Nat.le_refl _, Nat.le_refl _⟩
/-- A block of another kind is none of the disk's rows. -/
theorem IsRfX.of_type {k0 base g : Nat} {w : World} {r : Rf} {cs : Array Value} {t : Nat} {fr : Nat × Nat} (h : IsRf base w g r) (hk : w.heap[k0]? = some (.cells cs t fr)) (h1 : t ≠ 98) (h2 : t ≠ 3) (h3 : t ≠ 56) : IsRfX k0 base w g r := by
  obtain ⟨vA, vB, vT, vW, h⟩ := h
  have key : ∀ {α : Type} {d : Kd α} {e : Nat} {v : Value} {xs : List α}, d.R e w base (fun _ => True) v xs → e ≠ t → v.ownBlock ≠ some k0 := fun hr hne e2 => by
    obtain ⟨cs', hc⟩ := own_of hr k0 e2
    rw [hc] at hk
    injection hk with hk
    injection hk with _ ht _
    exact hne ht
  refine ⟨vA, vB, vT, vW, h, ⟨key h.rA h2.symm, key h.rB h3.symm, key h.rT h2.symm, key h.rW h3.symm⟩, fun e => ?_, blk_lt hk⟩
  subst e
  rw [h.blk] at hk
  injection hk with hk
  injection hk with _ ht _
  exact h1 ht.symm
/-- A block that is new is none of the disk's rows. -/
theorem IsRfX.of_new {k0 base g : Nat} {W w : World} {r : Rf} (h : IsRf base W g r) (hb : Below W.heap.size W w) (h1 : W.heap.size ≤ k0) (h2 : k0 < w.heap.size) : IsRfX k0 base w g r := by
  obtain ⟨vA, vB, vT, vW, h⟩ := h
  have key : ∀ {α : Type} {d : Kd α} {e : Nat} {v : Value} {xs : List α}, d.R e W base (fun _ => True) v xs → v.ownBlock ≠ some k0 := fun hr e2 => by
    have := Kd.R_lt hr k0 e2
    omega
  exact ⟨vA, vB, vT, vW, (h.st.below hb).at_, ⟨key h.rA, key h.rB, key h.rT, key h.rW⟩, fun e => by have := blk_lt h.blk; omega, h2⟩
theorem IsRf.of_still {base g : Nat} {W w' : World} {r r' : Rf} (h : IsRf base W g r) (hs : StillR W w' g r r') : IsRf base w' g r' := by
  obtain ⟨vA, vB, vT, vW, h⟩ := h
  exact ⟨vA, vB, vT, vW, h.of_still hs⟩
theorem IsRf.keepW {base g : Nat} {w w' : World} {r : Rf} (h : IsRf base w g r) (hk : KeepW w w') : IsRf base w' g r := by
  obtain ⟨vA, vB, vT, vW, h⟩ := h
  refine ⟨vA, vB, vT, vW, h.kept (fun k cs q hq hc => ?_)⟩
  have h1 : q ≠ 106 := by omega
  have h2 : q ≠ 88 := by omega
  have h3 : q ≠ 81 := by omega
  exact hk.2 k _ _ _ hc h1 h2 h3
theorem pages_keptR {W w1 : World} {base : Nat} {v : Value} {l : List S58} (h : Kd.R k58 58 W base tt v l) (hk : KeepR W w1) : Kd.R k58 58 w1 base tt v l :=
  R_kept h (fun k cs q hq hc => by
    have hq2 : q = 58 ∨ q = 5 := by
      rcases List.mem_cons.1 hq with e | e
      · exact .inl e
      · right
        have e2 : q ∈ ([5] : List Nat) := e
        simpa using e2
    have h1 : q ≠ 98 := by omega
    have h2 : q ≠ 3 := by omega
    have h3 : q ≠ 56 := by omega
    exact hk.cells hc h1 h2 h3)
theorem IsWl.keepR {w w' : World} {gw g : Nat} {s : Int} (h : IsWl w gw g s) (hk : KeepR w w') : IsWl w' gw g s := hk.cells h (by decide) (by decide) (by decide)
/-- A row, when a call has left all blocks but a disk's own. -/
theorem R_still {α : Type} {d : Kd α} {e base g : Nat} {W w' : World} {r r' : Rf} {v : Value} {xs : List α} {cs0 : Array Value} (h : d.R e W base tt v xs) (hs : StillR W w' g r r') (hg : W.heap[g]? = some (.cells cs0 98 (0, 0))) (ht : ∀ q, q ∈ e :: d.E → q ≠ 98) : d.R e w' base tt v xs :=
  R_kept h (fun k cs q hq hc => by
    have hne : k ≠ g := fun e2 => by
      subst e2
      rw [hg] at hc
      injection hc with hc
      injection hc with _ ht2 _
      exact ht q hq ht2.symm
    exact (hs.1 k (blk_lt hc) hne).trans hc)
theorem KeepS.grow {W w w1 : World} {g : Nat} {r r' : Rf} {row : Option Nat} (h : KeepS W w g r r') (hg0 : g < W.heap.size) (hg : w.grownBy w1 row) (hr : ∀ q, row = some q → W.heap.size ≤ q) : KeepS W w1 g r r' := by
  have hb : ∀ k, k < W.heap.size → w1.heap[k]? = w.heap[k]? := fun k hk => hg.block k (Nat.lt_of_lt_of_le hk h.1.1) (fun e => by have := hr k e.symm; omega)
  refine ⟨⟨Nat.le_trans h.1.1 hg.size, fun i o hi ho => ?_⟩, fun k hk hne => (hb k hk).trans (h.2.1 k hk hne), h.2.2.1, fun vA vB vT vW e => (hb g hg0).trans (h.2.2.2 _ _ _ _ e)⟩
  have hlt : i < W.heap.size := by
    obtain ⟨h1, _⟩ := Array.getElem?_eq_some_iff.1 hi
    exact h1
  exact (hb i hlt).trans (h.1.2 i o hi ho)
theorem KeepS.trans {W w w' : World} {g : Nat} {r r1 r2 : Rf} (h : KeepS W w g r r1) (k : KeepS w w' g r1 r2) : KeepS W w' g r r2 :=
  ⟨h.1.trans k.1, fun i hi hne => (k.2.1 i (Nat.lt_of_lt_of_le hi h.1.1) hne).trans (h.2.1 i hi hne), ⟨k.2.2.1.1.trans h.2.2.1.1, k.2.2.1.2.1.trans h.2.2.1.2.1, k.2.2.1.2.2.1.trans h.2.2.1.2.2.1, k.2.2.1.2.2.2.trans h.2.2.1.2.2.2⟩, fun vA vB vT vW e => k.2.2.2 _ _ _ _ (h.2.2.2 _ _ _ _ e)⟩
theorem rf_blk {base g : Nat} {w : World} {r : Rf} (h : IsRf base w g r) : ∃ cs, w.heap[g]? = some (.cells cs 98 (0, 0)) ∧ w.cell? ⟨g, 0, none⟩ = some (.int .i64 r.n) := by
  obtain ⟨vA, vB, vT, vW, h⟩ := h
  exact ⟨_, h.blk, (blk_cell h.blk 0).trans rfl⟩
theorem next_new {W w : World} {x v : Value} (h : ∀ q, x.ownBlock = some q → W.heap.size ≤ q) (hW : W.heap.size ≤ w.heap.size) (hat : v.ownBlock = x.ownBlock ∨ ∃ b, v.ownBlock = some b ∧ w.heap.size ≤ b) : ∀ q, v.ownBlock = some q → W.heap.size ≤ q := by
  intro q hq
  rcases hat with e | ⟨b, e, hb⟩
  · exact h q (by rw [← e]; exact hq)
  · rw [e] at hq
    injection hq with hq
    omega
/-- The pages of a list that are there. -/
def thereF (n : Int) (l : List S58) (i : Nat) : List S58 := (l.take i).filter (fun p => thereB n p.f0)
theorem thereF_succ {n : Int} {l : List S58} {i : Nat} (hi : i < l.length) : thereF n l (i + 1) = if thereB n (l.getD i z58).f0 = true then thereF n l i ++ [l.getD i z58] else thereF n l i := by
  unfold thereF
  rw [← List.take_append_getElem hi, List.filter_append, List.getD_eq_getElem?_getD, List.getElem?_eq_getElem hi, Option.getD_some]
  split
  · rename_i h
    congr 1
    simp [h]
  · rename_i h
    simp [h]
end Go.Proofs.Ytmghgghheebnjaa.Dis
namespace Go.Proofs.Ytmghgghheebnjaa.Dis
open Go.RowKit Go.Proofs.YtmghgghheebnjaaW.PrintWords Go.Proofs.YtmghgghheebnjaaW.PrintLast Go.Proofs.YtmghgghheebnjaaW.PrintMore Go.Maps Go.Proofs.Ytmghgghheebnjaa.PWalRecords
set_option linter.unusedVariables false
set_option linter.unusedSimpArgs false
/-- Blocks of one kind stay. -/
def KeepT (t : Nat) (W W' : World) : Prop := ∀ (i : Nat) (cs : Array Value), W.heap[i]? = some (Obj.cells cs t (0, 0)) → W'.heap[i]? = some (Obj.cells cs t (0, 0))
theorem KeepT.refl (t : Nat) (W : World) : KeepT t W W := fun _ _ h => h
theorem KeepT.trans {t : Nat} {a b c : World} (h : KeepT t a b) (k : KeepT t b c) : KeepT t a c := fun i cs hi => k i cs (h i cs hi)
theorem KeepR.t {t : Nat} {w w' : World} (h : KeepR w w') (h1 : t ≠ 98) (h2 : t ≠ 3) (h3 : t ≠ 56) : KeepT t w w' := fun i cs hi => h.cells hi h1 h2 h3
theorem KeepW.t {t : Nat} {w w' : World} (h : KeepW w w') (h1 : t ≠ 106) (h2 : t ≠ 88) (h3 : t ≠ 81) : KeepT t w w' := fun i cs hi => h.2 i cs t _ hi h1 h2 h3
theorem R_lieG {α : Type} {d : Kd α} {e base : Nat} {W : World} {ok : Nat → Prop} {v : Value} {xs : List α} (z : α) (h : d.R e W base ok v xs) :
    ∃ A c, v = .slice A xs.length c ∧ xs.length ≤ c ∧ ∀ k, k < xs.length → ∃ ad cs cur, A = some ad ∧ v.ownBlock = some ad.block ∧ W.heap[ad.block]? = some (.cells cur e (0, 0)) ∧ cs.length = d.sz ∧ ∀ W', (∀ q, q ∈ d.E → KeepT q W W') → d.M W' base tt (xs.getD k z) cs ∧ (W'.heap[ad.block]? = W.heap[ad.block]? → ∀ i u, cs[i]? = some u → W'.cell? (ad.add (k * d.sz + i)) = some u) := by
  have h9 := h
  obtain ⟨h0, inner, hown, hr⟩ := h
  have hlen := hown.1
  rcases hown.2 with ⟨rfl, hn⟩ | ⟨g, cap, cur, rfl, hg, hh, hcap, hmax, hsz, hcur⟩
  · exact ⟨none, 0, by rw [hn], by omega, fun k hk => by omega⟩
  · refine ⟨some ⟨g, 0, none⟩, cap, rfl, hcap, fun k hk => ⟨⟨g, 0, none⟩, (inner.drop (k * d.sz)).take d.sz, cur, rfl, ?_, hh, ?_, fun W' hE => ⟨?_, fun hG i u hi => ?_⟩⟩⟩
    · simp [Value.ownBlock]
    · have h1 : (k + 1) * d.sz ≤ xs.length * d.sz := Nat.mul_le_mul_right _ (by omega)
      rw [Nat.add_mul, Nat.one_mul] at h1
      rw [List.length_take, List.length_drop, hlen]
      omega
    · have hp := hr.2 k (xs.getD k z) (by rw [List.getD_eq_getElem?_getD, List.getElem?_eq_getElem hk]; rfl)
      exact d.M_mono (fun _ _ => trivial) (d.M_mono (fun _ hb => hb.1) (d.M_move (fun k hb => by
        obtain ⟨_, _, _, q, hq, cs, hc⟩ := hb
        rw [hE q hq k cs hc, hc]) (d.M_bound hp)))
    · have hb : W'.heap[g]? = some (.cells cur e (0, 0)) := hG.trans hh
      have h2 : cur[k * d.sz + i]? = some u := by
        rw [List.getElem?_take] at hi
        split at hi
        · rw [List.getElem?_drop, ← hcur, List.getElem?_take] at hi
          split at hi
          · rw [← Array.getElem?_toList]; exact hi
          · cases hi
        · cases hi
      have h3 := (blk_cell hb (k * d.sz + i)).trans h2
      have h4 : Addr.add ⟨g, 0, none⟩ (k * d.sz + i) = ⟨g, k * d.sz + i, none⟩ := by
        unfold Addr.add
        split
        · rename_i h5; rw [h5]
        · simp
      rw [h4]
      exact h3
/-- Pages that stay. -/
structure PgB (W : World) (A : Option Addr) (n : Nat) (l : List S58) : Prop where
  len : l.length = n
  at_ : ∀ k, k < n → ∃ ad A1 c1, A = some ad ∧ (l.getD k z58).f1.length ≤ c1 ∧ ∀ W', KeepT 58 W W' → KeepT 5 W W' → W'.cell? (ad.add (k * 2)) = some (.int .i64 (l.getD k z58).f0) ∧ W'.cell? ⟨(ad.add (k * 2)).block, (ad.add (k * 2)).off + 1, none⟩ = some (.slice A1 (l.getD k z58).f1.length c1) ∧ Kd.C byteK W' A1 (l.getD k z58).f1.length (l.getD k z58).f1
theorem PgB.keep {W W' : World} {A : Option Addr} {n : Nat} {l : List S58} (h : PgB W A n l) (h1 : KeepT 58 W W') (h2 : KeepT 5 W W') : PgB W' A n l :=
  ⟨h.len, fun k hk' => by
    obtain ⟨ad, A1, c1, a1, a2, a3⟩ := h.at_ k hk'
    exact ⟨ad, A1, c1, a1, a2, fun W2 h4 h5 => a3 W2 (h1.trans h4) (h2.trans h5)⟩⟩
theorem pgB_of_R {W : World} {base : Nat} {ok : Nat → Prop} {v : Value} {l : List S58} (h : Kd.R k58 58 W base ok v l) : ∃ A c, v = .slice A l.length c ∧ l.length ≤ c ∧ PgB W A l.length l := by
  obtain ⟨A, c, hv, hc, hl⟩ := R_lieG z58 h
  refine ⟨A, c, hv, hc, rfl, fun k hk => ?_⟩
  obtain ⟨ad, cs, cur, hA, _, hcur, _, h1⟩ := hl k hk
  have hE : ∀ W', KeepT 5 W W' → ∀ q, q ∈ k58.E → KeepT q W W' := fun W' hk' q hq => by
    have e2 : q ∈ ([5] : List Nat) := hq
    have e3 : q = 5 := by simpa using e2
    subst e3
    exact hk'
  obtain ⟨v1, rfl, hv1⟩ := k58_openM (h1 W (hE W (KeepT.refl _ _))).1
  obtain ⟨A1, c1, rfl⟩ := Kd.R_slice hv1
  refine ⟨ad, A1, c1, hA, (Kd.R_reads' hv1).2.1, fun W' hk58 hk5 => ?_⟩
  obtain ⟨h2, h3'⟩ := h1 W' (hE W' hk5)
  have h3 := h3' ((hk58 _ _ hcur).trans hcur.symm)
  obtain ⟨v2, he, hv2⟩ := k58_openM h2
  simp only [List.cons.injEq, and_true, true_and] at he
  subst he
  refine ⟨h3 0 _ rfl, ?_, (Kd.R_reads' hv2).2.2⟩
  rw [← add_field _ _ 1 (by omega)]
  exact h3 1 _ rfl
/-- Rows of bytes that stay while their block does. -/
structure RwX (k0 : Nat) (W : World) (A : Option Addr) (n : Nat) (l : List (List Int)) : Prop where
  len : l.length = n
  at_ : ∀ k, k < n → ∃ ad A1 c1, A = some ad ∧ (l.getD k []).length ≤ c1 ∧ ∀ W', KeepT 5 W W' → (W'.heap[k0]? = W.heap[k0]? → W'.cell? (ad.add k) = some (.slice A1 (l.getD k []).length c1)) ∧ Kd.C byteK W' A1 (l.getD k []).length (l.getD k [])
theorem RwX.keep {k0 : Nat} {W W' : World} {A : Option Addr} {n : Nat} {l : List (List Int)} (h : RwX k0 W A n l) (h1 : KeepT 5 W W') (h2 : W'.heap[k0]? = W.heap[k0]?) : RwX k0 W' A n l :=
  ⟨h.len, fun k hk' => by
    obtain ⟨ad, A1, c1, a1, a2, a3⟩ := h.at_ k hk'
    exact ⟨ad, A1, c1, a1, a2, fun W2 h4 => ⟨fun h5 => (a3 W2 (h1.trans h4)).1 (h5.trans h2), (a3 W2 (h1.trans h4)).2⟩⟩⟩
theorem rwX_of_R {W : World} {base : Nat} {ok : Nat → Prop} {v : Value} {l : List (List Int)} (h : Kd.R rowK 56 W base ok v l) (hl0 : 0 < l.length) : ∃ A c k0, v = .slice A l.length c ∧ l.length ≤ c ∧ v.ownBlock = some k0 ∧ RwX k0 W A l.length l := by
  obtain ⟨A, c, hv, hc, hl⟩ := R_lieG [] h
  obtain ⟨ad0, _, _, hA0, ho0, _, _⟩ := hl 0 hl0
  refine ⟨A, c, ad0.block, hv, hc, ho0, rfl, fun k hk => ?_⟩
  obtain ⟨ad, cs, cur, hA, _, _, _, h1⟩ := hl k hk
  have e : ad = ad0 := by rw [hA0] at hA; injection hA with hA; exact hA.symm
  subst e
  have hE : ∀ W', KeepT 5 W W' → ∀ q, q ∈ rowK.E → KeepT q W W' := fun W' hk' q hq => by
    have e3 : q = 5 := by simpa [Kd.slice, Kd.int, Kd.scalar] using hq
    subst e3
    exact hk'
  obtain ⟨v1, rfl, hv1⟩ := (h1 W (hE W (KeepT.refl _ _))).1
  obtain ⟨A1, c1, rfl⟩ := Kd.R_slice hv1
  refine ⟨ad, A1, c1, hA, (Kd.R_reads' hv1).2.1, fun W' hk5 => ?_⟩
  obtain ⟨⟨v2, he, hv2⟩, h3⟩ := h1 W' (hE W' hk5)
  simp only [List.cons.injEq, and_true] at he
  subst he
  refine ⟨fun hk0 => ?_, (Kd.R_reads' hv2).2.2⟩
  have h4 := h3 hk0 0 _ rfl
  rwa [show rowK.sz = 1 from rfl, Nat.mul_one, Nat.add_zero] at h4
end Go.Proofs.Ytmghgghheebnjaa.Dis
namespace Go.Proofs.Ytmghgghheebnjaa.Dis
open Go.RowKit Go.Proofs.YtmghgghheebnjaaW.PrintWords Go.Proofs.YtmghgghheebnjaaW.PrintLast Go.Proofs.YtmghgghheebnjaaW.PrintMore Go.Maps Go.Proofs.Ytmghgghheebnjaa.PWalRecords
set_option linter.unusedVariables false
set_option linter.unusedSimpArgs false
/-- What an opening leaves. -/
structure ROpen (base g : Nat) (W w w' : World) (d : D) (r : Rf) (B gv : Nat) (s : Int) : Prop where
  rf : IsRf base w' g r
  sim : Sim d r B
  bel : Below base w w'
  keep : KeepR W w'
  ge : W.heap.size ≤ gv
  blk : w'.heap[gv]? = some (.cells #[.pointer (some ⟨g, 0, none⟩), .int .u64 s] 76 (0, 0))
/-- A row stays when a block of another kind turns. -/
theorem R_setT {α : Type} {d : Kd α} {e base gb t : Nat} {w : World} {v : Value} {xs : List α} {cs : Array Value} (h : d.R e w base tt v xs) (hg : w.heap[gb]? = some (.cells cs t (0, 0))) (ht : ∀ q, q ∈ e :: d.E → q ≠ t) (j : Nat) (u : Value) : d.R e (w.setCell ⟨gb, j, none⟩ u) base tt v xs :=
  R_kept h (fun k cs' q hq hc => by
    have hne : k ≠ gb := fun e2 => by
      subst e2
      rw [hg] at hc
      injection hc with hc
      injection hc with _ ht2 _
      exact ht q hq ht2.symm
    exact (Below.heap_setCell w ⟨gb, j, none⟩ u k hne).trans hc)
set_option maxHeartbeats 32000000 in
set_option maxRecDepth 100000 in
theorem ropen_c (base g : Nat) (d : D) (r : Rf) (B : Nat) (w W : World) (h : IsRf base W g r) (hs : Sim d r B) (hB : B ≤ 50000) (hlive : Live d) (hsin : d.since = []) (hn : 64 < d.n) (hn2 : d.n ≤ 4096) (hsec : ∀ i, Sec (d.fast i)) (hBl : Below base w W) (hbase : base ≤ w.heap.size) :
    Calls Try.prog 32 #[.pointer (some ⟨g, 0, none⟩)] W fun e w' => ∃ gv, e = .returned (.tuple #[.pointer (some ⟨gv, 0, none⟩), .int .i64 0]) ∧ ∃ r', ROpen base g W w w' (openD d).1 r' (B + 400) gv (seqTo d 64) := by
  obtain ⟨cs0, hblk, hn0⟩ := rf_blk h
  have HBLK := Aside0.mk hblk
  have hrn : r.n = d.n := hs.n.symm
  rw [hrn] at hn0
  have HH := Aside0.mk h
  have HS := Aside0.mk hs
  have HBB := Aside0.mk (And.intro hB hbase)
  have HBL := Aside0.mk hBl
  have HLV := Aside0.mk (And.intro hlive (And.intro hsin (And.intro hn (And.intro hn2 hsec))))
  have hgW : g < W.heap.size := blk_lt hblk
  have hbW : base ≤ W.heap.size := Nat.le_trans hbase hBl.size
  have HGW := Aside0.mk (And.intro hgW hbW)
  obtain ⟨dn, hdn⟩ : ∃ dn, dn = d.n := ⟨_, rfl⟩
  rw [← hdn] at hn0 hn hn2
  have HDN := Aside0.mk hdn
  have f0 : decide (dn < 65) = false := decide_eq_false (by omega)
  have INF := Aside0.mk info5
  have INF2 := Aside0.mk info56
  clear h hs hB hbase hBl hlive hsin hsec hgW hbW hblk hrn hdn hn2
  go_enter Try.func32, Try.ntmps32
  go_upto_region 3 with fail
  go_upto_region 4 with ((with_reducible refine gate_dst (N := 25) rfl ?_); refine Kd.R_lit rowK (w0 := w) base 56 ?hg (N := 25) ?hd (xs := ([] : List (List Int))) (inner := []) (ok := tt) (okp := tt) ?hr ?hp (fun _ hk => hk) trivial (HBL.out.trans (below_alloc (Below.refl _ _) _ |>.mono HGW.out.2)) (by first | exact Nat.le_trans HGW.out.2 (below_alloc (Below.refl _ _) _).size | (simp [World.alloc]; have := HGW.out.2; omega)) (by simp) ?_; (case hd => rfl); (case hg => rfl); (case hr => first | (go_simp; done) | (go_simp; rfl)); (case hp => exact (Reps.none _ _)); intro v4 w4 ho hb hg_ hnew_; have HO4 := Aside0.mk ho; have HB4 := Aside0.mk hb; have HG4 := Aside0.mk hg_; have HN4 := Aside0.mk hnew_; clear hb ho hg_ hnew_)
  obtain ⟨w3, hw3⟩ : ∃ w3, w3 = W.alloc (.cells #[.pointer (some ⟨g, 0, none⟩), .int .u64 0] 76) := ⟨_, rfl⟩
  obtain ⟨gv, hgv⟩ : ∃ gv, gv = W.heap.size := ⟨_, rfl⟩
  rw [← hw3] at HG4 HN4
  try rw [← hw3] at HB4 HO4
  have hb3 : Below W.heap.size W w3 := by rw [hw3]; exact below_alloc (Below.refl _ _) _
  have hq3 : w3.heap[gv]? = some (.cells #[.pointer (some ⟨g, 0, none⟩), .int .u64 0] 76 (0, 0)) := by rw [hw3, hgv]; exact blk_new W _
  have hq4 : w4.heap[gv]? = some (.cells #[.pointer (some ⟨g, 0, none⟩), .int .u64 0] 76 (0, 0)) := (HG4.out.block gv (blk_lt hq3) (by simp)).trans hq3
  have hk4 : KeepS W w4 g r r := (KeepS.below ⟨KeepR.refl W, StillR.refl W g r⟩ hb3).grow HGW.out.1 HG4.out (fun q e => by cases e)
  have hown : ∀ q, v4.ownBlock = some q → W.heap.size ≤ q := fun q hq => by
    obtain ⟨b, e, hb⟩ := HN4.out
    rw [e] at hq
    injection hq with hq
    have := hb3.size
    omega
  rw [← hgv]
  have HQ4 := Aside0.mk hq4
  have HK4 := Aside0.mk hk4
  have HOW := Aside0.mk hown
  have HGV := Aside0.mk (Nat.le_of_eq hgv.symm)
  clear hw3 hgv hb3 hq3 hq4 hk4 hown HG4 HN4
  go_wp2_with fail
  go_loopw [5, 6] (fun y x wr => ∃ (k : Nat) (rk : Rf), k ≤ 64 ∧ x = .int .i64 k ∧ Aside0 (KeepS W wr g r rk) ∧ Aside0 (Sim d rk (B + 2 * k)) ∧ Aside0 (Below base w wr) ∧ Aside0 (Kd.R rowK 56 wr base tt y ((List.range k).map (fun (i : Nat) => d.fast (i : Int)))) ∧ Aside0 (∀ q, y.ownBlock = some q → W.heap.size ≤ q) ∧ Aside0 (wr.heap[gv]? = some (.cells #[.pointer (some ⟨g, 0, none⟩), .int .u64 (seqTo d k)] 76 (0, 0)))) (fun _ x _ => 64 - (intOf x).toNat)
  case atStart => exact ⟨0, r, Nat.zero_le _, rfl, HK4, HS, HB4, HO4, HOW, HQ4⟩
  case round =>
    obtain ⟨k, rk, hk, rfl, HKk, HSk, HBk, HRk, HOk, HQk⟩ := hrel
    have HIk := Aside0.mk (HH.out.of_still HKk.out.2)
    obtain ⟨sk, hsk⟩ : ∃ sk, sk = seqTo d k := ⟨_, rfl⟩
    rw [← hsk] at HQk
    have HSK := Aside0.mk hsk
    by_cases hlt : k < 64
    · have g1 : decide ((k : Int) < 64) = true := decide_eq_true (by omega)
      obtain ⟨b, hb⟩ : ∃ b, b = d.fast (k : Int) := ⟨_, rfl⟩
      have hsec := HLV.out.2.2.2.2 (k : Int)
      rw [← hb] at hsec
      have hrd := (rd_live HLV.out.1 HLV.out.2.1 HLV.out.2.2.1 hlt).1
      have hsq1 : seqTo d (k + 1) = if sk < numB (b.take 8) then numB (b.take 8) else sk := by
        rw [hsk, hb, ← hrd]
        rfl
      have HSQ1 := Aside0.mk hsq1
      have hsr := sim_read HSk.out (k : Int)
      rw [readD_live HLV.out.1 HLV.out.2.1 (by omega) (by have := HLV.out.2.2.1; omega), ← hb] at hsr
      have hok := sim_ok HSk.out (by have := HBB.out.1; omega)
      have hc := rread2_calls base g rk (k : Int) w wr HIk.out HBk.out hok.1 hok.2.1 hok.2.2.1 hok.2.2.2.1 (sim_lens HSk.out (k : Int))
      rw [← hsr.2] at hc
      obtain ⟨r2, hr2⟩ : ∃ r2, r2 = (readR rk (k : Int)).1 := ⟨_, rfl⟩
      rw [← hr2] at hc hsr
      have HC := Aside0.mk hc
      have HS2 := Aside0.mk hsr.1
      have HBE := Aside0.mk hb
      have HSEC := Aside0.mk hsec
      have hnb := numB_bound ((show BytesOk b from hsec.2).take 8)
      rw [List.length_take, hsec.1, show (256 : Int) ^ (min 8 512) = 18446744073709551616 by decide] at hnb
      obtain ⟨nb, hnbe⟩ : ∃ nb, nb = numB (b.take 8) := ⟨_, rfl⟩
      rw [← hnbe] at HSQ1
      have HNBE := Aside0.mk hnbe
      obtain ⟨yA, yc, hy⟩ := Kd.R_slice HRk.out
      subst hy
      rw [List.length_map, List.length_range] at HRk HOk ⊢
      clear hok hc hsr hr2 hb hsec hrd hsq1 hnb hnbe hsk
      go_upto_region 10 with (go_at_call 58; refine HC.out.mono ?_; rintro e w8 ⟨v8, rfl, h1, h2, h3, h4⟩; have HK8 := Aside0.mk (HKk.out.trans h3); have HB8 := Aside0.mk h2; obtain ⟨cs8, hb8⟩ := rf_blk HIk.out; have HR8 := Aside0.mk (R_still HRk.out h3.2 hb8.1 (by intro q hq; simp [Kd.slice, Kd.int, Kd.scalar] at hq; omega)); have HQ8 := Aside0.mk (h3.1.cells HQk.out (by decide) (by decide) (by decide)); have HV8 := Aside0.mk (Kd.R_mono (ok' := fun q => ∃ cs, w8.heap[q]? = some (.cells cs 5 (0, 0))) (Kd.R_bound h4) (fun q hq => by obtain ⟨_, _, _, q2, hq2, cs, hcs⟩ := hq; have e2 : q2 = 5 := (by simpa [Kd.int, Kd.scalar] using hq2); subst e2; exact ⟨cs, hcs⟩)); have HV8b := Aside0.mk h4; obtain ⟨A8, c8, e8⟩ := Kd.R_slice h4; rw [show ((b, (0 : Int)).1).length = 512 from HSEC.out.1] at e8; subst e8; clear h1 h2 h3 h4 hb8)
      go_upto_region 11 with ((with_reducible refine gate_dst (N := 42) rfl ?_); at_builtin; refine Kd.R_append rowK (w0 := w) (W := w8) base rfl (.tmp 39) (.tmp 41) 24 56 (.slice none 0 0) 24 rfl Try.underlying24 INF2.out rfl (by decide) (by decide) (.slice yA k yc) ((List.range k).map (fun (i : Nat) => d.fast (i : Int))) b [.slice A8 512 c8] tt (fun q => ∃ cs, w8.heap[q]? = some (.cells cs 5 (0, 0))) rfl rfl ⟨_, rfl, HV8.out⟩ (fun q hq => ⟨trivial, fun e => by obtain ⟨cs, hcs⟩ := hq; obtain ⟨cs2, hc2⟩ := own_of HR8.out q e.symm; rw [hcs] at hc2; injection hc2 with hc2; injection hc2 with _ ht _; exact absurd ht (by decide)⟩) (fun _ _ => trivial) HR8.out HB8.out (Nat.le_trans HBB.out.2 HB8.out.size) ?hl ?_; (case hl => simp; omega); intro v9 w9 ho hb hG hat; have HO9 := Aside0.mk ho; have HB9 := Aside0.mk hb; have HG9 := Aside0.mk hG; have HA9 := Aside0.mk hat; clear ho hb hG hat)
      have HK9 := Aside0.mk (HK8.out.grow HGW.out.1 HG9.out HOk.out)
      have HOW9 := Aside0.mk (next_new HOk.out HK8.out.1.1 HA9.out)
      have HQ9 := Aside0.mk ((HG9.out.block gv (blk_lt HQ8.out) (Kd.R_ne HR8.out HQ8.out (by decide))).trans HQ8.out)
      have HC9 := Aside0.mk (show Kd.C byteK w9 A8 512 b from by
        have h := (Kd.R_reads' (R_kept HV8b.out (fun q cs t ht hc => (HG9.out.block q (blk_lt hc) (fun e => by
          obtain ⟨cs2, hc2⟩ := own_of HR8.out q e.symm
          rw [hc] at hc2
          injection hc2 with hc2
          injection hc2 with _ ht2 _
          have h5 : t = 5 := by simpa [Kd.int, Kd.scalar] using ht
          exact absurd (h5.symm.trans ht2) (by decide))).trans hc))).2.2
        rwa [show ((b, (0 : Int)).1).length = 512 from HSEC.out.1] at h)
      have hc8 : 512 ≤ c8 := by have h9 := (Kd.R_reads' HV8b.out).2.1; first | exact h9 | (rw [show ((b, (0 : Int)).1).length = 512 from HSEC.out.1] at h9; exact h9) | (have h10 := HSEC.out.1; simp only at h9; omega)
      have HNUM := Aside0.mk (numr_c (n := 8) (c := c8) (A := A8) (l := b.take 8) (by rw [List.length_take, HSEC.out.1]; rfl) (by rw [List.length_take]; omega) ((show BytesOk b from HSEC.out.2).take 8) (takeC HC9.out (by decide)) (by omega))
      rw [← HNBE.out] at HNUM
      clear HC HV8 HV8b HA9
      go_upto_region 12 with (first
        | ((with_reducible refine gate_dst (N := 44) rfl ?_); refine Kd.event_run rfl (ex_hi (m := 8) und56 size5' rfl rfl rfl (by omega)) ?_)
        | (go_at_call 41; refine HNUM.out.mono ?_; rintro e w10 ⟨rfl, h1⟩; have HB10 := Aside0.mk (HB9.out.trans (h1.mono (Nat.le_trans HBB.out.2 HB9.out.size))); have HK10 := Aside0.mk (KeepS.below HK9.out h1); have HO10 := Aside0.mk (Kd.R_below HO9.out h1); have HQ10 := Aside0.mk (blk_below HQ9.out h1); clear h1))
      have b1 : w10.cell? ⟨gv, 1, none⟩ = some (.int .u64 sk) := (blk_cell HQ10.out 1).trans rfl
      have b1f := blk_frozen HQ10.out 1
      by_cases hgt : sk < nb
      · have g2 : decide (sk < nb) = true := decide_eq_true hgt
        have hrow := R_setT HO10.out HQ10.out (by intro q hq; simp [Kd.slice, Kd.int, Kd.scalar] at hq; omega) 1 (.int .u64 nb)
        have hks := HK10.out.grow HGW.out.1 (set_grown w10 gv 1 (.int .u64 nb)) (fun q e => by cases e; exact HGV.out)
        have hbl := HB10.out.setCell (p := ⟨gv, 1, none⟩) (Nat.le_trans HGW.out.2 HGV.out) (.int .u64 nb)
        have hqq := blk_put HQ10.out 1 (.int .u64 nb) (rfl : _ = (#[.pointer (some ⟨g, 0, none⟩), .int .u64 nb] : Array Value))
        have HX := Aside0.mk (And.intro hrow (And.intro hks (And.intro hbl hqq)))
        clear hrow hks hbl hqq
        go_wp2_with fail
        go_roundw
        case rel => exact ⟨k + 1, r2, by omega, by go_num, ⟨HX.out.2.1⟩, ⟨HS2.out.up (by omega)⟩, ⟨HX.out.2.2.1⟩, ⟨by rw [List.range_succ, List.map_append, List.map_cons, List.map_nil, ← HBE.out]; exact HX.out.1⟩, HOW9, ⟨by rw [HSQ1.out, if_pos hgt]; exact HX.out.2.2.2⟩⟩
        case measure => simp [intOf]; omega
      · have g2 : decide (sk < nb) = false := decide_eq_false hgt
        go_wp2_with fail
        go_roundw
        case rel => exact ⟨k + 1, r2, by omega, by go_num, HK10, ⟨HS2.out.up (by omega)⟩, HB10, ⟨by rw [List.range_succ, List.map_append, List.map_cons, List.map_nil, ← HBE.out]; exact HO10.out⟩, HOW9, ⟨by rw [HSQ1.out, if_neg hgt]; exact HQ10.out⟩⟩
        case measure => simp [intOf]; omega
    · obtain rfl : k = 64 := by omega
      have g1 : decide (((64 : Nat) : Int) < 64) = false := by decide
      obtain ⟨L, hL⟩ : ∃ L, L = logF d.fast := ⟨_, rfl⟩
      have hLr : (List.range 64).map (fun (i : Nat) => d.fast (i : Int)) = L := hL.symm
      rw [hLr] at HRk
      have hLl : L.length = 64 := by rw [hL]; exact logF_len _
      have hLb : ∀ s ∈ L, BytesOk s := by
        intro s hs
        rw [hL] at hs
        unfold logF at hs
        obtain ⟨k, _, rfl⟩ := List.mem_map.1 hs
        exact (HLV.out.2.2.2.2 _).2
      obtain ⟨yA, yc, hy⟩ := Kd.R_slice HRk.out
      subst hy
      have hC := (Kd.R_reads' HRk.out).2.2
      have hcap := (Kd.R_reads' HRk.out).2.1
      rw [hLl] at hC hcap ⊢
      have HSCN := Aside0.mk (scan_ref wr yA 64 yc L hC hcap (by decide) hLb)
      have HLB := Aside0.mk hLb
      have HLE := Aside0.mk hL
      clear hC hcap hLb hL hLr hLl HRk HOk
      go_upto_region 15 with (go_at_call 12; refine HSCN.out.mono ?_; rintro e w12 ⟨sq, out, ok, v12, rfl, h1, h2, h3⟩; have HSR := Aside0.mk (scanR_out h1); have HR12 := Aside0.mk (Kd.R_lower h2 (Nat.le_trans HGW.out.2 HKk.out.1.1)); have HB12 := Aside0.mk (HBk.out.trans (h3.mono (Nat.le_trans HBB.out.2 HBk.out.size))); have HI12 := Aside0.mk (HIk.out.below h3); have HK12 := Aside0.mk (HKk.out.1.trans (KeepR.of_below h3)); have HQ12 := Aside0.mk (blk_below HQk.out h3); clear h1 h2 h3)
      have HOP := Aside0.mk (openD_live HLV.out.1 HLV.out.2.1 HLV.out.2.2.1)
      cases ok with
      | false =>
        have ho := HSR.out.2 rfl
        have HO := Aside0.mk (show (openD d).1 = d from by
          rw [HOP.out]
          have h2 : pagesOf (logF d.fast) = [] := by rw [← HLE.out, ← HSR.out.1]; exact ho
          rw [h2]
          rfl)
        clear ho
        go_wp2
        go_ret2
        exact ⟨gv, rfl, rk, HI12.out, by rw [HO.out]; exact HSk.out.up (by omega), HB12.out, HK12.out, HGV.out, by rw [HSK.out] at HQ12; exact HQ12.out⟩
      | true =>
        obtain ⟨M, hM⟩ : ∃ M, M = out.length := ⟨_, rfl⟩
        obtain ⟨Ao, co, hv, _, hpg⟩ := pgB_of_R HR12.out
        subst hv
        rw [← hM] at hpg ⊢
        have HPG := Aside0.mk hpg
        clear hpg HR12
        have HMM := Aside0.mk hM
        have hpo : ∀ p ∈ out, BytesOk p.f1 ∧ 0 ≤ p.f0 ∧ p.f0 ≤ 2147483647 ∧ p.f1.length = 512 := by rw [HSR.out.1]; exact pagesOf_ok HLB.out
        have HPO := Aside0.mk hpo
        have hM64 : M ≤ 64 := by
          rw [hM, HSR.out.1]
          unfold pagesOf
          split
          · rename_i hh
            unfold outS
            rw [List.length_map, List.length_range]
            exact hh.m64
          · simp
        have HF := Aside0.mk (show (openD d).1 = (writesD d (thereF dn out M)).1 from by
          rw [HOP.out]
          unfold thereF
          rw [List.take_of_length_le (by omega), HSR.out.1, HLE.out, HDN.out])
        have HFT := Aside0.mk (show ∀ i, ∀ p ∈ thereF dn out i, thereB d.n p.f0 = true ∧ p.f1.length = 512 from fun i p hp => by
          unfold thereF at hp
          have h1 := List.mem_filter.1 hp
          exact ⟨by rw [← HDN.out]; exact h1.2, (HPO.out p (List.mem_of_mem_take h1.1)).2.2.2⟩)
        clear hM hpo
        go_wp2_with fail
        have HSN := Aside0.mk (HSk.out.up (show B + 2 * 64 ≤ B + 130 by omega))
        go_loopw [13, 14] (fun y x wr => ∃ (i : Nat) (ri : Rf), i ≤ M ∧ x = .int .i64 i ∧ y = .bool (!(thereF dn out i).isEmpty) ∧ Aside0 (IsRf base wr g ri) ∧ Aside0 (Sim (wrD d (pgW (thereF dn out i))).1 ri (B + 130 + 2 * i)) ∧ Aside0 (Below base w wr) ∧ Aside0 (KeepR W wr) ∧ Aside0 (wr.heap[gv]? = some (.cells #[.pointer (some ⟨g, 0, none⟩), .int .u64 sk] 76 (0, 0))) ∧ Aside0 (PgB wr Ao M out)) (fun _ x _ => M - (intOf x).toNat)
        case atStart => exact ⟨0, rk, Nat.zero_le _, rfl, rfl, HI12, HSN, HB12, HK12, HQ12, HPG⟩
        case round =>
          obtain ⟨i, ri, hi, rfl, rfl, HIi, HSi, HBi, HKi, HQi, HRi⟩ := hrel
          have hwl := wrD_live (pgW (thereF dn out i)) d HLV.out.1 (fun x hx => by
            obtain ⟨p, hpm, rfl⟩ := List.mem_map.1 hx
            have h1 := HFT.out i p hpm
            have h2 := of_decide_eq_true h1.1
            exact ⟨by show 0 ≤ 64 + p.f0; omega, by show 64 + p.f0 < d.n; omega, h1.2⟩)
          have HWL := Aside0.mk hwl
          clear hwl
          by_cases hlt : i < M
          · have g3 : decide ((i : Int) < M) = true := decide_eq_true (by omega)
            obtain ⟨ad, B1, c1, hA, hle, hat⟩ := HRi.out.at_ i hlt
            subst hA
            have hmem : out.getD i z58 ∈ out := by rw [List.getD_eq_getElem?_getD, List.getElem?_eq_getElem (by rw [← HMM.out]; exact hlt)]; exact List.getElem_mem _
            have hpp := HPO.out _ hmem
            have hts := thereF_succ (n := dn) (l := out) (i := i) (by rw [← HMM.out]; exact hlt)
            obtain ⟨p, hp⟩ : ∃ p, p = out.getD i z58 := ⟨_, rfl⟩
            rw [← hp] at hle hat hpp hts
            obtain ⟨no, pb⟩ := p
            dsimp only at hle hat hpp hts
            obtain ⟨lb, hlb⟩ : ∃ lb, lb = pb.length := ⟨_, rfl⟩
            have HLB2 := Aside0.mk hlb
            have HPP := Aside0.mk hpp
            have HTS := Aside0.mk hts
            have hno : 0 ≤ no ∧ no ≤ 2147483647 := ⟨hpp.2.1, hpp.2.2.1⟩
            rw [← hlb] at hat
            have HAT := Aside0.mk (show ∀ W', Below wr.heap.size wr W' → W'.cell? (ad.add (i * 2)) = some (.int .i64 no) ∧ W'.cell? ⟨(ad.add (i * 2)).block, (ad.add (i * 2)).off + 1, none⟩ = some (.slice B1 lb c1) from fun W' hb => ⟨(hat W' ((KeepR.of_below hb).t (by decide) (by decide) (by decide)) ((KeepR.of_below hb).t (by decide) (by decide) (by decide))).1, (hat W' ((KeepR.of_below hb).t (by decide) (by decide) (by decide)) ((KeepR.of_below hb).t (by decide) (by decide) (by decide))).2.1⟩)
            have HCB := Aside0.mk (show ∀ W', KeepR wr W' → Kd.C byteK W' B1 pb.length pb from fun W' hk => by rw [← hlb]; exact (hat W' (hk.t (by decide) (by decide) (by decide)) (hk.t (by decide) (by decide) (by decide))).2.2)
            have hdnb : IntKind.i64.wrap (dn - 64) = dn - 64 := by rw [IntKind.wrap_i64]; have := HLV.out.2.2.2.1; have := HDN.out; omega
            have hn0i : wr.cell? ⟨g, 0, none⟩ = some (.int .i64 dn) := by
              obtain ⟨_, _, h2⟩ := rf_blk HIi.out
              rw [h2]
              have h3 := HSi.out.n
              rw [HWL.out] at h3
              rw [HDN.out, ← h3]
            have HN0 := Aside0.mk hn0i
            clear hmem hp hlb hpp hts hat hle hn0i
            go_upto_region 21 with fail
            have hdr : Below wr.heap.size wr wr.drew := below_drew (Below.refl _ _)
            refine start_ (n := 11) (S := fun w' => Below wr.heap.size wr w') (ds := []) #[false, false, false, false, false, false, false, false, false, false, false] (by kernel_rfl) rfl rfl hdr (fun hHeld => ?_)
            generalize wr.drew = wD at hdr hHeld ⊢
            refine pure_ (i := 0) (N := some 71) (v := ?_) (a' := ?_) #[true, false, false, false, false, false, false, false, false, false, false] rfl rfl (by kernel_rfl) (fun _ _ _ h => h) (Or.inl ⟨by rfl, ?_⟩) ?_ ?_
            rotate_left
            · intro w'
              go_simp
              with_reducible rfl
            rotate_left
            · simp only [Act.put, List.setIfInBounds_toArray, List.set_cons_zero, List.set_cons_succ]
              rfl
            refine pure_ (i := 1) (N := some 72) (v := ?_) (a' := ?_) #[true, true, false, false, false, false, false, false, false, false, false] rfl rfl (by kernel_rfl) (fun _ _ _ h => h) (Or.inl ⟨by rfl, ?_⟩) ?_ ?_
            rotate_left
            · intro w'
              go_simp
              with_reducible rfl
            rotate_left
            · simp only [Act.put, List.setIfInBounds_toArray, List.set_cons_zero, List.set_cons_succ]
              rfl
            refine pure_ (i := 2) (N := some 73) (v := .pointer (some (ad.add (i * 2)))) (a' := ?_) #[true, true, true, false, false, false, false, false, false, false, false] rfl rfl (by kernel_rfl) (fun _ _ _ h => h) (Or.inl ⟨by rfl, ?_⟩) ?_ ?_
            · intro w'
              first | (go_simp; done) | (go_simp; rw [if_pos (show i < M by omega)])
            rotate_left
            · simp only [Act.put, List.setIfInBounds_toArray, List.set_cons_zero, List.set_cons_succ]
              rfl
            refine pure_ (i := 3) (N := some 74) (v := ?_) (a' := ?_) #[true, true, true, true, false, false, false, false, false, false, false] rfl rfl (by kernel_rfl) (fun _ _ _ h => h) (Or.inl ⟨by rfl, ?_⟩) ?_ ?_
            rotate_left
            · intro w'
              go_simp
              with_reducible rfl
            rotate_left
            · simp only [Act.put, List.setIfInBounds_toArray, List.set_cons_zero, List.set_cons_succ]
              rfl
            refine take_ (i := 4) (N := some 75) (v := .int .i64 no) (a' := ?_) #[true, true, true, true, true, false, false, false, false, false, false] rfl rfl (by kernel_rfl) (fun _ _ _ h => h) (Or.inl ⟨by rfl, ?_⟩) hHeld ?_ ?_
            · intro w' s0
              have s1 := (HAT.out w' s0).1
              first | (go_simp; done) | (go_simp; with_reducible rfl)
            rotate_left
            · simp only [Act.put, List.setIfInBounds_toArray, List.set_cons_zero, List.set_cons_succ]
              rfl
            refine pure_ (i := 5) (N := some 76) (v := ?_) (a' := ?_) #[true, true, true, true, true, true, false, false, false, false, false] rfl rfl (by kernel_rfl) (fun _ _ _ h => h) (Or.inl ⟨by rfl, ?_⟩) ?_ ?_
            rotate_left
            · intro w'
              go_simp
              with_reducible rfl
            rotate_left
            · simp only [Act.put, List.setIfInBounds_toArray, List.set_cons_zero, List.set_cons_succ]
              rfl
            refine pure_ (i := 6) (N := some 77) (v := ?_) (a' := ?_) #[true, true, true, true, true, true, true, false, false, false, false] rfl rfl (by kernel_rfl) (fun _ _ _ h => h) (Or.inl ⟨by rfl, ?_⟩) ?_ ?_
            rotate_left
            · intro w'
              go_simp
              with_reducible rfl
            rotate_left
            · simp only [Act.put, List.setIfInBounds_toArray, List.set_cons_zero, List.set_cons_succ]
              rfl
            refine pure_ (i := 7) (N := some 78) (v := ?_) (a' := ?_) #[true, true, true, true, true, true, true, true, false, false, false] rfl rfl (by kernel_rfl) (fun _ _ _ h => h) (Or.inl ⟨by rfl, ?_⟩) ?_ ?_
            rotate_left
            · intro w'
              go_simp
              with_reducible rfl
            rotate_left
            · simp only [Act.put, List.setIfInBounds_toArray, List.set_cons_zero, List.set_cons_succ]
              rfl
            refine take_ (i := 8) (N := some 79) (v := .int .i64 dn) (a' := ?_) #[true, true, true, true, true, true, true, true, true, false, false] rfl rfl (by kernel_rfl) (fun _ _ _ h => h) (Or.inl ⟨by rfl, ?_⟩) hHeld ?_ ?_
            · intro w' s0
              have s1 := cell_ons HN0.out s0
              first | (go_simp; done) | (go_simp; with_reducible rfl)
            rotate_left
            · simp only [Act.put, List.setIfInBounds_toArray, List.set_cons_zero, List.set_cons_succ]
              rfl
            refine pure_ (i := 9) (N := some 80) (v := .int .i64 (dn - 64)) (a' := ?_) #[true, true, true, true, true, true, true, true, true, true, false] rfl rfl (by kernel_rfl) (fun _ _ _ h => h) (Or.inl ⟨by rfl, ?_⟩) ?_ ?_
            · intro w'
              first | (go_simp; done) | (go_simp; rw [hdnb])
            rotate_left
            · simp only [Act.put, List.setIfInBounds_toArray, List.set_cons_zero, List.set_cons_succ]
              rfl
            refine pure_ (i := 10) (N := some 81) (v := .bool (decide (no < dn - 64))) (a' := ?_) #[true, true, true, true, true, true, true, true, true, true, true] rfl rfl (by kernel_rfl) (fun _ _ _ h => h) (Or.inl ⟨by rfl, ?_⟩) ?_ ?_
            · intro w'
              first | (go_simp; done) | (go_simp; rfl)
            rotate_left
            · simp only [Act.put, List.setIfInBounds_toArray, List.set_cons_zero, List.set_cons_succ]
              rfl
            refine done_ (by kernel_rfl) ?_
            have HDa := Aside0.mk hHeld
            clear hHeld hdr hdnb
            by_cases hth : no < dn - 64
            · have g4 : decide (no < dn - 64) = true := decide_eq_true hth
              have hth2 : thereB dn no = true := decide_eq_true ⟨hno.1, hth⟩
              have hF1 : thereF dn out (i + 1) = thereF dn out i ++ [⟨no, pb⟩] := by rw [HTS.out, if_pos hth2]
              have hpgw : pgW (thereF dn out i ++ [(⟨no, pb⟩ : S58)]) = pgW (thereF dn out i) ++ [(64 + no, pb)] := by unfold pgW; rw [List.map_append]; rfl
              have hws := wrD_snoc (pgW (thereF dn out i)) d (64 + no, pb) (by rw [HWL.out])
              rw [← hpgw, ← hF1] at hws
              have hwl2 := wrD_live (pgW (thereF dn out (i + 1))) d HLV.out.1 (fun x hx => by
                obtain ⟨p, hpm, rfl⟩ := List.mem_map.1 hx
                have h1 := HFT.out (i + 1) p hpm
                have h2 := of_decide_eq_true h1.1
                exact ⟨by show 0 ≤ 64 + p.f0; omega, by show 64 + p.f0 < d.n; omega, h1.2⟩)
              have hsw := sim_write HSi.out (64 + no) pb HPP.out.1
              have hok := sim_ok HSi.out (by have := HBB.out.1; omega)
              have he0 : (writeR ri (64 + no) pb).2 = 0 := by rw [← hsw.2, ← hws, hwl2]
              rw [← hws] at hsw
              obtain ⟨r3, hr3⟩ : ∃ r3, r3 = (writeR ri (64 + no) pb).1 := ⟨_, rfl⟩
              have HWC := Aside0.mk (show ∀ wE, Below wr.heap.size wr wE → Calls Try.prog 59 #[.pointer (some ⟨g, 0, none⟩), .int .i64 (64 + no), .slice B1 lb c1] wE fun e w' => e = .returned (.int .i64 0) ∧ IsRfX gv base w' g r3 ∧ Below base w w' ∧ KeepX gv wE w' from fun wE hb => by
                have h := rwriteX_calls gv base g ri (64 + no) B1 c1 pb w wE (IsRfX.of_type (HIi.out.below hb) (blk_below HQi.out hb) (by decide) (by decide) (by decide)) (HBi.out.trans (hb.mono (Nat.le_trans HBB.out.2 HBi.out.size))) hok.1 (fun W' hk => HCB.out W' ((KeepR.of_below hb).trans hk)) hok.2.2.2.2
                rw [he0, ← hr3, ← HLB2.out] at h
                exact h)
              rw [← hr3] at hsw
              have HSW := Aside0.mk hsw.1
              have HF1 := Aside0.mk hF1
              have h64 : IntKind.i64.wrap (64 + no) = 64 + no := by rw [IntKind.wrap_i64]; omega
              clear hth2 hF1 hpgw hws hwl2 hsw hok he0 hr3
              go_upto_region 23 with fail
              have hdr : Below wr.heap.size wr wD.drew := HDa.out.trans (below_drew (Below.refl wr.heap.size wD))
              refine start_ (n := 14) (S := fun w' => Below wr.heap.size wr w') (ds := [12]) #[false, false, false, false, false, false, false, false, false, false, false, false, false, false] (by kernel_rfl) rfl rfl hdr (fun hHeld => ?_)
              have HDr := Aside0.mk hdr
              generalize wD.drew = wE at hdr hHeld HDr ⊢
              refine pure_ (i := 0) (N := some 82) (v := ?_) (a' := ?_) #[true, false, false, false, false, false, false, false, false, false, false, false, false, false] rfl rfl (by kernel_rfl) (fun _ _ _ h => h) (Or.inl ⟨by rfl, ?_⟩) ?_ ?_
              rotate_left
              · intro w'
                go_simp
                with_reducible rfl
              rotate_left
              · simp only [Act.put, List.setIfInBounds_toArray, List.set_cons_zero, List.set_cons_succ]
                rfl
              refine pure_ (i := 1) (N := some 83) (v := ?_) (a' := ?_) #[true, true, false, false, false, false, false, false, false, false, false, false, false, false] rfl rfl (by kernel_rfl) (fun _ _ _ h => h) (Or.inl ⟨by rfl, ?_⟩) ?_ ?_
              rotate_left
              · intro w'
                go_simp
                with_reducible rfl
              rotate_left
              · simp only [Act.put, List.setIfInBounds_toArray, List.set_cons_zero, List.set_cons_succ]
                rfl
              refine pure_ (i := 2) (N := some 84) (v := ?_) (a' := ?_) #[true, true, true, false, false, false, false, false, false, false, false, false, false, false] rfl rfl (by kernel_rfl) (fun _ _ _ h => h) (Or.inl ⟨by rfl, ?_⟩) ?_ ?_
              rotate_left
              · intro w'
                go_simp
                with_reducible rfl
              rotate_left
              · simp only [Act.put, List.setIfInBounds_toArray, List.set_cons_zero, List.set_cons_succ]
                rfl
              refine pure_ (i := 3) (N := some 85) (v := .pointer (some (ad.add (i * 2)))) (a' := ?_) #[true, true, true, true, false, false, false, false, false, false, false, false, false, false] rfl rfl (by kernel_rfl) (fun _ _ _ h => h) (Or.inl ⟨by rfl, ?_⟩) ?_ ?_
              · intro w'
                first | (go_simp; done) | (go_simp; rw [if_pos (show i < M by omega)])
              rotate_left
              · simp only [Act.put, List.setIfInBounds_toArray, List.set_cons_zero, List.set_cons_succ]
                rfl
              refine pure_ (i := 4) (N := some 86) (v := ?_) (a' := ?_) #[true, true, true, true, true, false, false, false, false, false, false, false, false, false] rfl rfl (by kernel_rfl) (fun _ _ _ h => h) (Or.inl ⟨by rfl, ?_⟩) ?_ ?_
              rotate_left
              · intro w'
                go_simp
                with_reducible rfl
              rotate_left
              · simp only [Act.put, List.setIfInBounds_toArray, List.set_cons_zero, List.set_cons_succ]
                rfl
              refine take_ (i := 5) (N := some 87) (v := .int .i64 no) (a' := ?_) #[true, true, true, true, true, true, false, false, false, false, false, false, false, false] rfl rfl (by kernel_rfl) (fun _ _ _ h => h) (Or.inl ⟨by rfl, ?_⟩) hHeld ?_ ?_
              · intro w' s0
                have s1 := (HAT.out w' s0).1
                first | (go_simp; done) | (go_simp; with_reducible rfl)
              rotate_left
              · simp only [Act.put, List.setIfInBounds_toArray, List.set_cons_zero, List.set_cons_succ]
                rfl
              refine pure_ (i := 6) (N := some 88) (v := .int .i64 (64 + no)) (a' := ?_) #[true, true, true, true, true, true, true, false, false, false, false, false, false, false] rfl rfl (by kernel_rfl) (fun _ _ _ h => h) (Or.inl ⟨by rfl, ?_⟩) ?_ ?_
              · intro w'
                first | (go_simp; done) | (go_simp; rw [h64])
              rotate_left
              · simp only [Act.put, List.setIfInBounds_toArray, List.set_cons_zero, List.set_cons_succ]
                rfl
              refine pure_ (i := 7) (N := some 89) (v := ?_) (a' := ?_) #[true, true, true, true, true, true, true, true, false, false, false, false, false, false] rfl rfl (by kernel_rfl) (fun _ _ _ h => h) (Or.inl ⟨by rfl, ?_⟩) ?_ ?_
              rotate_left
              · intro w'
                go_simp
                with_reducible rfl
              rotate_left
              · simp only [Act.put, List.setIfInBounds_toArray, List.set_cons_zero, List.set_cons_succ]
                rfl
              refine pure_ (i := 8) (N := some 90) (v := ?_) (a' := ?_) #[true, true, true, true, true, true, true, true, true, false, false, false, false, false] rfl rfl (by kernel_rfl) (fun _ _ _ h => h) (Or.inl ⟨by rfl, ?_⟩) ?_ ?_
              rotate_left
              · intro w'
                go_simp
                with_reducible rfl
              rotate_left
              · simp only [Act.put, List.setIfInBounds_toArray, List.set_cons_zero, List.set_cons_succ]
                rfl
              refine pure_ (i := 9) (N := some 91) (v := .pointer (some (ad.add (i * 2)))) (a' := ?_) #[true, true, true, true, true, true, true, true, true, true, false, false, false, false] rfl rfl (by kernel_rfl) (fun _ _ _ h => h) (Or.inl ⟨by rfl, ?_⟩) ?_ ?_
              · intro w'
                first | (go_simp; done) | (go_simp; rw [if_pos (show i < M by omega)])
              rotate_left
              · simp only [Act.put, List.setIfInBounds_toArray, List.set_cons_zero, List.set_cons_succ]
                rfl
              refine pure_ (i := 10) (N := some 92) (v := ?_) (a' := ?_) #[true, true, true, true, true, true, true, true, true, true, true, false, false, false] rfl rfl (by kernel_rfl) (fun _ _ _ h => h) (Or.inl ⟨by rfl, ?_⟩) ?_ ?_
              rotate_left
              · intro w'
                go_simp
                with_reducible rfl
              rotate_left
              · simp only [Act.put, List.setIfInBounds_toArray, List.set_cons_zero, List.set_cons_succ]
                rfl
              refine take_ (i := 11) (N := some 93) (v := .slice B1 lb c1) (a' := ?_) #[true, true, true, true, true, true, true, true, true, true, true, true, false, false] rfl rfl (by kernel_rfl) (fun _ _ _ h => h) (Or.inl ⟨by rfl, ?_⟩) hHeld ?_ ?_
              · intro w' s0
                have s1 := (HAT.out w' s0).2
                first | (go_simp; done) | (go_simp; with_reducible rfl)
              rotate_left
              · simp only [Act.put, List.setIfInBounds_toArray, List.set_cons_zero, List.set_cons_succ]
                rfl
              refine last_ (i := 12) (N := some 94) #[true, true, true, true, true, true, true, true, true, true, true, true, true, false] rfl rfl (by kernel_rfl) (by decide) (fun K hK => ?_)
              refine goes_ Try.func59 (by kernel_rfl) rfl #[.pointer (some ⟨g, 0, none⟩), .int .i64 (64 + no), .slice B1 lb c1] (by rfl) rfl rfl (by (try simp only [List.map_toArray, List.map_cons, List.map_nil]); first | done | rfl) ?_
              refine (HWC.out wE HDr.out).mono ?_
              rintro e w15 ⟨rfl, h1, h2, h3⟩
              have HI15 := Aside0.mk h1.rf
              have HB15 := Aside0.mk h2
              have HK15 := Aside0.mk (HKi.out.trans ((KeepR.of_below HDr.out).trans h3.1))
              have HQ15 := Aside0.mk (h3.1.cells (blk_below HQi.out HDr.out) (by decide) (by decide) (by decide))
              have HR15 := Aside0.mk (HRi.out.keep (((KeepR.of_below HDr.out).trans h3.1).t (by decide) (by decide) (by decide)) (((KeepR.of_below HDr.out).trans h3.1).t (by decide) (by decide) (by decide)))
              clear h1 h2 h3
              refine ⟨_, rfl, ?_⟩
              refine hK.out _ _ ?_
              clear hK K hHeld hdr h64
              refine pure_ (i := 13) (N := some 15) (v := ?_) (a' := ?_) #[true, true, true, true, true, true, true, true, true, true, true, true, true, true] rfl rfl (by kernel_rfl) (fun _ _ _ h => h) (Or.inl ⟨by rfl, ?_⟩) ?_ ?_
              rotate_left
              · intro w'
                go_simp
                with_reducible rfl
              rotate_left
              · simp only [Act.put, List.setIfInBounds_toArray, List.set_cons_zero, List.set_cons_succ]
                rfl
              refine done_ (by kernel_rfl) ?_
              have hne : (!(thereF dn out (i + 1)).isEmpty) = true := by rw [HF1.out]; cases thereF dn out i <;> rfl
              go_wp2
              go_roundw
              case rel => exact ⟨i + 1, r3, by omega, by go_num, by rw [hne], HI15, ⟨HSW.out.up (by omega)⟩, HB15, HK15, HQ15, HR15⟩
              case measure => simp [intOf]; omega
            · have g4 : decide (no < dn - 64) = false := decide_eq_false hth
              have hth2 : ¬ thereB dn no = true := fun h => hth (of_decide_eq_true h).2
              have hF1 : thereF dn out (i + 1) = thereF dn out i := by rw [HTS.out, if_neg hth2]
              have HF1 := Aside0.mk hF1
              have HR15 := Aside0.mk (HRi.out.keep ((KeepR.of_below HDa.out).t (by decide) (by decide) (by decide)) ((KeepR.of_below HDa.out).t (by decide) (by decide) (by decide)))
              clear hth2 hF1
              go_wp2
              go_roundw
              case rel => exact ⟨i + 1, ri, by omega, by go_num, by rw [HF1.out], ⟨HIi.out.below HDa.out⟩, ⟨by rw [HF1.out]; exact HSi.out.up (by omega)⟩, ⟨HBi.out.trans (HDa.out.mono (Nat.le_trans HBB.out.2 HBi.out.size))⟩, ⟨HKi.out.trans (KeepR.of_below HDa.out)⟩, ⟨blk_below HQi.out HDa.out⟩, HR15⟩
              case measure => simp [intOf]; omega
          · obtain rfl : i = M := by omega
            have g3 : decide ((i : Int) < i) = false := decide_eq_false (by omega)
            by_cases hF : thereF dn out i = []
            · rw [hF]
              have HE := Aside0.mk (show (openD d).1 = (wrD d (pgW (thereF dn out i))).1 from by rw [HF.out, hF]; rfl)
              clear hF
              go_wp2
              go_ret2
              exact ⟨gv, rfl, ri, HIi.out, by rw [HE.out]; exact HSi.out.up (by omega), HBi.out, HKi.out, HGV.out, by rw [HSK.out] at HQi; exact HQi.out⟩
            · have hb : (!(thereF dn out i).isEmpty) = true := by
                cases hq : thereF dn out i with
                | nil => exact absurd hq hF
                | cons _ _ => rfl
              have hlen : ¬ (thereF dn out i).length = 0 := fun e => hF (List.eq_nil_of_length_eq_zero e)
              have hfl := sim_flush HSi.out
              have hd0 : (flushD (wrD d (pgW (thereF dn out i))).1).2 = 0 := by
                rw [HWL.out]
                exact congrArg Prod.snd (flushD_live (d := { d with since := d.since ++ pgW (thereF dn out i), cnt := d.cnt + (pgW (thereF dn out i)).length }) HLV.out.1)
              have HE := Aside0.mk (show (openD d).1 = (flushD (wrD d (pgW (thereF dn out i))).1).1 from by
                rw [HF.out]
                unfold writesD
                rw [if_pos (by rw [HWL.out]), if_neg hlen])
              have hok := sim_ok HSi.out (by have := HBB.out.1; omega)
              have hc := rflush_calls base g ri w wr HIi.out HBi.out hok.1 hok.2.1 hok.2.2.1 hok.2.2.2.1
              rw [← hfl.2, hd0] at hc
              have HCF := Aside0.mk hc
              have HSF := Aside0.mk hfl.1
              rw [hb]
              clear hok hc hfl hd0 hlen hF hb
              go_wp2_with (go_at_call 60; refine HCF.out.mono ?_; rintro e w20 ⟨rfl, h1, h2, h3⟩; have HI20 := Aside0.mk h1; have HB20 := Aside0.mk h2; have HK20 := Aside0.mk (HKi.out.trans h3); have HQ20 := Aside0.mk (h3.cells HQi.out (by decide) (by decide) (by decide)); clear h1 h2 h3)
              go_ret2
              exact ⟨gv, rfl, _, HI20.out, by rw [HE.out]; exact HSF.out.up (by omega), HB20.out, HK20.out, HGV.out, by rw [HSK.out] at HQ20; exact HQ20.out⟩
end Go.Proofs.Ytmghgghheebnjaa.Dis
namespace Go.Proofs.Ytmghgghheebnjaa.Dis
open Go.RowKit Go.Proofs.YtmghgghheebnjaaW.PrintWords Go.Proofs.YtmghgghheebnjaaW.PrintLast Go.Proofs.YtmghgghheebnjaaW.PrintMore Go.Maps Go.Proofs.Ytmghgghheebnjaa.PWalRecords
set_option linter.unusedVariables false
set_option linter.unusedSimpArgs false
theorem commitD_eq {d : D} {s : Int} {l : List S58} (hp : ∀ p ∈ l, thereB d.n p.f0 = true ∧ p.f1.length = 512 ∧ BytesOk p.f1) (hl : l.length ≠ 0) (hs : s ≠ 18446744073709551615) (he : recE (s + 1) l = 0) :
    commitD d s l = if (wrD d (enumW 0 (recS (s + 1) l))).2 ≠ 0 then ((wrD d (enumW 0 (recS (s + 1) l))).1, s, (wrD d (enumW 0 (recS (s + 1) l))).2)
      else if (flushD (wrD d (enumW 0 (recS (s + 1) l))).1).2 ≠ 0 then ((flushD (wrD d (enumW 0 (recS (s + 1) l))).1).1, s, (flushD (wrD d (enumW 0 (recS (s + 1) l))).1).2)
      else ((writesD (flushD (wrD d (enumW 0 (recS (s + 1) l))).1).1 l).1, s + 1, (writesD (flushD (wrD d (enumW 0 (recS (s + 1) l))).1).1 l).2) := by
  have hany : l.any (badW d.n) = false := by
    rw [List.any_eq_false]
    intro p hpm
    have h2 := hp p hpm
    unfold badW
    rw [h2.1, h2.2.1]
    decide
  unfold commitD
  rw [hany, if_neg (by decide), if_neg hl, if_neg hs, if_neg (fun h => h he)]
theorem commitD_no {d : D} {s : Int} {l : List S58} (hp : ∀ p ∈ l, thereB d.n p.f0 = true ∧ p.f1.length = 512 ∧ BytesOk p.f1) : (l.length = 0 → commitD d s l = (d, s, 0)) ∧ (l.length ≠ 0 → s = 18446744073709551615 → commitD d s l = (d, s, 8)) ∧ (l.length ≠ 0 → s ≠ 18446744073709551615 → recE (s + 1) l ≠ 0 → commitD d s l = (d, s, recE (s + 1) l)) := by
  have hany : l.any (badW d.n) = false := by
    rw [List.any_eq_false]
    intro p hpm
    have h2 := hp p hpm
    unfold badW
    rw [h2.1, h2.2.1]
    decide
  unfold commitD
  rw [hany, if_neg (by decide)]
  exact ⟨fun h => by rw [if_pos h], fun h1 h2 => by rw [if_neg h1, if_pos h2], fun h1 h2 h3 => by rw [if_neg h1, if_neg h2, if_pos h3]⟩
/-- What stays while a document's disk, and a log's own block, turn. -/
def KeepG (gv : Nat) (w w' : World) : Prop := w.heap.size ≤ w'.heap.size ∧ ∀ (i : Nat) (o : Obj), w.heap[i]? = some o → i ≠ gv → (∀ cs t fr, o = Obj.cells cs t fr → t ≠ 98 ∧ t ≠ 3 ∧ t ≠ 56) → w'.heap[i]? = some o
theorem KeepR.g {gv : Nat} {w w' : World} (h : KeepR w w') : KeepG gv w w' := ⟨h.1, fun i o hi _ ho => h.2 i o hi ho⟩
theorem KeepG.trans {gv : Nat} {a b c : World} (h : KeepG gv a b) (k : KeepR b c) : KeepG gv a c := ⟨Nat.le_trans h.1 k.1, fun i o hi hg ho => k.2 i o (h.2 i o hi hg ho) ho⟩
/-- What a commit leaves. -/
structure RCom (base g : Nat) (W w w' : World) (d : D) (r : Rf) (B gv : Nat) (s : Int) : Prop where
  rf : IsRf base w' g r
  sim : Sim d r B
  bel : Below base w w'
  keep : KeepG gv W w'
  blk : w'.heap[gv]? = some (.cells #[.pointer (some ⟨g, 0, none⟩), .int .u64 s] 76 (0, 0))
set_option maxHeartbeats 64000000 in
set_option maxRecDepth 100000 in
theorem rcommit_c (base g gv : Nat) (d : D) (r : Rf) (B : Nat) (s : Int) (l : List S58) (A : Option Addr) (n c : Nat) (w W : World) (h : IsRf base W g r) (hs : Sim d r B) (hB : B ≤ 50000) (hq : W.heap[gv]? = some (.cells #[.pointer (some ⟨g, 0, none⟩), .int .u64 s] 76 (0, 0))) (hgv : base ≤ gv) (hpg : PgB W A n l) (hC : Kd.C k58 W A n l) (hc : n ≤ c) (hn : n ≤ 100) (hp : ∀ p ∈ l, thereB d.n p.f0 = true ∧ p.f1.length = 512 ∧ BytesOk p.f1) (hs0 : 0 ≤ s) (hs1 : s < 18446744073709551616) (hdn : 64 < d.n) (hdn2 : d.n ≤ 4096) (hBl : Below base w W) (hbase : base ≤ w.heap.size) :
    Calls Try.prog 35 #[.pointer (some ⟨gv, 0, none⟩), .slice A n c] W fun e w' => e = .returned (.int .i64 (commitD d s l).2.2) ∧ ∃ r', RCom base g W w w' (commitD d s l).1 r' (B + 400) gv (commitD d s l).2.1 := by
  have HH := Aside0.mk h
  have HS := Aside0.mk hs
  have HBB := Aside0.mk (And.intro hB hbase)
  have HBL := Aside0.mk hBl
  have HQ := Aside0.mk hq
  have HGV := Aside0.mk hgv
  have HPG := Aside0.mk hpg
  have HC := Aside0.mk (And.intro hC (And.intro hc hn))
  have HP := Aside0.mk hp
  have HSS := Aside0.mk (And.intro hs0 hs1)
  have hln : l.length = n := hpg.len
  have HLN := Aside0.mk hln
  obtain ⟨R0, hR0⟩ : ∃ R0, R0 = commitD d s l := ⟨_, rfl⟩
  rw [← hR0]
  have HR0 := Aside0.mk hR0
  have b0 : W.cell? ⟨gv, 0, none⟩ = some (.pointer (some ⟨g, 0, none⟩)) := (blk_cell hq 0).trans rfl
  have b1 : W.cell? ⟨gv, 1, none⟩ = some (.int .u64 s) := (blk_cell hq 1).trans rfl
  obtain ⟨dn, hd⟩ : ∃ dn, dn = d.n := ⟨_, rfl⟩
  have HDN := Aside0.mk (show dn = d.n ∧ 64 < dn ∧ dn ≤ 4096 from ⟨hd, by omega, by omega⟩)
  have hdb : IntKind.i64.wrap (dn - 64) = dn - 64 := by rw [IntKind.wrap_i64]; omega
  have cn : W.cell? ⟨g, 0, none⟩ = some (.int .i64 dn) := by
    obtain ⟨_, _, h2⟩ := rf_blk h
    rw [h2, hd, hs.n]
  have HB0 := Aside0.mk b0
  have HB1 := Aside0.mk b1
  have HCN := Aside0.mk cn
  clear h hs hB hbase hBl hq hgv hpg hC hc hp hs0 hs1 hdn hdn2 hR0 hd b0 b1 cn hln
  go_enter Try.func35, Try.ntmps35
  go_wp2_with fail
  go_loopw [5] (fun x wr => ∃ (k : Nat), k ≤ n ∧ x = .int .i64 k ∧ Aside0 (Below W.heap.size W wr)) (fun x _ => n - (intOf x).toNat)
  case atStart => exact ⟨0, Nat.zero_le _, rfl, ⟨Below.refl _ _⟩⟩
  case round =>
    obtain ⟨k, hk, rfl, HBk⟩ := hrel
    by_cases hlt : k < n
    · have g1 : decide ((k : Int) < n) = true := decide_eq_true (by omega)
      obtain ⟨ad, B1, c1, hA, hle, hat⟩ := HPG.out.at_ k hlt
      subst hA
      have hmem : l.getD k z58 ∈ l := by rw [List.getD_eq_getElem?_getD, List.getElem?_eq_getElem (by rw [HLN.out]; exact hlt)]; exact List.getElem_mem _
      have hpp := HP.out _ hmem
      obtain ⟨p, hp⟩ : ∃ p, p = l.getD k z58 := ⟨_, rfl⟩
      rw [← hp] at hle hat hpp
      obtain ⟨no, pb⟩ := p
      dsimp only at hle hat hpp
      have hno := of_decide_eq_true hpp.1
      rw [hpp.2.1] at hat
      have HAT := Aside0.mk (show ∀ W', Below W.heap.size W W' → W'.cell? (ad.add (k * 2)) = some (.int .i64 no) ∧ W'.cell? ⟨(ad.add (k * 2)).block, (ad.add (k * 2)).off + 1, none⟩ = some (.slice B1 512 c1) from fun W' hb => by
        have h := hat W' ((KeepR.of_below hb).t (by decide) (by decide) (by decide)) ((KeepR.of_below hb).t (by decide) (by decide) (by decide))
        exact ⟨h.1, h.2.1⟩)
      have z1 : decide (no < 0) = false := decide_eq_false (by omega)
      have z2 : decide (dn - 64 ≤ no) = false := decide_eq_false (by have := HDN.out.1; omega)
      clear hmem hp hpp hat hle hno
      go_upto_region 4 with fail
      have hdr : Below W.heap.size W wr.drew := HBk.out.trans ((below_drew (Below.refl wr.heap.size wr)).mono HBk.out.size)
      refine start_ (n := 31) (S := fun w' => Below W.heap.size W w') (ds := []) #[false, false, false, false, false, false, false, false, false, false, false, false, false, false, false, false, false, false, false, false, false, false, false, false, false, false, false, false, false, false, false] (by kernel_rfl) rfl rfl hdr (fun hHeld => ?_)
      generalize wr.drew = wD at hdr hHeld ⊢
      refine pure_ (i := 0) (N := some 19) (v := ?_) (a' := ?_) #[true, false, false, false, false, false, false, false, false, false, false, false, false, false, false, false, false, false, false, false, false, false, false, false, false, false, false, false, false, false, false] rfl rfl (by kernel_rfl) (fun _ _ _ h => h) (Or.inl ⟨by rfl, ?_⟩) ?_ ?_
      rotate_left
      · intro w'
        go_simp
        with_reducible rfl
      rotate_left
      · simp only [Act.put, List.setIfInBounds_toArray, List.set_cons_zero, List.set_cons_succ]
        rfl
      refine pure_ (i := 1) (N := some 20) (v := ?_) (a' := ?_) #[true, true, false, false, false, false, false, false, false, false, false, false, false, false, false, false, false, false, false, false, false, false, false, false, false, false, false, false, false, false, false] rfl rfl (by kernel_rfl) (fun _ _ _ h => h) (Or.inl ⟨by rfl, ?_⟩) ?_ ?_
      rotate_left
      · intro w'
        go_simp
        with_reducible rfl
      rotate_left
      · simp only [Act.put, List.setIfInBounds_toArray, List.set_cons_zero, List.set_cons_succ]
        rfl
      refine pure_ (i := 2) (N := some 21) (v := .pointer (some (ad.add (k * 2)))) (a' := ?_) #[true, true, true, false, false, false, false, false, false, false, false, false, false, false, false, false, false, false, false, false, false, false, false, false, false, false, false, false, false, false, false] rfl rfl (by kernel_rfl) (fun _ _ _ h => h) (Or.inl ⟨by rfl, ?_⟩) ?_ ?_
      · intro w'
        first | (go_simp; done) | (go_simp; rw [if_pos (show k < n by omega)])
      rotate_left
      · simp only [Act.put, List.setIfInBounds_toArray, List.set_cons_zero, List.set_cons_succ]
        rfl
      refine pure_ (i := 3) (N := some 22) (v := ?_) (a' := ?_) #[true, true, true, true, false, false, false, false, false, false, false, false, false, false, false, false, false, false, false, false, false, false, false, false, false, false, false, false, false, false, false] rfl rfl (by kernel_rfl) (fun _ _ _ h => h) (Or.inl ⟨by rfl, ?_⟩) ?_ ?_
      rotate_left
      · intro w'
        go_simp
        with_reducible rfl
      rotate_left
      · simp only [Act.put, List.setIfInBounds_toArray, List.set_cons_zero, List.set_cons_succ]
        rfl
      refine take_ (i := 4) (N := some 23) (v := .int .i64 no) (a' := ?_) #[true, true, true, true, true, false, false, false, false, false, false, false, false, false, false, false, false, false, false, false, false, false, false, false, false, false, false, false, false, false, false] rfl rfl (by kernel_rfl) (fun _ _ _ h => h) (Or.inl ⟨by rfl, ?_⟩) hHeld ?_ ?_
      · intro w' s0
        have s1 := (HAT.out w' s0).1
        first | (go_simp; done) | (go_simp; with_reducible rfl)
      rotate_left
      · simp only [Act.put, List.setIfInBounds_toArray, List.set_cons_zero, List.set_cons_succ]
        rfl
      refine pure_ (i := 5) (N := some 24) (v := .bool false) (a' := ?_) #[true, true, true, true, true, true, false, false, false, false, false, false, false, false, false, false, false, false, false, false, false, false, false, false, false, false, false, false, false, false, false] rfl rfl (by kernel_rfl) (fun _ _ _ h => h) (Or.inl ⟨by rfl, ?_⟩) ?_ ?_
      · intro w'
        first | (go_simp; done) | (go_simp; rw [z1])
      rotate_left
      · simp only [Act.put, List.setIfInBounds_toArray, List.set_cons_zero, List.set_cons_succ]
        rfl
      refine pure_ (i := 6) (N := some 25) (v := ?_) (a' := ?_) #[true, true, true, true, true, true, true, false, false, false, false, false, false, false, false, false, false, false, false, false, false, false, false, false, false, false, false, false, false, false, false] rfl rfl (by kernel_rfl) (fun _ _ _ h => h) (Or.inl ⟨by rfl, ?_⟩) ?_ ?_
      rotate_left
      · intro w'
        go_simp
        with_reducible rfl
      rotate_left
      · simp only [Act.put, List.setIfInBounds_toArray, List.set_cons_zero, List.set_cons_succ]
        rfl
      refine pure_ (i := 7) (N := some 26) (v := ?_) (a' := ?_) #[true, true, true, true, true, true, true, true, false, false, false, false, false, false, false, false, false, false, false, false, false, false, false, false, false, false, false, false, false, false, false] rfl rfl (by kernel_rfl) (fun _ _ _ h => h) (Or.inl ⟨by rfl, ?_⟩) ?_ ?_
      rotate_left
      · intro w'
        go_simp
        with_reducible rfl
      rotate_left
      · simp only [Act.put, List.setIfInBounds_toArray, List.set_cons_zero, List.set_cons_succ]
        rfl
      refine pure_ (i := 8) (N := some 27) (v := ?_) (a' := ?_) #[true, true, true, true, true, true, true, true, true, false, false, false, false, false, false, false, false, false, false, false, false, false, false, false, false, false, false, false, false, false, false] rfl rfl (by kernel_rfl) (fun _ _ _ h => h) (Or.inl ⟨by rfl, ?_⟩) ?_ ?_
      rotate_left
      · intro w'
        go_simp
        with_reducible rfl
      rotate_left
      · simp only [Act.put, List.setIfInBounds_toArray, List.set_cons_zero, List.set_cons_succ]
        rfl
      refine pure_ (i := 9) (N := some 28) (v := .pointer (some (ad.add (k * 2)))) (a' := ?_) #[true, true, true, true, true, true, true, true, true, true, false, false, false, false, false, false, false, false, false, false, false, false, false, false, false, false, false, false, false, false, false] rfl rfl (by kernel_rfl) (fun _ _ _ h => h) (Or.inl ⟨by rfl, ?_⟩) ?_ ?_
      · intro w'
        first | (go_simp; done) | (go_simp; rw [if_pos (show k < n by omega)])
      rotate_left
      · simp only [Act.put, List.setIfInBounds_toArray, List.set_cons_zero, List.set_cons_succ]
        rfl
      refine pure_ (i := 10) (N := some 29) (v := ?_) (a' := ?_) #[true, true, true, true, true, true, true, true, true, true, true, false, false, false, false, false, false, false, false, false, false, false, false, false, false, false, false, false, false, false, false] rfl rfl (by kernel_rfl) (fun _ _ _ h => h) (Or.inl ⟨by rfl, ?_⟩) ?_ ?_
      rotate_left
      · intro w'
        go_simp
        with_reducible rfl
      rotate_left
      · simp only [Act.put, List.setIfInBounds_toArray, List.set_cons_zero, List.set_cons_succ]
        rfl
      refine take_ (i := 11) (N := some 30) (v := .int .i64 no) (a' := ?_) #[true, true, true, true, true, true, true, true, true, true, true, true, false, false, false, false, false, false, false, false, false, false, false, false, false, false, false, false, false, false, false] rfl rfl (by kernel_rfl) (fun _ _ _ h => h) (Or.inl ⟨by rfl, ?_⟩) hHeld ?_ ?_
      · intro w' s0
        have s1 := (HAT.out w' s0).1
        first | (go_simp; done) | (go_simp; with_reducible rfl)
      rotate_left
      · simp only [Act.put, List.setIfInBounds_toArray, List.set_cons_zero, List.set_cons_succ]
        rfl
      refine pure_ (i := 12) (N := some 31) (v := ?_) (a' := ?_) #[true, true, true, true, true, true, true, true, true, true, true, true, true, false, false, false, false, false, false, false, false, false, false, false, false, false, false, false, false, false, false] rfl rfl (by kernel_rfl) (fun _ _ _ h => h) (Or.inl ⟨by rfl, ?_⟩) ?_ ?_
      rotate_left
      · intro w'
        go_simp
        with_reducible rfl
      rotate_left
      · simp only [Act.put, List.setIfInBounds_toArray, List.set_cons_zero, List.set_cons_succ]
        rfl
      refine pure_ (i := 13) (N := some 32) (v := ?_) (a' := ?_) #[true, true, true, true, true, true, true, true, true, true, true, true, true, true, false, false, false, false, false, false, false, false, false, false, false, false, false, false, false, false, false] rfl rfl (by kernel_rfl) (fun _ _ _ h => h) (Or.inl ⟨by rfl, ?_⟩) ?_ ?_
      rotate_left
      · intro w'
        go_simp
        with_reducible rfl
      rotate_left
      · simp only [Act.put, List.setIfInBounds_toArray, List.set_cons_zero, List.set_cons_succ]
        rfl
      refine pure_ (i := 14) (N := some 33) (v := ?_) (a' := ?_) #[true, true, true, true, true, true, true, true, true, true, true, true, true, true, true, false, false, false, false, false, false, false, false, false, false, false, false, false, false, false, false] rfl rfl (by kernel_rfl) (fun _ _ _ h => h) (Or.inl ⟨by rfl, ?_⟩) ?_ ?_
      rotate_left
      · intro w'
        go_simp
        with_reducible rfl
      rotate_left
      · simp only [Act.put, List.setIfInBounds_toArray, List.set_cons_zero, List.set_cons_succ]
        rfl
      refine take_ (i := 15) (N := some 34) (v := .pointer (some ⟨g, 0, none⟩)) (a' := ?_) #[true, true, true, true, true, true, true, true, true, true, true, true, true, true, true, true, false, false, false, false, false, false, false, false, false, false, false, false, false, false, false] rfl rfl (by kernel_rfl) (fun _ _ _ h => h) (Or.inl ⟨by rfl, ?_⟩) hHeld ?_ ?_
      · intro w' s0
        have s1 := cell_ons HB0.out s0
        first | (go_simp; done) | (go_simp; with_reducible rfl)
      rotate_left
      · simp only [Act.put, List.setIfInBounds_toArray, List.set_cons_zero, List.set_cons_succ]
        rfl
      refine pure_ (i := 16) (N := some 35) (v := ?_) (a' := ?_) #[true, true, true, true, true, true, true, true, true, true, true, true, true, true, true, true, true, false, false, false, false, false, false, false, false, false, false, false, false, false, false] rfl rfl (by kernel_rfl) (fun _ _ _ h => h) (Or.inl ⟨by rfl, ?_⟩) ?_ ?_
      rotate_left
      · intro w'
        go_simp
        with_reducible rfl
      rotate_left
      · simp only [Act.put, List.setIfInBounds_toArray, List.set_cons_zero, List.set_cons_succ]
        rfl
      refine pure_ (i := 17) (N := some 36) (v := ?_) (a' := ?_) #[true, true, true, true, true, true, true, true, true, true, true, true, true, true, true, true, true, true, false, false, false, false, false, false, false, false, false, false, false, false, false] rfl rfl (by kernel_rfl) (fun _ _ _ h => h) (Or.inl ⟨by rfl, ?_⟩) ?_ ?_
      rotate_left
      · intro w'
        go_simp
        with_reducible rfl
      rotate_left
      · simp only [Act.put, List.setIfInBounds_toArray, List.set_cons_zero, List.set_cons_succ]
        rfl
      refine take_ (i := 18) (N := some 37) (v := .int .i64 dn) (a' := ?_) #[true, true, true, true, true, true, true, true, true, true, true, true, true, true, true, true, true, true, true, false, false, false, false, false, false, false, false, false, false, false, false] rfl rfl (by kernel_rfl) (fun _ _ _ h => h) (Or.inl ⟨by rfl, ?_⟩) hHeld ?_ ?_
      · intro w' s0
        have s1 := cell_ons HCN.out s0
        first | (go_simp; done) | (go_simp; with_reducible rfl)
      rotate_left
      · simp only [Act.put, List.setIfInBounds_toArray, List.set_cons_zero, List.set_cons_succ]
        rfl
      refine pure_ (i := 19) (N := some 38) (v := .int .i64 (dn - 64)) (a' := ?_) #[true, true, true, true, true, true, true, true, true, true, true, true, true, true, true, true, true, true, true, true, false, false, false, false, false, false, false, false, false, false, false] rfl rfl (by kernel_rfl) (fun _ _ _ h => h) (Or.inl ⟨by rfl, ?_⟩) ?_ ?_
      · intro w'
        first | (go_simp; done) | (go_simp; rw [hdb])
      rotate_left
      · simp only [Act.put, List.setIfInBounds_toArray, List.set_cons_zero, List.set_cons_succ]
        rfl
      refine pure_ (i := 20) (N := some 39) (v := .bool false) (a' := ?_) #[true, true, true, true, true, true, true, true, true, true, true, true, true, true, true, true, true, true, true, true, true, false, false, false, false, false, false, false, false, false, false] rfl rfl (by kernel_rfl) (fun _ _ _ h => h) (Or.inl ⟨by rfl, ?_⟩) ?_ ?_
      · intro w'
        first | (go_simp; done) | (go_simp; rw [z2])
      rotate_left
      · simp only [Act.put, List.setIfInBounds_toArray, List.set_cons_zero, List.set_cons_succ]
        rfl
      refine pure_ (i := 21) (N := some 40) (v := .bool false) (a' := ?_) #[true, true, true, true, true, true, true, true, true, true, true, true, true, true, true, true, true, true, true, true, true, true, false, false, false, false, false, false, false, false, false] rfl rfl (by kernel_rfl) (fun _ _ _ h => h) (Or.inl ⟨by rfl, ?_⟩) ?_ ?_
      · intro w'
        first | (go_simp; done) | (go_simp; rfl)
      rotate_left
      · simp only [Act.put, List.setIfInBounds_toArray, List.set_cons_zero, List.set_cons_succ]
        rfl
      refine pure_ (i := 22) (N := some 41) (v := ?_) (a' := ?_) #[true, true, true, true, true, true, true, true, true, true, true, true, true, true, true, true, true, true, true, true, true, true, true, false, false, false, false, false, false, false, false] rfl rfl (by kernel_rfl) (fun _ _ _ h => h) (Or.inl ⟨by rfl, ?_⟩) ?_ ?_
      rotate_left
      · intro w'
        go_simp
        with_reducible rfl
      rotate_left
      · simp only [Act.put, List.setIfInBounds_toArray, List.set_cons_zero, List.set_cons_succ]
        rfl
      refine pure_ (i := 23) (N := some 42) (v := ?_) (a' := ?_) #[true, true, true, true, true, true, true, true, true, true, true, true, true, true, true, true, true, true, true, true, true, true, true, true, false, false, false, false, false, false, false] rfl rfl (by kernel_rfl) (fun _ _ _ h => h) (Or.inl ⟨by rfl, ?_⟩) ?_ ?_
      rotate_left
      · intro w'
        go_simp
        with_reducible rfl
      rotate_left
      · simp only [Act.put, List.setIfInBounds_toArray, List.set_cons_zero, List.set_cons_succ]
        rfl
      refine pure_ (i := 24) (N := some 43) (v := ?_) (a' := ?_) #[true, true, true, true, true, true, true, true, true, true, true, true, true, true, true, true, true, true, true, true, true, true, true, true, true, false, false, false, false, false, false] rfl rfl (by kernel_rfl) (fun _ _ _ h => h) (Or.inl ⟨by rfl, ?_⟩) ?_ ?_
      rotate_left
      · intro w'
        go_simp
        with_reducible rfl
      rotate_left
      · simp only [Act.put, List.setIfInBounds_toArray, List.set_cons_zero, List.set_cons_succ]
        rfl
      refine pure_ (i := 25) (N := some 44) (v := .pointer (some (ad.add (k * 2)))) (a' := ?_) #[true, true, true, true, true, true, true, true, true, true, true, true, true, true, true, true, true, true, true, true, true, true, true, true, true, true, false, false, false, false, false] rfl rfl (by kernel_rfl) (fun _ _ _ h => h) (Or.inl ⟨by rfl, ?_⟩) ?_ ?_
      · intro w'
        first | (go_simp; done) | (go_simp; rw [if_pos (show k < n by omega)])
      rotate_left
      · simp only [Act.put, List.setIfInBounds_toArray, List.set_cons_zero, List.set_cons_succ]
        rfl
      refine pure_ (i := 26) (N := some 45) (v := ?_) (a' := ?_) #[true, true, true, true, true, true, true, true, true, true, true, true, true, true, true, true, true, true, true, true, true, true, true, true, true, true, true, false, false, false, false] rfl rfl (by kernel_rfl) (fun _ _ _ h => h) (Or.inl ⟨by rfl, ?_⟩) ?_ ?_
      rotate_left
      · intro w'
        go_simp
        with_reducible rfl
      rotate_left
      · simp only [Act.put, List.setIfInBounds_toArray, List.set_cons_zero, List.set_cons_succ]
        rfl
      refine take_ (i := 27) (N := some 46) (v := .slice B1 512 c1) (a' := ?_) #[true, true, true, true, true, true, true, true, true, true, true, true, true, true, true, true, true, true, true, true, true, true, true, true, true, true, true, true, false, false, false] rfl rfl (by kernel_rfl) (fun _ _ _ h => h) (Or.inl ⟨by rfl, ?_⟩) hHeld ?_ ?_
      · intro w' s0
        have s1 := (HAT.out w' s0).2
        first | (go_simp; done) | (go_simp; with_reducible rfl)
      rotate_left
      · simp only [Act.put, List.setIfInBounds_toArray, List.set_cons_zero, List.set_cons_succ]
        rfl
      refine pure_ (i := 28) (N := some 47) (v := .int .i64 512) (a' := ?_) #[true, true, true, true, true, true, true, true, true, true, true, true, true, true, true, true, true, true, true, true, true, true, true, true, true, true, true, true, true, false, false] rfl rfl (by kernel_rfl) (fun _ _ _ h => h) (Or.inl ⟨by rfl, ?_⟩) ?_ ?_
      · intro w'
        first | (go_simp; done) | (go_simp; rfl)
      rotate_left
      · simp only [Act.put, List.setIfInBounds_toArray, List.set_cons_zero, List.set_cons_succ]
        rfl
      refine pure_ (i := 29) (N := some 48) (v := .bool false) (a' := ?_) #[true, true, true, true, true, true, true, true, true, true, true, true, true, true, true, true, true, true, true, true, true, true, true, true, true, true, true, true, true, true, false] rfl rfl (by kernel_rfl) (fun _ _ _ h => h) (Or.inl ⟨by rfl, ?_⟩) ?_ ?_
      · intro w'
        first | (go_simp; done) | (go_simp; rfl)
      rotate_left
      · simp only [Act.put, List.setIfInBounds_toArray, List.set_cons_zero, List.set_cons_succ]
        rfl
      refine pure_ (i := 30) (N := some 49) (v := .bool false) (a' := ?_) #[true, true, true, true, true, true, true, true, true, true, true, true, true, true, true, true, true, true, true, true, true, true, true, true, true, true, true, true, true, true, true] rfl rfl (by kernel_rfl) (fun _ _ _ h => h) (Or.inl ⟨by rfl, ?_⟩) ?_ ?_
      · intro w'
        first | (go_simp; done) | (go_simp; rfl)
      rotate_left
      · simp only [Act.put, List.setIfInBounds_toArray, List.set_cons_zero, List.set_cons_succ]
        rfl
      refine done_ (by kernel_rfl) ?_
      have HDD := Aside0.mk hHeld
      clear hHeld hdr z1 z2
      go_wp2
      go_roundw
      case rel => exact ⟨k + 1, by omega, by go_num, HDD⟩
      case measure => simp [intOf]; omega
    · obtain rfl : k = n := by omega
      have g1 : decide ((k : Int) < k) = false := decide_eq_false (by omega)
      by_cases hz : k = 0
      · have g2 : ((k : Int) == 0) = true := by simp [hz]
        have hcm := (commitD_no (d := d) (s := s) HP.out).1 (by rw [HLN.out]; exact hz)
        rw [← HR0.out] at hcm
        have HCM := Aside0.mk hcm
        clear hcm hz
        go_wp2
        go_ret
        exact ⟨by rw [HCM.out]; rfl, r, HH.out.below HBk.out, by rw [HCM.out]; exact HS.out.up (by omega), HBL.out.trans (HBk.out.mono (Nat.le_trans HBB.out.2 HBL.out.size)), (KeepR.of_below HBk.out).g, by rw [HCM.out]; exact blk_below HQ.out HBk.out⟩
      have g2 : ((k : Int) == 0) = false := by simp; omega
      have q1 := cell_ons HB1.out HBk.out
      by_cases hmx : s = 18446744073709551615
      · have g3 : (s == 18446744073709551615) = true := by simp [hmx]
        have hcm := (commitD_no (d := d) (s := s) HP.out).2.1 (by rw [HLN.out]; exact hz) hmx
        rw [← HR0.out] at hcm
        have HCM := Aside0.mk hcm
        clear hcm hmx hz
        go_wp2
        go_ret
        exact ⟨by rw [HCM.out]; rfl, r, HH.out.below HBk.out, by rw [HCM.out]; exact HS.out.up (by omega), HBL.out.trans (HBk.out.mono (Nat.le_trans HBB.out.2 HBL.out.size)), (KeepR.of_below HBk.out).g, by rw [HCM.out]; exact blk_below HQ.out HBk.out⟩
      have g3 : (s == 18446744073709551615) = false := by simp [hmx]
      have HMX := Aside0.mk hmx
      have HZ := Aside0.mk hz
      have hsw : IntKind.u64.wrap (s + 1) = s + 1 := u64_in (by have := HSS.out; omega) (by have := HSS.out; omega)
      clear hz hmx
      obtain ⟨E, hE⟩ : ∃ E, E = recE (s + 1) l := ⟨_, rfl⟩
      obtain ⟨L, hL⟩ : ∃ L, L = recR (s + 1) l := ⟨_, rfl⟩
      have HE := Aside0.mk hE
      have HL := Aside0.mk hL
      have HREC := Aside0.mk (show Calls Try.prog 10 #[.int .u64 (s + 1), .slice A k c] wr fun e w' => ∃ v, e = .returned (.tuple #[v, .int .i64 E]) ∧ Kd.R rowK 56 w' wr.heap.size tt v L ∧ Below wr.heap.size wr w' from by
        have hn2 : k = l.length := HLN.out.symm
        subst hn2
        refine (aukletref20_Record.calls 1000 (s + 1) A c l _ _ wr (Kd.C_below HC.out.1 HBk.out) HC.out.2.1 (record_f (by have := HSS.out; omega) (by have := HSS.out; have := HMX.out; omega) HC.out.2.2)).mono ?_
        rintro e w' ⟨v, rfl, h1, h2⟩
        exact ⟨v, by rw [HE.out], by rw [HL.out]; exact Kd.S_R h1, h2⟩)
      clear hE hL
      go_upto_region 11 with (go_at_call 10; refine HREC.out.mono ?_; rintro e w2 ⟨v2, rfl, h1, h2⟩; have HR2 := Aside0.mk h1; have HB2 := Aside0.mk (HBk.out.trans (h2.mono HBk.out.size)); have HY2 := Aside0.mk h2; clear h1 h2)
      by_cases he : E = 0
      case neg =>
        have g4 : (E != 0) = true := by simp [he]
        have hcm := (commitD_no (d := d) (s := s) HP.out).2.2 (by rw [HLN.out]; exact HZ.out) HMX.out (by rw [← HE.out]; exact he)
        rw [← HR0.out, ← HE.out] at hcm
        have HCM := Aside0.mk hcm
        clear hcm he
        go_wp2
        go_ret
        exact ⟨by rw [HCM.out]; rfl, r, HH.out.below HB2.out, by rw [HCM.out]; exact HS.out.up (by omega), HBL.out.trans (HB2.out.mono (Nat.le_trans HBB.out.2 HBL.out.size)), (KeepR.of_below HB2.out).g, by rw [HCM.out]; exact blk_below HQ.out HB2.out⟩
      have g4 : (E != 0) = false := by simp [he]
      have hce := commitD_eq (d := d) (s := s) HP.out (by rw [HLN.out]; exact HZ.out) HMX.out (HE.out.symm.trans he)
      rw [← HR0.out] at hce
      have hLr : L = recS (s + 1) l := by rw [HL.out]; unfold recR; rw [if_pos (HE.out.symm.trans he)]
      rw [← hLr] at hce
      have hLlen : L.length = secsN l.length := by rw [hLr]; exact recS_len _ _
      have h64 := (recE_0 (HE.out.symm.trans he)).2.2.2
      have hLok : ∀ x ∈ L, x.length = 512 ∧ BytesOk x := by rw [hLr]; exact recS_ok (fun p hp => (HP.out p hp).2.2)
      have hL1 : 0 < L.length := by rw [hLlen]; unfold secsN; omega
      obtain ⟨A2, c2, k0, hv2, hc2, ho2, hrw⟩ := rwX_of_R HR2.out hL1
      have hk0 : wr.heap.size ≤ k0 := Kd.R_base HR2.out k0 ho2
      have hk1 : k0 < w2.heap.size := Kd.R_lt HR2.out k0 ho2
      subst hv2
      obtain ⟨N, hN⟩ : ∃ N, N = L.length := ⟨_, rfl⟩
      obtain ⟨X, hX⟩ : ∃ X, X = enumW 0 L := ⟨_, rfl⟩
      have hXl : X.length = N := by rw [hX, hN]; exact enumW_len _ _
      have HXA := Aside0.mk (show ∀ i (hi : i < X.length), X[i] = ((i : Int), L.getD i []) from fun i hi => by
        subst hX
        rw [enumW_at, Nat.zero_add])
      rw [← hX] at hce
      rw [← hN] at hrw hc2 ⊢
      have HCE := Aside0.mk hce
      have HRW := Aside0.mk hrw
      have HNN := Aside0.mk (show N = L.length ∧ N ≤ 64 ∧ X.length = N from ⟨hN, by rw [hN, hLlen]; exact h64, hXl⟩)
      have HLOK := Aside0.mk hLok
      have HIX := Aside0.mk (IsRfX.of_new HH.out HB2.out (Nat.le_trans HBk.out.size hk0) hk1)
      have HBW2 := Aside0.mk (HBL.out.trans (HB2.out.mono (Nat.le_trans HBB.out.2 HBL.out.size)))
      have HKX := Aside0.mk (show KeepX k0 w2 w2 from ⟨KeepR.refl _, rfl⟩)
      have HKW := Aside0.mk (KeepR.of_below HB2.out)
      have HK0 := Aside0.mk hk1
      have HQ2 := Aside0.mk (blk_below HQ.out HB2.out)
      have HPG2 := Aside0.mk (HPG.out.keep ((KeepR.of_below HB2.out).t (by decide) (by decide) (by decide)) ((KeepR.of_below HB2.out).t (by decide) (by decide) (by decide)))
      have HWR0 := Aside0.mk (show (wrD d (X.take 0)).2 = 0 from rfl)
      have HS0 := Aside0.mk (show Sim (wrD d (X.take 0)).1 r B from HS.out)
      clear he hce hLr hLlen h64 hLok hL1 hc2 ho2 hrw hk0 hk1 hN hX hXl HR2 HREC hsw
      go_wp2_with fail
      go_loopw [8] (fun x wr => ∃ (i : Nat) (ri : Rf), i ≤ N ∧ x = .int .i64 i ∧ Aside0 ((wrD d (X.take i)).2 = 0) ∧ Aside0 (IsRfX k0 base wr g ri) ∧ Aside0 (Sim (wrD d (X.take i)).1 ri (B + 2 * i)) ∧ Aside0 (Below base w wr) ∧ Aside0 (KeepX k0 w2 wr) ∧ Aside0 (wr.heap[gv]? = some (.cells #[.pointer (some ⟨g, 0, none⟩), .int .u64 s] 76 (0, 0)))) (fun x _ => N - (intOf x).toNat)
      case atStart => exact ⟨0, r, Nat.zero_le _, rfl, HWR0, HIX, HS0, HBW2, HKX, HQ2⟩
      case round =>
        obtain ⟨i, ri, hi, rfl, HWi, HIi, HSi, HBi, HKi, HQi⟩ := hrel
        have hN64 : N ≤ 64 := HNN.out.2.1
        by_cases hlt2 : i < N
        · have g5 : decide ((i : Int) < N) = true := decide_eq_true (by omega)
          obtain ⟨ad, A1, c1, hA, hle, hat⟩ := HRW.out.at_ i hlt2
          subst hA
          obtain ⟨b, hb⟩ : ∃ b, b = L.getD i [] := ⟨_, rfl⟩
          rw [← hb] at hle hat
          have hbm : b ∈ L := by rw [hb, List.getD_eq_getElem?_getD, List.getElem?_eq_getElem (by rw [← HNN.out.1]; exact hlt2)]; exact List.getElem_mem _
          have hbo := HLOK.out b hbm
          obtain ⟨lb, hlb⟩ : ∃ lb, lb = b.length := ⟨_, rfl⟩
          rw [← hlb] at hat
          have HAT := Aside0.mk (show ∀ W', Below wr.heap.size wr W' → W'.cell? (ad.add i) = some (.slice A1 lb c1) from fun W' h9 => (hat W' ((HKi.out.1.trans (KeepR.of_below h9)).t (by decide) (by decide) (by decide))).1 ((h9.block k0 (Nat.lt_of_lt_of_le HK0.out HKi.out.1.1)).trans HKi.out.2))
          have hCB : ∀ W', KeepR wr W' → Kd.C byteK W' A1 b.length b := fun W' h9 => by rw [← hlb]; exact (hat W' ((HKi.out.1.trans h9).t (by decide) (by decide) (by decide))).2
          have hiX : i < X.length := by rw [HNN.out.2.2]; exact hlt2
          have hnx := wrD_next (d := d) hiX HWi.out (x := ((i : Int), b)) (by rw [HXA.out i hiX, hb])
          have hsw := sim_write HSi.out (i : Int) b hbo.2
          have hok := sim_ok HSi.out (by have := HBB.out.1; have := HNN.out.2.1; omega)
          obtain ⟨e3, he3⟩ : ∃ e3, e3 = (writeD (wrD d (X.take i)).1 (i : Int) b).2 := ⟨_, rfl⟩
          obtain ⟨r3, hr3⟩ : ∃ r3, r3 = (writeR ri (i : Int) b).1 := ⟨_, rfl⟩
          have HWC := Aside0.mk (show ∀ wE, Below wr.heap.size wr wE → Calls Try.prog 59 #[.pointer (some ⟨g, 0, none⟩), .int .i64 (i : Int), .slice A1 lb c1] wE fun e w' => e = .returned (.int .i64 e3) ∧ IsRfX k0 base w' g r3 ∧ Below base w w' ∧ KeepX k0 wE w' from fun wE h9 => by
            have hx : IsRfX k0 base wE g ri := by
              obtain ⟨vA, vB, vT, vW, a1, a2, a3, a4⟩ := HIi.out
              exact ⟨vA, vB, vT, vW, (a1.st.below h9).at_, a2, a3, Nat.lt_of_lt_of_le a4 h9.size⟩
            have h := rwriteX_calls k0 base g ri (i : Int) A1 c1 b w wE hx (HBi.out.trans (h9.mono (Nat.le_trans HBB.out.2 HBi.out.size))) hok.1 (fun W' hk => hCB W' ((KeepR.of_below h9).trans hk)) hok.2.2.2.2
            rw [← hsw.2, ← he3, ← hr3, ← hlb] at h
            exact h)
          rw [← hr3] at hsw
          have HSW := Aside0.mk hsw.1
          have HNX := Aside0.mk hnx
          have HE3 := Aside0.mk he3
          have q0 : wr.cell? ⟨gv, 0, none⟩ = some (.pointer (some ⟨g, 0, none⟩)) := (blk_cell HQi.out 0).trans rfl
          clear hb hbm hbo hlb hle hat hCB hnx hsw hok he3 hr3 hiX
          go_upto_region 16 with fail
          have hdr : Below wr.heap.size wr wr.drew := below_drew (Below.refl _ _)
          refine start_ (n := 11) (S := fun w' => Below wr.heap.size wr w') (ds := [9]) #[false, false, false, false, false, false, false, false, false, false, false] (by kernel_rfl) rfl rfl hdr (fun hHeld => ?_)
          have HDr := Aside0.mk hdr
          generalize wr.drew = wE at hdr hHeld HDr ⊢
          refine pure_ (i := 0) (N := some 77) (v := ?_) (a' := ?_) #[true, false, false, false, false, false, false, false, false, false, false] rfl rfl (by kernel_rfl) (fun _ _ _ h => h) (Or.inl ⟨by rfl, ?_⟩) ?_ ?_
          rotate_left
          · intro w'
            go_simp
            with_reducible rfl
          rotate_left
          · simp only [Act.put, List.setIfInBounds_toArray, List.set_cons_zero, List.set_cons_succ]
            rfl
          refine pure_ (i := 1) (N := some 78) (v := ?_) (a' := ?_) #[true, true, false, false, false, false, false, false, false, false, false] rfl rfl (by kernel_rfl) (fun _ _ _ h => h) (Or.inl ⟨by rfl, ?_⟩) ?_ ?_
          rotate_left
          · intro w'
            go_simp
            with_reducible rfl
          rotate_left
          · simp only [Act.put, List.setIfInBounds_toArray, List.set_cons_zero, List.set_cons_succ]
            rfl
          refine pure_ (i := 2) (N := some 79) (v := ?_) (a' := ?_) #[true, true, true, false, false, false, false, false, false, false, false] rfl rfl (by kernel_rfl) (fun _ _ _ h => h) (Or.inl ⟨by rfl, ?_⟩) ?_ ?_
          rotate_left
          · intro w'
            go_simp
            with_reducible rfl
          rotate_left
          · simp only [Act.put, List.setIfInBounds_toArray, List.set_cons_zero, List.set_cons_succ]
            rfl
          refine take_ (i := 3) (N := some 80) (v := .pointer (some ⟨g, 0, none⟩)) (a' := ?_) #[true, true, true, true, false, false, false, false, false, false, false] rfl rfl (by kernel_rfl) (fun _ _ _ h => h) (Or.inl ⟨by rfl, ?_⟩) hHeld ?_ ?_
          · intro w' s0
            have s1 := cell_ons q0 s0
            first | (go_simp; done) | (go_simp; with_reducible rfl)
          rotate_left
          · simp only [Act.put, List.setIfInBounds_toArray, List.set_cons_zero, List.set_cons_succ]
            rfl
          refine pure_ (i := 4) (N := some 81) (v := ?_) (a' := ?_) #[true, true, true, true, true, false, false, false, false, false, false] rfl rfl (by kernel_rfl) (fun _ _ _ h => h) (Or.inl ⟨by rfl, ?_⟩) ?_ ?_
          rotate_left
          · intro w'
            go_simp
            with_reducible rfl
          rotate_left
          · simp only [Act.put, List.setIfInBounds_toArray, List.set_cons_zero, List.set_cons_succ]
            rfl
          refine pure_ (i := 5) (N := some 82) (v := ?_) (a' := ?_) #[true, true, true, true, true, true, false, false, false, false, false] rfl rfl (by kernel_rfl) (fun _ _ _ h => h) (Or.inl ⟨by rfl, ?_⟩) ?_ ?_
          rotate_left
          · intro w'
            go_simp
            with_reducible rfl
          rotate_left
          · simp only [Act.put, List.setIfInBounds_toArray, List.set_cons_zero, List.set_cons_succ]
            rfl
          refine pure_ (i := 6) (N := some 83) (v := ?_) (a' := ?_) #[true, true, true, true, true, true, true, false, false, false, false] rfl rfl (by kernel_rfl) (fun _ _ _ h => h) (Or.inl ⟨by rfl, ?_⟩) ?_ ?_
          rotate_left
          · intro w'
            go_simp
            with_reducible rfl
          rotate_left
          · simp only [Act.put, List.setIfInBounds_toArray, List.set_cons_zero, List.set_cons_succ]
            rfl
          refine pure_ (i := 7) (N := some 84) (v := .pointer (some (ad.add i))) (a' := ?_) #[true, true, true, true, true, true, true, true, false, false, false] rfl rfl (by kernel_rfl) (fun _ _ _ h => h) (Or.inl ⟨by rfl, ?_⟩) ?_ ?_
          · intro w'
            first | (go_simp; done) | (go_simp; rw [if_pos (show i < N by omega)])
          rotate_left
          · simp only [Act.put, List.setIfInBounds_toArray, List.set_cons_zero, List.set_cons_succ]
            rfl
          refine take_ (i := 8) (N := some 85) (v := .slice A1 lb c1) (a' := ?_) #[true, true, true, true, true, true, true, true, true, false, false] rfl rfl (by kernel_rfl) (fun _ _ _ h => h) (Or.inl ⟨by rfl, ?_⟩) hHeld ?_ ?_
          · intro w' s0
            have s1 := HAT.out w' s0
            first | (go_simp; done) | (go_simp; with_reducible rfl)
          rotate_left
          · simp only [Act.put, List.setIfInBounds_toArray, List.set_cons_zero, List.set_cons_succ]
            rfl
          refine last_ (i := 9) (N := some 86) #[true, true, true, true, true, true, true, true, true, true, false] rfl rfl (by kernel_rfl) (by decide) (fun K hK => ?_)
          refine goes_ Try.func59 (by kernel_rfl) rfl #[.pointer (some ⟨g, 0, none⟩), .int .i64 (i : Int), .slice A1 lb c1] (by rfl) rfl rfl (by (try simp only [List.map_toArray, List.map_cons, List.map_nil]); first | done | rfl) ?_
          refine (HWC.out wE HDr.out).mono ?_
          rintro e w4 ⟨rfl, h1, h2, h3⟩
          have HI4 := Aside0.mk h1
          have HB4 := Aside0.mk h2
          have HK4 := Aside0.mk (show KeepX k0 w2 w4 from ⟨HKi.out.1.trans ((KeepR.of_below HDr.out).trans h3.1), h3.2.trans ((HDr.out.block k0 (Nat.lt_of_lt_of_le HK0.out HKi.out.1.1)).trans HKi.out.2)⟩)
          have HQ4 := Aside0.mk (h3.1.cells (blk_below HQi.out HDr.out) (by decide) (by decide) (by decide))
          clear h1 h2 h3
          refine ⟨_, rfl, ?_⟩
          refine hK.out _ _ ?_
          clear hK K hHeld hdr
          refine pure_ (i := 10) (N := some 9) (v := ?_) (a' := ?_) #[true, true, true, true, true, true, true, true, true, true, true] rfl rfl (by kernel_rfl) (fun _ _ _ h => h) (Or.inl ⟨by rfl, ?_⟩) ?_ ?_
          rotate_left
          · intro w'
            go_simp
            with_reducible rfl
          rotate_left
          · simp only [Act.put, List.setIfInBounds_toArray, List.set_cons_zero, List.set_cons_succ]
            rfl
          refine done_ (by kernel_rfl) ?_
          clear q0
          by_cases hz2 : e3 = 0
          case neg =>
            have g6 : (e3 != 0) = true := by simp [hz2]
            have hne : (writeD (wrD d (X.take i)).1 (i : Int) b).2 ≠ 0 := by rw [← HE3.out]; exact hz2
            have hcm := HCE.out
            rw [HNX.out.2 hne, if_pos hne, ← HE3.out] at hcm
            have HCM := Aside0.mk hcm
            clear hcm hne hz2
            go_wp2
            go_ret
            exact ⟨by rw [HCM.out]; rfl, r3, HI4.out.rf, by rw [HCM.out]; exact HSW.out.up (by have := HNN.out.2.1; omega), HB4.out, (HKW.out.trans HK4.out.1).g, by rw [HCM.out]; exact HQ4.out⟩
          have g6 : (e3 != 0) = false := by simp [hz2]
          have HW4 := Aside0.mk (show (wrD d (X.take (i + 1))).2 = 0 from by rw [HNX.out.1, ← HE3.out]; exact hz2)
          have HS4 := Aside0.mk (show Sim (wrD d (X.take (i + 1))).1 r3 (B + 2 * (i + 1)) from by rw [HNX.out.1]; exact HSW.out.up (by omega))
          clear hz2
          go_wp2
          go_roundw
          case rel => exact ⟨i + 1, r3, by omega, by go_num, HW4, HI4, HS4, HB4, HK4, HQ4⟩
          case measure => simp [intOf]; omega
        · obtain rfl : i = N := by omega
          have g5 : decide ((i : Int) < i) = false := decide_eq_false (by omega)
          have htk : X.take i = X := List.take_of_length_le (by rw [HNN.out.2.2]; exact Nat.le_refl _)
          rw [htk] at HWi HSi
          obtain ⟨d1, hd1⟩ : ∃ d1, d1 = (wrD d X).1 := ⟨_, rfl⟩
          rw [← hd1] at HSi
          have hfl := sim_flush HSi.out
          have hok := sim_ok HSi.out (by have := HBB.out.1; have := HNN.out.2.1; omega)
          have hcf := rflush_calls base g ri w wr HIi.out.rf HBi.out hok.1 hok.2.1 hok.2.2.1 hok.2.2.2.1
          rw [← hfl.2] at hcf
          obtain ⟨d2, hd2⟩ : ∃ d2, d2 = (flushD d1).1 := ⟨_, rfl⟩
          obtain ⟨e2, he2⟩ : ∃ e2, e2 = (flushD d1).2 := ⟨_, rfl⟩
          obtain ⟨r2, hr2⟩ : ∃ r2, r2 = (flushR ri).1 := ⟨_, rfl⟩
          rw [← he2, ← hr2] at hcf
          rw [← hd2, ← hr2] at hfl
          have hce := HCE.out
          rw [if_neg (fun h => h HWi.out), ← hd1, ← he2, ← hd2] at hce
          have HCE2 := Aside0.mk hce
          have HCF := Aside0.mk hcf
          have HSF := Aside0.mk hfl.1
          have HD2N := Aside0.mk (show d2.n = d.n from by
            rw [hd2, hd1]
            have a1 := (flushD_any (wrD d X).1)
            have a2 : (wrD d X).1.n = d.n := by
              have h3 := HSi.out.n
              rw [hd1] at h3
              have hgen : ∀ (xs : List (Int × List Int)) (d : D), (wrD d xs).1.n = d.n := by
                intro xs
                induction xs with
                | nil => intro d; rfl
                | cons y ys ih =>
                  intro d
                  have hwn : (writeD d y.1 y.2).1.n = d.n := by
                    unfold writeD
                    repeat' split
                    all_goals exact callD_n d
                  have e : wrD d (y :: ys) = if (writeD d y.1 y.2).2 = 0 then wrD (writeD d y.1 y.2).1 ys else writeD d y.1 y.2 := rfl
                  rw [e]
                  split
                  · rw [ih, hwn]
                  · exact hwn
              exact hgen X d
            rcases a1 with ⟨_, _, _, h3, _⟩ | ⟨_, _, _, h3, _⟩ <;> rw [h3, a2])
          have q0 : wr.cell? ⟨gv, 0, none⟩ = some (.pointer (some ⟨g, 0, none⟩)) := (blk_cell HQi.out 0).trans rfl
          clear hfl hok hcf hd2 he2 hr2 hce hd1 htk
          go_upto_region 20 with (go_at_call 60; refine HCF.out.mono ?_; rintro e w5 ⟨rfl, h1, h2, h3⟩; have HI5 := Aside0.mk h1; have HB5 := Aside0.mk h2; have HK5 := Aside0.mk (HKW.out.trans (HKi.out.1.trans h3)); have HQ5 := Aside0.mk (h3.cells HQi.out (by decide) (by decide) (by decide)); have HPG5 := Aside0.mk (HPG2.out.keep ((HKi.out.1.trans h3).t (by decide) (by decide) (by decide)) ((HKi.out.1.trans h3).t (by decide) (by decide) (by decide))); clear h1 h2 h3)
          by_cases hz2 : e2 = 0
          case neg =>
            have g6 : (e2 != 0) = true := by simp [hz2]
            have hcm := HCE2.out
            rw [if_pos hz2] at hcm
            have HCM := Aside0.mk hcm
            clear hcm hz2 q0
            go_wp2
            go_ret
            exact ⟨by rw [HCM.out]; rfl, r2, HI5.out, by rw [HCM.out]; exact HSF.out.up (by have := HNN.out.2.1; omega), HB5.out, HK5.out.g, by rw [HCM.out]; exact HQ5.out⟩
          have g6 : (e2 != 0) = false := by simp [hz2]
          have hcm := HCE2.out
          rw [if_neg (fun h => h hz2)] at hcm
          have HCM3 := Aside0.mk hcm
          have hsw : IntKind.u64.wrap (s + 1) = s + 1 := u64_in (by have := HSS.out; omega) (by have := HSS.out; have := HMX.out; omega)
          have q1' : w5.cell? ⟨gv, 1, none⟩ = some (.int .u64 s) := (blk_cell HQ5.out 1).trans rfl
          have q1f := blk_frozen HQ5.out 1
          clear hcm hz2 q0 q1
          go_upto_region 23 with fail
          obtain ⟨w6, hw6⟩ : ∃ w6, w6 = w5.setCell ⟨gv, 1, none⟩ (.int .u64 (s + 1)) := ⟨_, rfl⟩
          have hq6 : w6.heap[gv]? = some (.cells #[.pointer (some ⟨g, 0, none⟩), .int .u64 (s + 1)] 76 (0, 0)) := by rw [hw6]; exact blk_put HQ5.out 1 (.int .u64 (s + 1)) rfl
          have hother : ∀ k, k ≠ gv → w6.heap[k]? = w5.heap[k]? := fun k hk => by rw [hw6]; exact Below.heap_setCell _ _ _ _ hk
          have htne : ∀ (k : Nat) (cs : Array Value) (t : Nat), t ≠ 76 → w5.heap[k]? = some (Obj.cells cs t (0, 0)) → w6.heap[k]? = some (Obj.cells cs t (0, 0)) := fun k cs t ht hc => (hother k (fun e => by
            subst e
            rw [HQ5.out] at hc
            injection hc with hc
            injection hc with _ ht2 _
            exact ht ht2.symm)).trans hc
          have HI6 := Aside0.mk (show IsRf base w6 g r2 from by
            obtain ⟨vA, vB, vT, vW, hh⟩ := HI5.out
            exact ⟨vA, vB, vT, vW, hh.kept (fun k cs q hq hc => htne k cs q (by omega) hc)⟩)
          have HB6 := Aside0.mk (show Below base w w6 from by rw [hw6]; exact HB5.out.setCell HGV.out _)
          have HQ6 := Aside0.mk hq6
          have HPG6 := Aside0.mk (HPG5.out.keep (fun i cs hi => htne i cs 58 (by decide) hi) (fun i cs hi => htne i cs 5 (by decide) hi))
          have HXA2 := Aside0.mk (show (pgW l).length = k from by unfold pgW; rw [List.length_map]; exact HLN.out)
          have hws0 : (wrD d2 ((pgW l).take 0)).2 = 0 := rfl
          have HWS0 := Aside0.mk hws0
          have HSF6 := Aside0.mk (show Sim (wrD d2 ((pgW l).take 0)).1 r2 (B + 130) from HSF.out.up (by have := HNN.out.2.1; omega))
          rw [← hw6]
          have HK6 := Aside0.mk (show KeepG gv W w6 from ⟨by rw [hw6]; simpa [World.setCell] using HK5.out.1, fun i o hi hg ho => (hother i hg).trans (HK5.out.2 i o hi ho)⟩)
          clear hw6 hq6 hother htne hws0 q1' q1f hsw
          go_wp2_with fail
          go_loopw [11] (fun x wr => ∃ (j : Nat) (rj : Rf), j ≤ k ∧ x = .int .i64 j ∧ Aside0 ((wrD d2 ((pgW l).take j)).2 = 0) ∧ Aside0 (IsRf base wr g rj) ∧ Aside0 (Sim (wrD d2 ((pgW l).take j)).1 rj (B + 130 + 2 * j)) ∧ Aside0 (Below base w wr) ∧ Aside0 (KeepG gv W wr) ∧ Aside0 (wr.heap[gv]? = some (.cells #[.pointer (some ⟨g, 0, none⟩), .int .u64 (s + 1)] 76 (0, 0))) ∧ Aside0 (PgB wr A k l)) (fun x _ => k - (intOf x).toNat)
          case atStart => exact ⟨0, r2, Nat.zero_le _, rfl, HWS0, HI6, HSF6, HB6, HK6, HQ6, HPG6⟩
          case round =>
            obtain ⟨j, rj, hj, rfl, HWj, HIj, HSj, HBj, HKj, HQj, HPj⟩ := hrel
            by_cases hlt3 : j < k
            · have g7 : decide ((j : Int) < k) = true := decide_eq_true (by omega)
              obtain ⟨ad, B1, c1, hA, hle, hat⟩ := HPj.out.at_ j hlt3
              subst hA
              have hjl : j < l.length := by rw [HLN.out]; exact hlt3
              have hmem : l.getD j z58 ∈ l := by rw [List.getD_eq_getElem?_getD, List.getElem?_eq_getElem hjl]; exact List.getElem_mem _
              have hpp := HP.out _ hmem
              obtain ⟨p, hp⟩ : ∃ p, p = l.getD j z58 := ⟨_, rfl⟩
              rw [← hp] at hle hat hpp
              have hjX : j < (pgW l).length := by rw [HXA2.out]; exact hlt3
              have hxj : (64 + p.f0, p.f1) = (pgW l)[j] := by
                have e : (pgW l)[j]? = some (64 + p.f0, p.f1) := by
                  unfold pgW
                  rw [List.getElem?_map, List.getElem?_eq_getElem hjl, hp, List.getD_eq_getElem?_getD, List.getElem?_eq_getElem hjl]
                  rfl
                rw [List.getElem?_eq_getElem hjX] at e
                injection e with e
                exact e.symm
              obtain ⟨no, pb⟩ := p
              dsimp only at hle hat hpp hxj
              have hno := of_decide_eq_true hpp.1
              obtain ⟨lb, hlb⟩ : ∃ lb, lb = pb.length := ⟨_, rfl⟩
              rw [← hlb] at hat
              have HAT := Aside0.mk (show ∀ W', Below wr.heap.size wr W' → W'.cell? (ad.add (j * 2)) = some (.int .i64 no) ∧ W'.cell? ⟨(ad.add (j * 2)).block, (ad.add (j * 2)).off + 1, none⟩ = some (.slice B1 lb c1) from fun W' hb => by
                have h := hat W' ((KeepR.of_below hb).t (by decide) (by decide) (by decide)) ((KeepR.of_below hb).t (by decide) (by decide) (by decide))
                exact ⟨h.1, h.2.1⟩)
              have hCB : ∀ W', KeepR wr W' → Kd.C byteK W' B1 pb.length pb := fun W' h9 => by rw [← hlb]; exact (hat W' (h9.t (by decide) (by decide) (by decide)) (h9.t (by decide) (by decide) (by decide))).2.2
              have hnx := wrD_next (d := d2) hjX HWj.out hxj
              have hsw := sim_write HSj.out (64 + no) pb hpp.2.2
              have hok := sim_ok HSj.out (by have := HBB.out.1; have := HC.out.2.2; omega)
              obtain ⟨e3, he3⟩ : ∃ e3, e3 = (writeD (wrD d2 ((pgW l).take j)).1 (64 + no) pb).2 := ⟨_, rfl⟩
              obtain ⟨r3, hr3⟩ : ∃ r3, r3 = (writeR rj (64 + no) pb).1 := ⟨_, rfl⟩
              have HWC := Aside0.mk (show ∀ wE, Below wr.heap.size wr wE → Calls Try.prog 59 #[.pointer (some ⟨g, 0, none⟩), .int .i64 (64 + no), .slice B1 lb c1] wE fun e w' => e = .returned (.int .i64 e3) ∧ IsRfX gv base w' g r3 ∧ Below base w w' ∧ KeepX gv wE w' from fun wE h9 => by
                have h := rwriteX_calls gv base g rj (64 + no) B1 c1 pb w wE (IsRfX.of_type (HIj.out.below h9) (blk_below HQj.out h9) (by decide) (by decide) (by decide)) (HBj.out.trans (h9.mono (Nat.le_trans HBB.out.2 HBj.out.size))) hok.1 (fun W' hk => hCB W' ((KeepR.of_below h9).trans hk)) hok.2.2.2.2
                rw [← hsw.2, ← he3, ← hr3, ← hlb] at h
                exact h)
              rw [← hr3] at hsw
              have HSW := Aside0.mk hsw.1
              have HNX := Aside0.mk hnx
              have HE3 := Aside0.mk he3
              have h64 : IntKind.i64.wrap (64 + no) = 64 + no := by rw [IntKind.wrap_i64]; have := HDN.out; omega
              have q0 : wr.cell? ⟨gv, 0, none⟩ = some (.pointer (some ⟨g, 0, none⟩)) := (blk_cell HQj.out 0).trans rfl
              clear hmem hp hpp hlb hle hat hCB hnx hsw hok he3 hr3 hjX hxj hjl hno
              go_upto_region 26 with fail
              have hdr : Below wr.heap.size wr wr.drew := below_drew (Below.refl _ _)
              refine start_ (n := 17) (S := fun w' => Below wr.heap.size wr w') (ds := [15]) #[false, false, false, false, false, false, false, false, false, false, false, false, false, false, false, false, false] (by kernel_rfl) rfl rfl hdr (fun hHeld => ?_)
              have HDr := Aside0.mk hdr
              generalize wr.drew = wE at hdr hHeld HDr ⊢
              refine pure_ (i := 0) (N := some 112) (v := ?_) (a' := ?_) #[true, false, false, false, false, false, false, false, false, false, false, false, false, false, false, false, false] rfl rfl (by kernel_rfl) (fun _ _ _ h => h) (Or.inl ⟨by rfl, ?_⟩) ?_ ?_
              rotate_left
              · intro w'
                go_simp
                with_reducible rfl
              rotate_left
              · simp only [Act.put, List.setIfInBounds_toArray, List.set_cons_zero, List.set_cons_succ]
                rfl
              refine pure_ (i := 1) (N := some 113) (v := ?_) (a' := ?_) #[true, true, false, false, false, false, false, false, false, false, false, false, false, false, false, false, false] rfl rfl (by kernel_rfl) (fun _ _ _ h => h) (Or.inl ⟨by rfl, ?_⟩) ?_ ?_
              rotate_left
              · intro w'
                go_simp
                with_reducible rfl
              rotate_left
              · simp only [Act.put, List.setIfInBounds_toArray, List.set_cons_zero, List.set_cons_succ]
                rfl
              refine pure_ (i := 2) (N := some 114) (v := ?_) (a' := ?_) #[true, true, true, false, false, false, false, false, false, false, false, false, false, false, false, false, false] rfl rfl (by kernel_rfl) (fun _ _ _ h => h) (Or.inl ⟨by rfl, ?_⟩) ?_ ?_
              rotate_left
              · intro w'
                go_simp
                with_reducible rfl
              rotate_left
              · simp only [Act.put, List.setIfInBounds_toArray, List.set_cons_zero, List.set_cons_succ]
                rfl
              refine take_ (i := 3) (N := some 115) (v := .pointer (some ⟨g, 0, none⟩)) (a' := ?_) #[true, true, true, true, false, false, false, false, false, false, false, false, false, false, false, false, false] rfl rfl (by kernel_rfl) (fun _ _ _ h => h) (Or.inl ⟨by rfl, ?_⟩) hHeld ?_ ?_
              · intro w' s0
                have s1 := cell_ons q0 s0
                first | (go_simp; done) | (go_simp; with_reducible rfl)
              rotate_left
              · simp only [Act.put, List.setIfInBounds_toArray, List.set_cons_zero, List.set_cons_succ]
                rfl
              refine pure_ (i := 4) (N := some 116) (v := ?_) (a' := ?_) #[true, true, true, true, true, false, false, false, false, false, false, false, false, false, false, false, false] rfl rfl (by kernel_rfl) (fun _ _ _ h => h) (Or.inl ⟨by rfl, ?_⟩) ?_ ?_
              rotate_left
              · intro w'
                go_simp
                with_reducible rfl
              rotate_left
              · simp only [Act.put, List.setIfInBounds_toArray, List.set_cons_zero, List.set_cons_succ]
                rfl
              refine pure_ (i := 5) (N := some 117) (v := ?_) (a' := ?_) #[true, true, true, true, true, true, false, false, false, false, false, false, false, false, false, false, false] rfl rfl (by kernel_rfl) (fun _ _ _ h => h) (Or.inl ⟨by rfl, ?_⟩) ?_ ?_
              rotate_left
              · intro w'
                go_simp
                with_reducible rfl
              rotate_left
              · simp only [Act.put, List.setIfInBounds_toArray, List.set_cons_zero, List.set_cons_succ]
                rfl
              refine pure_ (i := 6) (N := some 118) (v := .pointer (some (ad.add (j * 2)))) (a' := ?_) #[true, true, true, true, true, true, true, false, false, false, false, false, false, false, false, false, false] rfl rfl (by kernel_rfl) (fun _ _ _ h => h) (Or.inl ⟨by rfl, ?_⟩) ?_ ?_
              · intro w'
                first | (go_simp; done) | (go_simp; rw [if_pos (show j < k by omega)])
              rotate_left
              · simp only [Act.put, List.setIfInBounds_toArray, List.set_cons_zero, List.set_cons_succ]
                rfl
              refine pure_ (i := 7) (N := some 119) (v := ?_) (a' := ?_) #[true, true, true, true, true, true, true, true, false, false, false, false, false, false, false, false, false] rfl rfl (by kernel_rfl) (fun _ _ _ h => h) (Or.inl ⟨by rfl, ?_⟩) ?_ ?_
              rotate_left
              · intro w'
                go_simp
                with_reducible rfl
              rotate_left
              · simp only [Act.put, List.setIfInBounds_toArray, List.set_cons_zero, List.set_cons_succ]
                rfl
              refine take_ (i := 8) (N := some 120) (v := .int .i64 no) (a' := ?_) #[true, true, true, true, true, true, true, true, true, false, false, false, false, false, false, false, false] rfl rfl (by kernel_rfl) (fun _ _ _ h => h) (Or.inl ⟨by rfl, ?_⟩) hHeld ?_ ?_
              · intro w' s0
                have s1 := (HAT.out w' s0).1
                first | (go_simp; done) | (go_simp; with_reducible rfl)
              rotate_left
              · simp only [Act.put, List.setIfInBounds_toArray, List.set_cons_zero, List.set_cons_succ]
                rfl
              refine pure_ (i := 9) (N := some 121) (v := .int .i64 (64 + no)) (a' := ?_) #[true, true, true, true, true, true, true, true, true, true, false, false, false, false, false, false, false] rfl rfl (by kernel_rfl) (fun _ _ _ h => h) (Or.inl ⟨by rfl, ?_⟩) ?_ ?_
              · intro w'
                first | (go_simp; done) | (go_simp; rw [h64])
              rotate_left
              · simp only [Act.put, List.setIfInBounds_toArray, List.set_cons_zero, List.set_cons_succ]
                rfl
              refine pure_ (i := 10) (N := some 122) (v := ?_) (a' := ?_) #[true, true, true, true, true, true, true, true, true, true, true, false, false, false, false, false, false] rfl rfl (by kernel_rfl) (fun _ _ _ h => h) (Or.inl ⟨by rfl, ?_⟩) ?_ ?_
              rotate_left
              · intro w'
                go_simp
                with_reducible rfl
              rotate_left
              · simp only [Act.put, List.setIfInBounds_toArray, List.set_cons_zero, List.set_cons_succ]
                rfl
              refine pure_ (i := 11) (N := some 123) (v := ?_) (a' := ?_) #[true, true, true, true, true, true, true, true, true, true, true, true, false, false, false, false, false] rfl rfl (by kernel_rfl) (fun _ _ _ h => h) (Or.inl ⟨by rfl, ?_⟩) ?_ ?_
              rotate_left
              · intro w'
                go_simp
                with_reducible rfl
              rotate_left
              · simp only [Act.put, List.setIfInBounds_toArray, List.set_cons_zero, List.set_cons_succ]
                rfl
              refine pure_ (i := 12) (N := some 124) (v := .pointer (some (ad.add (j * 2)))) (a' := ?_) #[true, true, true, true, true, true, true, true, true, true, true, true, true, false, false, false, false] rfl rfl (by kernel_rfl) (fun _ _ _ h => h) (Or.inl ⟨by rfl, ?_⟩) ?_ ?_
              · intro w'
                first | (go_simp; done) | (go_simp; rw [if_pos (show j < k by omega)])
              rotate_left
              · simp only [Act.put, List.setIfInBounds_toArray, List.set_cons_zero, List.set_cons_succ]
                rfl
              refine pure_ (i := 13) (N := some 125) (v := ?_) (a' := ?_) #[true, true, true, true, true, true, true, true, true, true, true, true, true, true, false, false, false] rfl rfl (by kernel_rfl) (fun _ _ _ h => h) (Or.inl ⟨by rfl, ?_⟩) ?_ ?_
              rotate_left
              · intro w'
                go_simp
                with_reducible rfl
              rotate_left
              · simp only [Act.put, List.setIfInBounds_toArray, List.set_cons_zero, List.set_cons_succ]
                rfl
              refine take_ (i := 14) (N := some 126) (v := .slice B1 lb c1) (a' := ?_) #[true, true, true, true, true, true, true, true, true, true, true, true, true, true, true, false, false] rfl rfl (by kernel_rfl) (fun _ _ _ h => h) (Or.inl ⟨by rfl, ?_⟩) hHeld ?_ ?_
              · intro w' s0
                have s1 := (HAT.out w' s0).2
                first | (go_simp; done) | (go_simp; with_reducible rfl)
              rotate_left
              · simp only [Act.put, List.setIfInBounds_toArray, List.set_cons_zero, List.set_cons_succ]
                rfl
              refine last_ (i := 15) (N := some 127) #[true, true, true, true, true, true, true, true, true, true, true, true, true, true, true, true, false] rfl rfl (by kernel_rfl) (by decide) (fun K hK => ?_)
              refine goes_ Try.func59 (by kernel_rfl) rfl #[.pointer (some ⟨g, 0, none⟩), .int .i64 (64 + no), .slice B1 lb c1] (by rfl) rfl rfl (by (try simp only [List.map_toArray, List.map_cons, List.map_nil]); first | done | rfl) ?_
              refine (HWC.out wE HDr.out).mono ?_
              rintro e w8 ⟨rfl, h1, h2, h3⟩
              have HI8 := Aside0.mk h1.rf
              have HB8 := Aside0.mk h2
              have HK8 := Aside0.mk (HKj.out.trans ((KeepR.of_below HDr.out).trans h3.1))
              have HQ8 := Aside0.mk (h3.1.cells (blk_below HQj.out HDr.out) (by decide) (by decide) (by decide))
              have HP8 := Aside0.mk (HPj.out.keep (((KeepR.of_below HDr.out).trans h3.1).t (by decide) (by decide) (by decide)) (((KeepR.of_below HDr.out).trans h3.1).t (by decide) (by decide) (by decide)))
              clear h1 h2 h3
              refine ⟨_, rfl, ?_⟩
              refine hK.out _ _ ?_
              clear hK K hHeld hdr h64
              refine pure_ (i := 16) (N := some 12) (v := ?_) (a' := ?_) #[true, true, true, true, true, true, true, true, true, true, true, true, true, true, true, true, true] rfl rfl (by kernel_rfl) (fun _ _ _ h => h) (Or.inl ⟨by rfl, ?_⟩) ?_ ?_
              rotate_left
              · intro w'
                go_simp
                with_reducible rfl
              rotate_left
              · simp only [Act.put, List.setIfInBounds_toArray, List.set_cons_zero, List.set_cons_succ]
                rfl
              refine done_ (by kernel_rfl) ?_
              clear q0
              by_cases hz2 : e3 = 0
              case neg =>
                have g6 : (e3 != 0) = true := by simp [hz2]
                have hne : (writeD (wrD d2 ((pgW l).take j)).1 (64 + no) pb).2 ≠ 0 := by rw [← HE3.out]; exact hz2
                have hcm := HCM3.out
                have hwe : writesD d2 l = writeD (wrD d2 ((pgW l).take j)).1 (64 + no) pb := by
                  unfold writesD
                  rw [HNX.out.2 hne, if_neg hne]
                rw [hwe, ← HE3.out] at hcm
                have HCM := Aside0.mk hcm
                clear hcm hne hz2 hwe
                go_wp2
                go_ret
                exact ⟨by rw [HCM.out]; rfl, r3, HI8.out, by rw [HCM.out]; exact HSW.out.up (by have := HC.out.2.2; omega), HB8.out, HK8.out, by rw [HCM.out]; exact HQ8.out⟩
              have g6 : (e3 != 0) = false := by simp [hz2]
              have HW8 := Aside0.mk (show (wrD d2 ((pgW l).take (j + 1))).2 = 0 from by rw [HNX.out.1, ← HE3.out]; exact hz2)
              have HS8 := Aside0.mk (show Sim (wrD d2 ((pgW l).take (j + 1))).1 r3 (B + 130 + 2 * (j + 1)) from by rw [HNX.out.1]; exact HSW.out.up (by omega))
              clear hz2
              go_wp2
              go_roundw
              case rel => exact ⟨j + 1, r3, by omega, by go_num, HW8, HI8, HS8, HB8, HK8, HQ8, HP8⟩
              case measure => simp [intOf]; omega
            · obtain rfl : j = k := by omega
              have g7 : decide ((j : Int) < j) = false := decide_eq_false (by omega)
              have htk : (pgW l).take j = pgW l := List.take_of_length_le (by rw [HXA2.out]; exact Nat.le_refl _)
              rw [htk] at HWj HSj
              have hfl := sim_flush HSj.out
              have hok := sim_ok HSj.out (by have := HBB.out.1; have := HC.out.2.2; omega)
              have hcf := rflush_calls base g rj w wr HIj.out HBj.out hok.1 hok.2.1 hok.2.2.1 hok.2.2.2.1
              rw [← hfl.2] at hcf
              have hcm := HCM3.out
              have hwe : writesD d2 l = flushD (wrD d2 (pgW l)).1 := by
                unfold writesD
                rw [if_pos HWj.out, if_neg (by rw [HLN.out]; exact HZ.out)]
              rw [hwe] at hcm
              have HCM := Aside0.mk hcm
              have HCF := Aside0.mk hcf
              have HSF := Aside0.mk hfl.1
              have q0 : wr.cell? ⟨gv, 0, none⟩ = some (.pointer (some ⟨g, 0, none⟩)) := (blk_cell HQj.out 0).trans rfl
              clear hfl hok hcf hcm hwe htk
              go_wp2_with (go_at_call 60; refine HCF.out.mono ?_; rintro e w9 ⟨rfl, h1, h2, h3⟩; have HI9 := Aside0.mk h1; have HB9 := Aside0.mk h2; have HK9 := Aside0.mk (HKj.out.trans h3); have HQ9 := Aside0.mk (h3.cells HQj.out (by decide) (by decide) (by decide)); clear h1 h2 h3)
              go_ret
              exact ⟨by rw [HCM.out]; rfl, _, HI9.out, by rw [HCM.out]; exact HSF.out.up (by have := HC.out.2.2; omega), HB9.out, HK9.out, by rw [HCM.out]; exact HQ9.out⟩
end Go.Proofs.Ytmghgghheebnjaa.Dis
namespace Go.Proofs.Ytmghgghheebnjaa.Dis
open Go.RowKit Go.Proofs.YtmghgghheebnjaaW.PrintWords Go.Proofs.YtmghgghheebnjaaW.PrintLast Go.Proofs.YtmghgghheebnjaaW.PrintMore Go.Maps Go.Proofs.Ytmghgghheebnjaa.PWalRecords
set_option linter.unusedVariables false
set_option linter.unusedSimpArgs false
theorem info4' : (Try.prog.info? 4).map (fun i => (i.zero, i.size, i.bytes)) = some (some (.bool false), 1, 1) := by kernel_rfl
theorem cell_on {w w1 : World} {p : Addr} {v : Value} (h : w.cell? p = some v) (hb : Below w.heap.size w w1) : w1.cell? p = some v := (hb.cell (World.block_lt_of_cell? w p h)).trans h
theorem lies_bool {W : World} {b0 : Nat} {ok : Nat → Prop} {A : Option Addr} {c : Nat} {b : List Bool} (h : Kd.R Kd.bool 4 W b0 ok (.slice A b.length c) b) : ∀ W', KeepD W W' → Kd.C Kd.bool W' A b.length b := fun W' hk =>
  (Kd.R_reads' (R_keep h hk.w (by intro q hq; simp [Kd.bool, Kd.scalar] at hq; omega))).2.2
theorem und9r : Try.prog.underlying 9 = some .string := by kernel_rfl
theorem bytes_stringr {w : World} {A : Option Addr} {n c : Nat} {xs : List Int} (h : (Kd.int .u8).C w A n xs) : (convert 56 9 (.slice A n c)).run Try.prog w = .ok (.string (strOfNums xs)) w := Kd.C_string Try.underlying56 Try.underlying5 und9r h
theorem exec_convr {o : Oper} {a : Act} {W : World} {x : Operand} {v : Value} {s : ByteArray} (ho : o.op = .convert 56 9 x) (hx : a.eval x = v) (hrun : (convert 56 9 v).run Try.prog W = .ok (.string s) W) : (execOp a.eval o).run Try.prog W = .ok (.value (.string s)) W := by
  simp [execOp, ho, hx, hrun]
section
variable {P : Program} {ops : Array Oper} {Q : Exit → Act → World → Prop} {md : Region.Mode}
theorem stronger {S S' : World → Prop} (himp : ∀ w, S' w → S w) : ∀ (fuel : Nat) (l : Array Bool) (a : Act) (w : World), S' w → wpAnyLast P md ops Q S' [] fuel l a w → wpAnyLast P md ops Q S [] fuel l a w
  | 0, _, _, _, _, h => h
  | fuel + 1, l, a, w, hS, h => ⟨h.1, fun i hi => wpOp_mono (fun a' w' h' => ⟨fun _ _ => himp _ (h'.1 (by simp) hS), stronger himp fuel _ a' w' (h'.1 (by simp) hS) h'.2⟩) (h.2 i hi)⟩
end
theorem IsRf.lower {base base' g : Nat} {w : World} {r : Rf} (h : IsRf base w g r) (hb : base' ≤ base) : IsRf base' w g r := by
  obtain ⟨vA, vB, vT, vW, h⟩ := h
  exact ⟨vA, vB, vT, vW, h.blk, Nat.le_trans hb h.ge, Kd.R_lower h.rA hb, Kd.R_lower h.rB hb, Kd.R_lower h.rT hb, Kd.R_lower h.rW hb, h.sA, h.sB⟩
theorem row_partsB {w : World} {base : Nat} {ok : Nat → Prop} {v : Value} {xs : List Int} (h : Kd.R byteK 5 w base ok v xs) : ∃ A n c, v = .slice A n c ∧ n = xs.length ∧ Kd.C byteK w A n xs := by
  obtain ⟨A, c, rfl⟩ := Kd.R_slice h
  exact ⟨A, xs.length, c, rfl, rfl, (Kd.R_reads' h).2.2⟩
set_option maxHeartbeats 16000000 in
set_option maxRecDepth 100000 in
theorem alike_c (base g gr : Nat) (d : D) (r : Rf) (B : Nat) (W : World) (h : IsD base W g d) (hr : IsRf base W gr r) (hs : Sim d r B) (hB : B ≤ 50000) :
    Calls Try.prog 33 #[.pointer (some ⟨g, 0, none⟩), .pointer (some ⟨gr, 0, none⟩)] W fun e w' => e = .returned (.bool true) ∧ Below W.heap.size W w' := by
  have HD := Aside0.mk h
  have HR := Aside0.mk hr
  have HS := Aside0.mk (And.intro hs hB)
  clear h hr hs hB
  go_enter Try.func33, Try.ntmps33
  go_wp2_with fail
  go_loopw [5] (fun x wr => ∃ (k : Nat), k ≤ 80 ∧ x = .int .i64 k ∧ Aside0 (Below W.heap.size W wr)) (fun x _ => 80 - (intOf x).toNat)
  case atStart => exact ⟨0, Nat.zero_le _, rfl, ⟨Below.refl _ _⟩⟩
  case round =>
    obtain ⟨k, hk, rfl, HBk⟩ := hrel
    by_cases hlt : k < 80
    · have f1 : decide ((k : Int) < 80) = true := decide_eq_true (by omega)
      have hok := sim_ok HS.out.1 (by have := HS.out.2; omega)
      have HC1 := Aside0.mk (fun (w1 : World) (hb : Below W.heap.size W w1) => bytes_calls base g d (k : Int) ⟨by omega, by omega⟩ w1 (HD.out.below hb))
      have HC2 := Aside0.mk (fun (w1 : World) (hb : Below W.heap.size W w1) => rbytes_calls base gr r (k : Int) w1 (HR.out.below hb) hok.2.1 (by have := hok.2.2.2.1; omega))
      obtain ⟨b, hb⟩ : ∃ b, b = bytesD d (k : Int) := ⟨_, rfl⟩
      rw [← hb] at HC1
      rw [← sim_bytes HS.out.1 (k : Int), ← hb] at HC2
      obtain ⟨sx, hsx⟩ : ∃ sx, sx = strOfNums b := ⟨_, rfl⟩
      have HSX := Aside0.mk hsx
      clear hok hb hsx
      go_upto_region 4 with fail
      have hdr : Below W.heap.size W wr.drew := HBk.out.trans ((below_drew (Below.refl wr.heap.size wr)).mono HBk.out.size)
      refine start_ (n := 9) (S := fun w' => Below W.heap.size W w') (ds := []) #[false, false, false, false, false, false, false, false, false] (by kernel_rfl) rfl rfl hdr (fun hHeld => ?_)
      generalize wr.drew = wD at hdr hHeld ⊢
      refine pure_ (i := 0) (N := some 10) (v := ?_) (a' := ?_) #[true, false, false, false, false, false, false, false, false] rfl rfl (by kernel_rfl) (fun _ _ _ h => h) (Or.inl ⟨by rfl, ?_⟩) ?_ ?_
      rotate_left
      · intro w'
        go_simp
        with_reducible rfl
      rotate_left
      · simp only [Act.put, List.setIfInBounds_toArray, List.set_cons_zero, List.set_cons_succ]
        rfl
      refine pure_ (i := 1) (N := some 11) (v := ?_) (a' := ?_) #[true, true, false, false, false, false, false, false, false] rfl rfl (by kernel_rfl) (fun _ _ _ h => h) (Or.inl ⟨by rfl, ?_⟩) ?_ ?_
      rotate_left
      · intro w'
        go_simp
        with_reducible rfl
      rotate_left
      · simp only [Act.put, List.setIfInBounds_toArray, List.set_cons_zero, List.set_cons_succ]
        rfl
      refine pure_ (i := 4) (N := some 14) (v := ?_) (a' := ?_) #[true, true, false, false, true, false, false, false, false] rfl rfl (by kernel_rfl) (fun _ _ _ h => h) (Or.inl ⟨by rfl, ?_⟩) ?_ ?_
      rotate_left
      · intro w'
        go_simp
        with_reducible rfl
      rotate_left
      · simp only [Act.put, List.setIfInBounds_toArray, List.set_cons_zero, List.set_cons_succ]
        rfl
      refine pure_ (i := 5) (N := some 15) (v := ?_) (a' := ?_) #[true, true, false, false, true, true, false, false, false] rfl rfl (by kernel_rfl) (fun _ _ _ h => h) (Or.inl ⟨by rfl, ?_⟩) ?_ ?_
      rotate_left
      · intro w'
        go_simp
        with_reducible rfl
      rotate_left
      · simp only [Act.put, List.setIfInBounds_toArray, List.set_cons_zero, List.set_cons_succ]
        rfl
      refine one_ (i := 2) (N := some 12) #[true, true, true, false, true, true, false, false, false] rfl rfl (by kernel_rfl) (by decide) (fun K hK => ?_)
      refine goes_ Try.func26 (by kernel_rfl) rfl #[.pointer (some ⟨g, 0, none⟩), .int .i64 (k : Int)] (by rfl) rfl rfl (by (try simp only [List.map_toArray, List.map_cons, List.map_nil]); first | done | rfl) ?_
      refine (HC1.out wD hHeld).mono ?_
      rintro e w1 ⟨v1, rfl, h1, h2⟩
      obtain ⟨A1, n1, c1, rfl, _, hC1⟩ := row_partsB h1
      have hb1 := hHeld.trans (h2.mono hHeld.size)
      refine ⟨_, rfl, ?_⟩
      refine hK.out _ _ hb1 (fun hHeld => ?_)
      clear hK K h1 h2
      refine stronger (S' := fun w' => Below W.heap.size W w' ∧ Below w1.heap.size w1 w') (fun w' h => h.1) _ _ _ _ ⟨hb1, Below.refl _ _⟩ ?_
      have hHeld : Below W.heap.size W w1 ∧ Below w1.heap.size w1 w1 := ⟨hb1, Below.refl _ _⟩
      refine take_ (i := 3) (N := some 13) (v := .string sx) (a' := ?_) #[true, true, true, true, true, true, false, false, false] rfl rfl (by kernel_rfl) (fun _ _ _ h => h) (Or.inl ⟨by rfl, ?_⟩) hHeld ?_ ?_
      · intro w' s0
        rw [HSX.out]
        exact exec_convr (x := .tmp 12) rfl rfl (bytes_stringr (c := c1) (Kd.C_below hC1 s0.2))
      rotate_left
      · simp only [Act.put, List.setIfInBounds_toArray, List.set_cons_zero, List.set_cons_succ]
        rfl
      refine one_ (i := 6) (N := some 16) #[true, true, true, true, true, true, true, false, false] rfl rfl (by kernel_rfl) (by decide) (fun K hK => ?_)
      refine goes_ Try.func61 (by kernel_rfl) rfl #[.pointer (some ⟨gr, 0, none⟩), .int .i64 (k : Int)] (by rfl) rfl rfl (by (try simp only [List.map_toArray, List.map_cons, List.map_nil]); first | done | rfl) ?_
      refine (HC2.out w1 hb1).mono ?_
      rintro e w2 ⟨v2, rfl, h1, h2⟩
      obtain ⟨A2, n2, c2, rfl, _, hC2⟩ := row_partsB h1
      have hb2 := hb1.trans (h2.mono hb1.size)
      refine ⟨_, rfl, ?_⟩
      refine hK.out _ _ ⟨hb2, h2⟩ (fun hHeld => ?_)
      clear hK K h1
      refine one_ (i := 7) (N := some 17) #[true, true, true, true, true, true, true, true, false] rfl rfl (by kernel_rfl) (by decide) (fun K hK => ?_)
      refine value_ (by rfl) rfl (v := .string sx) (w1 := w2) (by rw [HSX.out]; exact exec_convr (x := .tmp 16) rfl rfl (bytes_stringr (c := c2) hC2)) ?_
      refine hK.out _ _ hHeld (fun hHeld => ?_)
      clear hK K
      refine pure_ (i := 8) (N := some 18) (v := .bool false) (a' := ?_) #[true, true, true, true, true, true, true, true, true] rfl rfl (by kernel_rfl) (fun _ _ _ h => h) (Or.inl ⟨by rfl, ?_⟩) ?_ ?_
      · intro w'
        first | (go_simp; done) | (go_simp; simp)
      rotate_left
      · simp only [Act.put, List.setIfInBounds_toArray, List.set_cons_zero, List.set_cons_succ]
        rfl
      refine done_ (by kernel_rfl) ?_
      have HB2 := Aside0.mk hb2
      clear hHeld hdr hb1 hb2 hC1 hC2 h2
      go_wp2
      go_roundw
      case rel => exact ⟨k + 1, by omega, by go_num, HB2⟩
      case measure => simp [intOf]; omega
    · obtain rfl : k = 80 := by omega
      have f1 : decide (((80 : Nat) : Int) < 80) = false := by decide
      go_wp2
      go_ret
      exact ⟨rfl, HBk.out⟩
theorem IsD.keepG {base g gv : Nat} {w w' : World} {d : D} {cs : Array Value} (h : IsD base w g d) (hk : KeepG gv w w') (hlt : gv < w.heap.size) (hv : w.heap[gv]? = some (.cells cs 76 (0, 0))) : IsD base w' g d := by
  -- the world in which the log's own block stands as it did
  have hb : ∀ (i : Nat) (o : Obj), w.heap[i]? = some o → (∀ cs t fr, o = Obj.cells cs t fr → t ≠ 98 ∧ t ≠ 3 ∧ t ≠ 56 ∧ t ≠ 76) → w'.heap[i]? = some o := fun i o hi ho => by
    refine hk.2 i o hi (fun e => ?_) (fun cs t fr he => ⟨(ho cs t fr he).1, (ho cs t fr he).2.1, (ho cs t fr he).2.2.1⟩)
    subst e
    rw [hv] at hi
    injection hi with hi
    exact (ho _ _ _ hi.symm).2.2.2 rfl
  obtain ⟨hok, b, v, m, hb0, hg, hbb, hm, hM, hR⟩ := h
  obtain ⟨h0, D, hD, ⟨es', cl', he', hrest⟩, h2⟩ := hM
  refine ⟨hok, b, v, m, hb _ _ hb0 (fun _ _ _ e => by injection e with _ e _; subst e; decide), hg, hbb, hm, ⟨h0, D, hD, ⟨es', cl', hb b _ he' (fun _ _ _ e => by cases e), hrest⟩, h2⟩, R_kept hR (fun k cs q hq hc => ?_)⟩
  have hq' : q = 106 := by simpa [wrK] using hq
  subst hq'
  exact hb _ _ hc (fun _ _ _ e => by injection e with _ e _; subst e; decide)
set_option maxHeartbeats 64000000 in
set_option maxRecDepth 100000 in
theorem acts_calls (W : World) (l : List Act_) (A : Option Addr) (ca R : Nat) (hC : Kd.C actK W A l.length l) (hca : l.length ≤ ca) (hR : R ≤ 140737488351232) (hok : ∀ a ∈ l, OkA a R) :
    Calls Try.prog 8 #[.slice A l.length ca] W fun e w' => e = .returned (.bool true) ∧ Below W.heap.size W w' := by
  obtain ⟨n, hn⟩ : ∃ n, n = l.length := ⟨_, rfl⟩
  have hmx : n ≤ 9223372036854775807 := by rw [hn]; exact hC.2.1
  rw [← hn] at hC hca ⊢
  have HC := Aside0.mk hC
  have HN := Aside0.mk hn
  have HOK := Aside0.mk hok
  have INF := Aside0.mk info4'
  clear hC hn hok
  go_enter Try.func8, Try.ntmps8
  go_upto_region 2 with (first
    | (go_at_call 16; refine (new_calls 72 W).mono ?_; rintro e w1 ⟨g, rfl, h1, h2, h3⟩; rw [new_fresh (by decide) (by decide)] at h1; have HD1 := Aside0.mk h1; have HB1 := Aside0.mk h3; clear h1 h2 h3)
    | (go_at_call 31; refine (rnew_calls 72 w1).mono ?_; rintro e w2 ⟨gr, rfl, h1, h2, h3⟩; have HI2 := Aside0.mk (h1.lower HB1.out.size); have HD2 := Aside0.mk (HD1.out.below h3); have HB2 := Aside0.mk (HB1.out.trans (h3.mono HB1.out.size)); clear h1 h2 h3))
  go_wp2_with fail
  go_loopw [5] (fun x wr => ∃ (k : Nat) (d : D) (r : Rf), k ≤ n ∧ k ≤ 8 ∧ x = .int .i64 k ∧ Aside0 (IsD W.heap.size wr g d) ∧ Aside0 (IsRf W.heap.size wr gr r) ∧ Aside0 (Below W.heap.size W wr) ∧ Aside0 (Sim d r (900 * k)) ∧ Aside0 (Live d ∧ d.since = [] ∧ d.n = 72)) (fun x _ => 8 - (intOf x).toNat)
  case atStart => exact ⟨0, freshD 72, newR 72, Nat.zero_le _, Nat.zero_le _, rfl, HD2, HI2, HB2, ⟨sim_fresh⟩, ⟨⟨rfl, rfl⟩, rfl, rfl⟩⟩
  case round =>
    obtain ⟨k, d, r, hk, hk8, rfl, HDk, HIk, HBk, HSk, HFk⟩ := hrel
    by_cases hlt : k < n
    · have f1 : decide ((k : Int) < n) = true := decide_eq_true (by omega)
      by_cases hlt2 : k < 8
      · have f2 : decide ((k : Int) < 8) = true := decide_eq_true (by omega)
        obtain ⟨ad, A0, c0, A2, c2, hA, hc0, hc1, hc2, hle0, hC0, hle2, hC2⟩ := act_at HC.out k hlt
        subst hA
        have hOA := HOK.out (l.getD k act0) (by rw [List.getD_eq_getElem?_getD, List.getElem?_eq_getElem (by rw [← HN.out]; exact hlt)]; exact List.getElem_mem _)
        obtain ⟨a, ha⟩ : ∃ a, a = l.getD k act0 := ⟨_, rfl⟩
        rw [← ha] at hc0 hc1 hc2 hle0 hC0 hle2 hC2 hOA
        have HAK := Aside0.mk (show ∀ w', Below W.heap.size W w' → w'.cell? (ad.add (k * 3)) = some (.slice A0 a.1.length c0) ∧ w'.cell? ⟨(ad.add (k * 3)).block, (ad.add (k * 3)).off + 1, none⟩ = some (.int .i64 a.2.1) ∧ w'.cell? ⟨(ad.add (k * 3)).block, (ad.add (k * 3)).off + 2, none⟩ = some (.slice A2 a.2.2.length c2) ∧ Kd.C putK w' A0 a.1.length a.1 ∧ Kd.C Kd.bool w' A2 a.2.2.length a.2.2 from fun w' hb => ⟨cell_on hc0 hb, cell_on hc1 hb, cell_on hc2 hb, Kd.C_below hC0 hb, Kd.C_below hC2 hb⟩)
        obtain ⟨lp, arm, kp⟩ := a
        dsimp only at hc0 hc1 hc2 hle0 hC0 hle2 hC2 HAK
        have HOA := Aside0.mk hOA
        clear hOA ha hc0 hc1 hc2 hC0 hC2
        have HKW := Aside0.mk (show ∀ w', Below W.heap.size W w' → Kd.C Kd.bool w' A2 kp.length kp from fun w' hb => (HAK.out w' hb).2.2.2.2)
        have HPO := Aside0.mk (show ∀ p ∈ pagesW lp, thereB 72 p.f0 = true ∧ p.f1.length = 512 ∧ BytesOk p.f1 from pagesW_ok (fun p hp => by have := HOA.out.puts p hp; exact ⟨this.2.1, this.2.2⟩))
        have HPN := Aside0.mk (show (pagesW lp).length ≤ 70 by unfold pagesW; rw [List.length_map, List.length_take]; omega)
        obtain ⟨d1, d2, d3, s, s', e, o1, o2, o3, o4, o5, o6, o7, o8, o9, o10, o11, o12, o13, o14, o15, o16⟩ := seqs_step (d := d) HFk.out.1 HFk.out.2.1 (by rw [HFk.out.2.2]; decide) (sec_of HDk.out) (l := pagesW lp) (by rw [HFk.out.2.2]; exact HPO.out) arm kp
        obtain ⟨d1', p1, p2, p3, p4, p5, p6⟩ := open_live HFk.out.1 HFk.out.2.1 (by rw [HFk.out.2.2]; decide) (sec_of HDk.out)
        have hdd : d1' = d1 := by rw [p1] at o1; injection o1 with h1 _
        subst hdd
        have hcnt := HSk.out.cnt
        have HO1 := Aside0.mk o1
        have HO6 := Aside0.mk o6
        have HO10 := Aside0.mk o10
        have HSS := Aside0.mk (show s = seqTo d 64 ∧ 0 ≤ s ∧ s < 18446744073709551616 ∧ d1'.n = 72 from ⟨o2, o3, o4, by rw [p4]; exact HFk.out.2.2⟩)
        have HCN := Aside0.mk (show d.cnt ≤ 900 * k ∧ d1'.cnt ≤ d.cnt + 64 ∧ d2.cnt ≤ d.cnt + 192 from ⟨hcnt, o5, o9⟩)
        have HNX := Aside0.mk (show Live d3 ∧ d3.since = [] ∧ d3.n = 72 from ⟨o11, o12, by rw [o13]; exact HFk.out.2.2⟩)
        clear o1 o2 o3 o4 o5 o6 o7 o8 o9 o10 o11 o12 o13 o14 o15 o16 p1 p2 p3 p4 p5 p6 hcnt
        obtain ⟨hc0, hc1, hc2, hC0, hC2⟩ := HAK.out wr HBk.out
        clear hC0 hC2
        go_upto_region 6 with fail
        obtain ⟨gb, hgb⟩ : ∃ gb, gb = wr.heap.size := ⟨_, rfl⟩
        obtain ⟨w3, hw3⟩ : ∃ w3, w3 = wr.alloc (.cells #[.slice A0 lp.length c0, .int .i64 arm, .slice A2 kp.length c2] 46) := ⟨_, rfl⟩
        have hb3 : Below wr.heap.size wr w3 := by rw [hw3]; exact below_alloc (Below.refl _ _) _
        have hq3 : w3.heap[gb]? = some (.cells #[.slice A0 lp.length c0, .int .i64 arm, .slice A2 kp.length c2] 46 (0, 0)) := by rw [hw3, hgb]; exact blk_new wr _
        rw [← hw3, ← hgb]
        have HQ3 := Aside0.mk hq3
        have HD3 := Aside0.mk (HDk.out.below hb3)
        have HI3 := Aside0.mk (HIk.out.below hb3)
        have HB3 := Aside0.mk (HBk.out.trans (hb3.mono HBk.out.size))
        clear hw3 hgb hb3 hq3 hc0 hc1 hc2
        go_upto_region 7 with (go_at_call 17; refine (open_c W.heap.size g d W w3 HD3.out HB3.out (Nat.le_refl _) (by have := HCN.out.1; omega)).mono ?_; rintro e w6 ⟨v6, rfl, h1, h2, h3, _, h5⟩; rw [HO1.out] at h1 h5 ⊢; obtain ⟨gw, rfl, hg, hw⟩ := h5 rfl; have HD6 := Aside0.mk h1; have HB6 := Aside0.mk h2; have HW6 := Aside0.mk hw; have HG6 := Aside0.mk (show W.heap.size ≤ gw from Nat.le_trans HB3.out.size hg); have HI6 := Aside0.mk (HI3.out.keepD h3); have HQ6 := Aside0.mk (h3.2 _ _ _ _ HQ3.out (by decide) (by decide)); clear h1 h2 h3 h5 hg hw)
        go_upto_region 8 with (go_at_call 32; refine (ropen_c W.heap.size gr d r (900 * k) W w6 HI6.out HSk.out (by omega) HFk.out.1 HFk.out.2.1 (by rw [HFk.out.2.2]; decide) (by rw [HFk.out.2.2]; decide) (sec_of HDk.out) HB6.out (Nat.le_refl _)).mono ?_; rintro e w7 ⟨gv, rfl, r1, h1⟩; have h1s := h1.sim; have h1b := h1.blk; rw [HO1.out] at h1s; rw [← HSS.out.1] at h1b; have HS7 := Aside0.mk h1s; have HV7 := Aside0.mk h1b; have HI7 := Aside0.mk h1.rf; have HB7 := Aside0.mk h1.bel; have HD7 := Aside0.mk (HD6.out.keepR h1.keep); have HW7 := Aside0.mk (HW6.out.keepR h1.keep); have HGV := Aside0.mk (show W.heap.size ≤ gv from Nat.le_trans HB6.out.size h1.ge); have HQ7 := Aside0.mk (h1.keep.cells HQ6.out (by decide) (by decide) (by decide)); clear h1 h1s h1b)
        go_upto_region 11 with (go_at_call 33; refine (alike_c W.heap.size g gr d1' r1 (900 * k + 400) w7 HD7.out HI7.out HS7.out (by omega)).mono ?_; rintro e w8 ⟨rfl, h1⟩; have HI8 := Aside0.mk (HI7.out.below h1); have HD8 := Aside0.mk (HD7.out.below h1); have HW8 := Aside0.mk (HW7.out.below h1); have HB8 := Aside0.mk (HB7.out.trans (h1.mono HB7.out.size)); have HQ8 := Aside0.mk (blk_below HQ7.out h1); have HV8 := Aside0.mk (blk_below HV7.out h1); clear h1)
        have b1 : w8.cell? ⟨gb, 1, none⟩ = some (.int .i64 arm) := (blk_cell HQ8.out 1).trans rfl
        go_upto_region 12 with (go_at_call 19; refine (arm_calls W.heap.size g d1' arm HOA.out.arm.2 W w8 HD8.out HB8.out).mono ?_; rintro e w9 ⟨rfl, h1, h2, h3⟩; have HD9 := Aside0.mk h1; have HB9 := Aside0.mk h2; have HW9 := Aside0.mk (HW8.out.keep h3); have HI9 := Aside0.mk (HI8.out.keepD h3); have HQ9 := Aside0.mk (h3.2 _ _ _ _ HQ8.out (by decide) (by decide)); have HV9 := Aside0.mk (h3.2 _ _ _ _ HV8.out (by decide) (by decide)); clear h1 h2 h3)
        have b2 : w9.cell? ⟨gb, 1, none⟩ = some (.int .i64 arm) := (blk_cell HQ9.out 1).trans rfl
        clear b1
        have HS9 := Aside0.mk (sim_arm HS7.out arm HOA.out.arm.2)
        go_upto_region 13 with (go_at_call 34; refine (rarm_calls W.heap.size gr r1 arm W w9 HI9.out HB9.out).mono ?_; rintro e w10 ⟨rfl, h1, h2, h3⟩; have HI10 := Aside0.mk h1; have HB10 := Aside0.mk h2; have HD10 := Aside0.mk (HD9.out.keepR h3); have HW10 := Aside0.mk (HW9.out.keepR h3); have HQ10 := Aside0.mk (h3.cells HQ9.out (by decide) (by decide) (by decide)); have HV10 := Aside0.mk (h3.cells HV9.out (by decide) (by decide) (by decide)); clear h1 h2 h3)
        have b3 : w10.cell? ⟨gb, 0, none⟩ = some (.slice A0 lp.length c0) := (blk_cell HQ10.out 0).trans rfl
        clear b2
        go_upto_region 14 with (go_at_call 21; refine (pages_calls w10 A0 lp.length c0 lp (HAK.out w10 HB10.out).2.2.2.1).mono ?_; rintro e w11 ⟨v11, rfl, h1, h2⟩; obtain ⟨Ap, cp, rfl, hcp, hpl⟩ := pgL_of_R h1; obtain ⟨Ap2, cp2, he2, _, hpb⟩ := pgB_of_R h1; injection he2 with he2 _ he3; subst he2; subst he3; have HR11 := Aside0.mk h1; have HPL := Aside0.mk hpl; have HPB := Aside0.mk hpb; have HCP := Aside0.mk hcp; have HD11 := Aside0.mk (HD10.out.below h2); have HI11 := Aside0.mk (HI10.out.below h2); have HW11 := Aside0.mk (HW10.out.below h2); have HB11 := Aside0.mk (HB10.out.trans (h2.mono HB10.out.size)); have HQ11 := Aside0.mk (blk_below HQ10.out h2); have HV11 := Aside0.mk (blk_below HV10.out h2); clear h1 h2 hpl hpb hcp)
        clear b3
        have hdr : Below w11.heap.size w11 w11.drew := below_drew (Below.refl _ _)
        have HRd := Aside0.mk (Kd.R_below HR11.out hdr)
        have HPLd := Aside0.mk (HPL.out.keep (KeepW.of_below hdr))
        have HPBd := Aside0.mk (HPB.out.keep ((KeepW.of_below hdr).t (by decide) (by decide) (by decide)) ((KeepW.of_below hdr).t (by decide) (by decide) (by decide)))
        have HDd := Aside0.mk (HD11.out.below hdr)
        have HId := Aside0.mk (HI11.out.below hdr)
        have HWd := Aside0.mk (HW11.out.below hdr)
        have HBd := Aside0.mk (HB11.out.trans (hdr.mono HB11.out.size))
        have HQd := Aside0.mk (blk_below HQ11.out hdr)
        have HVd := Aside0.mk (blk_below HV11.out hdr)
        refine start_ (n := 16) (S := fun _ => True) (ds := []) #[false, false, false, false, false, false, false, false, false, false, false, false, false, false, false, false] (by kernel_rfl) rfl rfl trivial (fun hHeld => ?_)
        generalize w11.drew = wD at hdr hHeld HRd HPLd HPBd HDd HId HWd HBd HQd HVd ⊢
        refine pure_ (i := 0) (N := some 67) (v := ?_) (a' := ?_) #[true, false, false, false, false, false, false, false, false, false, false, false, false, false, false, false] rfl rfl (by kernel_rfl) (fun _ _ _ h => h) (Or.inl ⟨by rfl, ?_⟩) ?_ ?_
        rotate_left
        · intro w'
          go_simp
          with_reducible rfl
        rotate_left
        · simp only [Act.put, List.setIfInBounds_toArray, List.set_cons_zero, List.set_cons_succ]
          rfl
        refine pure_ (i := 1) (N := some 68) (v := ?_) (a' := ?_) #[true, true, false, false, false, false, false, false, false, false, false, false, false, false, false, false] rfl rfl (by kernel_rfl) (fun _ _ _ h => h) (Or.inl ⟨by rfl, ?_⟩) ?_ ?_
        rotate_left
        · intro w'
          go_simp
          with_reducible rfl
        rotate_left
        · simp only [Act.put, List.setIfInBounds_toArray, List.set_cons_zero, List.set_cons_succ]
          rfl
        refine pure_ (i := 3) (N := some 70) (v := ?_) (a' := ?_) #[true, true, false, true, false, false, false, false, false, false, false, false, false, false, false, false] rfl rfl (by kernel_rfl) (fun _ _ _ h => h) (Or.inl ⟨by rfl, ?_⟩) ?_ ?_
        rotate_left
        · intro w'
          go_simp
          with_reducible rfl
        rotate_left
        · simp only [Act.put, List.setIfInBounds_toArray, List.set_cons_zero, List.set_cons_succ]
          rfl
        refine pure_ (i := 4) (N := some 71) (v := ?_) (a' := ?_) #[true, true, false, true, true, false, false, false, false, false, false, false, false, false, false, false] rfl rfl (by kernel_rfl) (fun _ _ _ h => h) (Or.inl ⟨by rfl, ?_⟩) ?_ ?_
        rotate_left
        · intro w'
          go_simp
          with_reducible rfl
        rotate_left
        · simp only [Act.put, List.setIfInBounds_toArray, List.set_cons_zero, List.set_cons_succ]
          rfl
        refine one_ (i := 2) (N := some 69) #[true, true, true, true, true, false, false, false, false, false, false, false, false, false, false, false] rfl rfl (by kernel_rfl) (by decide) (fun K hK => ?_)
        refine goes_ Try.func20 (by kernel_rfl) rfl #[.pointer (some ⟨gw, 0, none⟩), .slice Ap (pagesW lp).length cp] (by rfl) rfl rfl (by (try simp only [List.map_toArray, List.map_cons, List.map_nil]); first | done | rfl) ?_
        refine (commit_c W.heap.size gw g s (armD d1' arm) W wD Ap (pagesW lp).length cp (pagesW lp) HPLd.out HWd.out HDd.out HBd.out (Nat.le_refl _) HG6.out HSS.out.2.1 HSS.out.2.2.1 (fun p hp => (HPO.out p hp).2.2) (by have : (armD d1' arm).cnt = d1'.cnt := rfl; have := HCN.out; omega) (by have := HPN.out; omega)).mono ?_
        rw [HO6.out]
        rintro e' w12 ⟨rfl, h1, h2, h3, h4⟩
        have HD12 := Aside0.mk h1
        have HW12 := Aside0.mk h2
        have HB12 := Aside0.mk h3
        have HI12 := Aside0.mk (HId.out.keepW h4)
        have HR12 := Aside0.mk (R_keep HRd.out h4 (by intro q hq; simp [k58, Kd.iso, Kd.pair, Kd.slice, Kd.int, Kd.scalar] at hq; omega))
        have HPB12 := Aside0.mk (HPBd.out.keep (h4.t (by decide) (by decide) (by decide)) (h4.t (by decide) (by decide) (by decide)))
        have HQ12 := Aside0.mk (h4.2 _ _ _ _ HQd.out (by decide) (by decide) (by decide))
        have HV12 := Aside0.mk (h4.2 _ _ _ _ HVd.out (by decide) (by decide) (by decide))
        have HRC2 := Aside0.mk (rcommit_c W.heap.size gr gv (armD d1' arm) (armR r1 arm) (900 * k + 400 + 2) s (pagesW lp) Ap (pagesW lp).length cp W w12 HI12.out HS9.out (by omega) HV12.out HGV.out HPB12.out (Kd.R_reads' HR12.out).2.2 HCP.out (by have := HPN.out; omega) (fun p hp => by show thereB d1'.n p.f0 = true ∧ _; rw [HSS.out.2.2.2]; exact HPO.out p hp) HSS.out.2.1 HSS.out.2.2.1 (by show 64 < d1'.n; rw [HSS.out.2.2.2]; decide) (by show d1'.n ≤ 4096; rw [HSS.out.2.2.2]; decide) HB12.out (Nat.le_refl _))
        rw [HO6.out] at HRC2
        clear h1 h2 h3 h4
        refine ⟨_, rfl, ?_⟩
        refine hK.out _ _ trivial (fun hHeld => ?_)
        clear hK K
        refine one_ (i := 5) (N := some 72) #[true, true, true, true, true, true, false, false, false, false, false, false, false, false, false, false] rfl rfl (by kernel_rfl) (by decide) (fun K hK => ?_)
        refine goes_ Try.func35 (by kernel_rfl) rfl #[.pointer (some ⟨gv, 0, none⟩), .slice Ap (pagesW lp).length cp] (by rfl) rfl rfl (by (try simp only [List.map_toArray, List.map_cons, List.map_nil]); first | done | rfl) ?_
        refine HRC2.out.mono ?_
        rintro e' w13 ⟨rfl, r3, h1⟩
        have HI13 := Aside0.mk h1.rf
        have HS13 := Aside0.mk (h1.sim.up (show 900 * k + 400 + 2 + 400 ≤ 900 * k + 802 by omega))
        have HB13 := Aside0.mk h1.bel
        have hv13 := h1.blk
        have HD13 := Aside0.mk (HD12.out.keepG h1.keep (blk_lt HV12.out) HV12.out)
        have HW13 := Aside0.mk (show IsWl w13 gw g s' from h1.keep.2 _ _ HW12.out (fun e => by have h := HW12.out; unfold IsWl at h; rw [e, HV12.out] at h; injection h with h; injection h with _ ht _; exact absurd ht (by decide)) (fun cs t fr he => by injection he with _ ht _; subst ht; decide))
        have HQ13 := Aside0.mk (h1.keep.2 _ _ HQ12.out (fun e => by have h := HQ12.out; rw [e, HV12.out] at h; injection h with h; injection h with _ ht _; exact absurd ht (by decide)) (fun cs t fr he => by injection he with _ ht _; subst ht; decide))
        have HV13 := Aside0.mk hv13
        clear h1 hv13
        refine ⟨_, rfl, ?_⟩
        refine hK.out _ _ trivial (fun hHeld => ?_)
        clear hK K
        refine stronger (S' := fun w' => w' = w13) (fun w' h => trivial) _ _ _ _ rfl ?_
        have hHeld : w13 = w13 := rfl
        refine pure_ (i := 6) (N := some 73) (v := .bool false) (a' := ?_) #[true, true, true, true, true, true, true, false, false, false, false, false, false, false, false, false] rfl rfl (by kernel_rfl) (fun _ _ _ h => h) (Or.inl ⟨by rfl, ?_⟩) ?_ ?_
        · intro w'
          first | (go_simp; done) | (go_simp; simp)
        rotate_left
        · simp only [Act.put, List.setIfInBounds_toArray, List.set_cons_zero, List.set_cons_succ]
          rfl
        refine pure_ (i := 7) (N := some 74) (v := ?_) (a' := ?_) #[true, true, true, true, true, true, true, true, false, false, false, false, false, false, false, false] rfl rfl (by kernel_rfl) (fun _ _ _ h => h) (Or.inl ⟨by rfl, ?_⟩) ?_ ?_
        rotate_left
        · intro w'
          go_simp
          with_reducible rfl
        rotate_left
        · simp only [Act.put, List.setIfInBounds_toArray, List.set_cons_zero, List.set_cons_succ]
          rfl
        refine pure_ (i := 8) (N := some 75) (v := ?_) (a' := ?_) #[true, true, true, true, true, true, true, true, true, false, false, false, false, false, false, false] rfl rfl (by kernel_rfl) (fun _ _ _ h => h) (Or.inl ⟨by rfl, ?_⟩) ?_ ?_
        rotate_left
        · intro w'
          go_simp
          with_reducible rfl
        rotate_left
        · simp only [Act.put, List.setIfInBounds_toArray, List.set_cons_zero, List.set_cons_succ]
          rfl
        refine pure_ (i := 10) (N := some 77) (v := ?_) (a' := ?_) #[true, true, true, true, true, true, true, true, true, false, true, false, false, false, false, false] rfl rfl (by kernel_rfl) (fun _ _ _ h => h) (Or.inl ⟨by rfl, ?_⟩) ?_ ?_
        rotate_left
        · intro w'
          go_simp
          with_reducible rfl
        rotate_left
        · simp only [Act.put, List.setIfInBounds_toArray, List.set_cons_zero, List.set_cons_succ]
          rfl
        refine pure_ (i := 11) (N := some 78) (v := ?_) (a' := ?_) #[true, true, true, true, true, true, true, true, true, false, true, true, false, false, false, false] rfl rfl (by kernel_rfl) (fun _ _ _ h => h) (Or.inl ⟨by rfl, ?_⟩) ?_ ?_
        rotate_left
        · intro w'
          go_simp
          with_reducible rfl
        rotate_left
        · simp only [Act.put, List.setIfInBounds_toArray, List.set_cons_zero, List.set_cons_succ]
          rfl
        refine pure_ (i := 12) (N := some 79) (v := ?_) (a' := ?_) #[true, true, true, true, true, true, true, true, true, false, true, true, true, false, false, false] rfl rfl (by kernel_rfl) (fun _ _ _ h => h) (Or.inl ⟨by rfl, ?_⟩) ?_ ?_
        rotate_left
        · intro w'
          go_simp
          with_reducible rfl
        rotate_left
        · simp only [Act.put, List.setIfInBounds_toArray, List.set_cons_zero, List.set_cons_succ]
          rfl
        refine take_ (i := 13) (N := some 80) (v := .int .u64 s') (a' := ?_) #[true, true, true, true, true, true, true, true, true, false, true, true, true, true, false, false] rfl rfl (by kernel_rfl) (fun _ _ _ h => h) (Or.inl ⟨by rfl, ?_⟩) hHeld ?_ ?_
        · intro w' s0
          have s1 : w13.cell? ⟨gv, 1, none⟩ = some (.int .u64 s') := (blk_cell HV13.out 1).trans rfl
          first | (go_simp; done) | (go_simp; with_reducible rfl)
        rotate_left
        · simp only [Act.put, List.setIfInBounds_toArray, List.set_cons_zero, List.set_cons_succ]
          rfl
        refine one_ (i := 9) (N := some 76) #[true, true, true, true, true, true, true, true, true, true, true, true, true, true, false, false] rfl rfl (by kernel_rfl) (by decide) (fun K hK => ?_)
        refine goes_ Try.func24 (by kernel_rfl) rfl #[.pointer (some ⟨gw, 0, none⟩)] (by rfl) rfl rfl (by (try simp only [List.map_toArray, List.map_cons, List.map_nil]); first | done | rfl) ?_
        refine (seq_c HW13.out).mono ?_
        rintro e' w14 ⟨rfl, hw14⟩
        cases hw14
        refine ⟨_, rfl, ?_⟩
        refine hK.out _ _ rfl (fun hHeld => ?_)
        clear hK K
        refine pure_ (i := 14) (N := some 81) (v := .bool false) (a' := ?_) #[true, true, true, true, true, true, true, true, true, true, true, true, true, true, true, false] rfl rfl (by kernel_rfl) (fun _ _ _ h => h) (Or.inl ⟨by rfl, ?_⟩) ?_ ?_
        · intro w'
          first | (go_simp; done) | (go_simp; simp)
        rotate_left
        · simp only [Act.put, List.setIfInBounds_toArray, List.set_cons_zero, List.set_cons_succ]
          rfl
        refine pure_ (i := 15) (N := some 82) (v := .bool false) (a' := ?_) #[true, true, true, true, true, true, true, true, true, true, true, true, true, true, true, true] rfl rfl (by kernel_rfl) (fun _ _ _ h => h) (Or.inl ⟨by rfl, ?_⟩) ?_ ?_
        · intro w'
          first | (go_simp; done) | (go_simp; rfl)
        rotate_left
        · simp only [Act.put, List.setIfInBounds_toArray, List.set_cons_zero, List.set_cons_succ]
          rfl
        refine done_ (by kernel_rfl) ?_
        clear hHeld hdr
        have b5 : w13.cell? ⟨gb, 2, none⟩ = some (.slice A2 kp.length c2) := (blk_cell HQ13.out 2).trans rfl
        go_upto_region 17 with (first
          | ((with_reducible refine gate_dst (N := 84) rfl ?_); refine Kd.R_lit Kd.bool w13.heap.size 4 ?hg (N := 84) ?hd (xs := ([] : List Bool)) (inner := []) (ok := fun _ => True) (okp := fun _ => True) ?hr ?hp (fun _ hk => hk) trivial (Below.refl _ _) (Nat.le_refl _) (by simp) ?_; (case hd => rfl); (case hg => rfl); (case hr => first | (go_simp; done) | (go_simp; rfl)); (case hp => exact (Reps.none _ _)); intro v14 w14 ho4 hb hg_ hnew_; clear hg_ hnew_; have HO14 := Aside0.mk ho4; have HB14 := Aside0.mk hb; have b6 : w14.cell? ⟨gb, 2, none⟩ = some (.slice A2 kp.length c2) := (blk_cell (blk_below HQ13.out hb) 2).trans rfl; clear hb ho4)
          | ((with_reducible refine gate_dst (N := 87) rfl ?_); at_builtin; refine Kd.R_append_rows Kd.bool (w0 := w13) w13.heap.size rfl (.tmp 84) (.tmp 86) 44 4 (.bool false) 1 rfl Try.underlying44 INF.out rfl (by decide) (by omega) v14 [] kp _ _ _ (fun _ => True) (fun _ => False) rfl rfl ?aO ?aR (fun _ _ h => h) (fun _ h => h.elim) ?aF ?aB ?aS ?aL ?_; (case aR => exact Kd.C_below (HKW.out w13 HB13.out) HB14.out); (case aB => exact HB14.out); (case aF => exact (fun _ _ => trivial)); (case aO => exact HO14.out); (case aS => exact HB14.out.size); (case aL => have h9 : kp.length ≤ R := HOA.out.keep; simp; omega); intro v15 w15 ho hb hg hat; obtain ⟨A15, c15, rfl⟩ := Kd.R_slice ho; rw [List.nil_append] at ho; have HO15 := Aside0.mk ho; have HB15 := Aside0.mk hb; clear ho hb hg hat)
          | (go_at_call 23; refine (crash_calls W.heap.size g d2 W w15 (HD13.out.below HB15.out) (HB13.out.trans (HB15.out.mono HB13.out.size)) (Nat.le_refl _) (by have := HCN.out; omega) A15 c15 kp (fun W' h1 _ => lies_bool HO15.out W' h1)).mono ?_; rw [HO10.out]; rintro e w16 ⟨rfl, h1, h2, h3⟩; have HD16 := Aside0.mk h1; have HB16 := Aside0.mk h2; have HI16 := Aside0.mk ((HI13.out.below HB15.out).keepD h3); have HQ16 := Aside0.mk (h3.2 _ _ _ _ (blk_below HQ13.out HB15.out) (by decide) (by decide)); clear h1 h2 h3))
        have b7 : w16.cell? ⟨gb, 2, none⟩ = some (.slice A2 kp.length c2) := (blk_cell HQ16.out 2).trans rfl
        have HSC := Aside0.mk (show Sim d3 (crashR r3 kp) (900 * k + 804) from by have h := sim_crash HS13.out kp; rw [HO10.out] at h; exact h)
        have hok3 := sim_ok HS13.out (by omega)
        have HRC := Aside0.mk (rcrash_calls W.heap.size gr r3 W w16 HI16.out HB16.out hok3.2.1 hok3.2.2.1 hok3.2.2.2.1 A2 c2 kp (fun W' _ h2 => HKW.out W' h2) (by have h9 : kp.length ≤ R := HOA.out.keep; omega))
        clear b5 hok3
        go_wp2_with (go_at_call 36; refine HRC.out.mono ?_; rintro e w17 ⟨rfl, h1, h2, h3⟩; have HI17 := Aside0.mk h1; have HB17 := Aside0.mk h2; have HD17 := Aside0.mk (HD16.out.keepR h3); clear h1 h2 h3)
        go_roundw
        case rel => exact ⟨k + 1, d3, crashR r3 kp, by omega, by omega, by go_num, HD17, HI17, HB17, ⟨HSC.out.up (by omega)⟩, HNX⟩
        case measure => simp [intOf]; omega
      · have f2 : decide ((k : Int) < 8) = false := decide_eq_false (by omega)
        go_wp2_with (go_at_call 15; refine (lives_c wr).mono ?_; rintro e w20 ⟨rfl, h1⟩; have HB20 := Aside0.mk (HBk.out.trans (h1.mono HBk.out.size)); clear h1)
        go_ret
        exact ⟨rfl, HB20.out⟩
    · have f1 : decide ((k : Int) < n) = false := decide_eq_false (by omega)
      go_wp2_with (go_at_call 15; refine (lives_c wr).mono ?_; rintro e w20 ⟨rfl, h1⟩; have HB20 := Aside0.mk (HBk.out.trans (h1.mono HBk.out.size)); clear h1)
      go_ret
      exact ⟨rfl, HB20.out⟩
end Go.Proofs.Ytmghgghheebnjaa.Dis
namespace Go.Proofs.Ytmghgghheebnjaa.walActs
open Go.ChangeShapes Go.WideShapes Go.ChangeAt Go.RowKit Go.Joins
open Go.ChangeMaps (open_string shut_string)
set_option linter.unusedVariables false
theorem own : ownKnob Try.prog.godebug = none := by kernel_rfl
theorem laidOut : laidOutB Try.prog = true := by kernel_rfl
theorem reach : reachBytes = 140737488351232 := by kernel_rfl
set_option maxHeartbeats 1000000 in
set_option maxRecDepth 100000 in
theorem lifted (os : Os) (started : os.Started) (H : Type) (enc : TypeId × Value → H) :
    ReturnsInHanded {} Try.checked os 8 .any (Rows.walActsSpec.pre6 enc Try.prog Try.f8 Rows.walActsRow.domain false) (Rows.walActsSpec.post enc Try.prog Try.f8 false true false false) := by
  refine returnsInHanded_of_change_sized (C := Try.checked) own started (by kernel_rfl) Try.func8
    (ChangeSpec.witness6 (enc := enc) (C := Try.checked) false ⟨#[], #[.slice none 0 0], []⟩ 8 (by kernel_rfl) (by kernel_rfl) (by kernel_rfl) (by kernel_rfl)) ?_
  intro W base args ds gs before hval0 hW hcnd hsz0 _
  have hval : ∀ (j : Nat) t v, Try.f8.params[j]? = some t → args[j]? = some v → Value.okWide Try.prog W .any base t v := hval0
  have hW' := hW
  obtain ⟨p, q, hA0, hV, rfl, hfz, hnd⟩ := hW
  have hA : DataW.TrodAll enc Try.prog W 0 (fun _ => true) true Try.f8.params.toList args.toList ds p := hA0
  rw [Try.params8] at hA hval hsz0
  obtain ⟨v0, vs0, d0, ds0, p0, q0, hargs, rfl, rfl, h0, r0⟩ := trodAll_cons hA
  obtain ⟨rfl, rfl, rfl⟩ := trodAll_nil r0
  obtain rfl : args = #[v0] := by cases args; simp_all
  obtain ⟨rfl, rfl⟩ := trodVars_none hV
  have k0 := h0
  have lt0 : ∀ x ∈ p0, x.block < W.heap.size := by obtain ⟨m, hm⟩ := k0; exact DataW.trod_lt m _ _ _ hm
  obtain ⟨x0, len0, cap0, rfl⟩ := okWide_slice Try.underlying34 (hval 0 34 v0 rfl rfl)
  obtain ⟨m0, f0⟩ := h0
  obtain ⟨A0, c0, l0, e0, B0, H0, O0⟩ := Dis.acts_K f0
  have e0' := congrArg (fun x => x[0]?) e0
  simp [Value.cells] at e0'
  obtain ⟨rfl, rfl, rfl⟩ := e0'
  have z0 : ((d0, p0).1.weights Try.prog 34).all (· ≤ reachBytes) = true := List.all_eq_true.2 fun n hn => List.all_eq_true.1 hsz0 n (DataW.weights_mem_each (j := 0) rfl rfl n hn)
  have O0 := O0 reachBytes z0
  clear hA0 hval0 hsz0
  rw [reach] at O0
  refine (Dis.acts_calls W l0 x0 cap0 140737488351232 H0 B0 (Nat.le_refl _) O0.2).mono fun e W' ⟨he, bel⟩ => ?_
  subst he
  exact ⟨_, rfl, _, _, _, [], _, [], hW', trodAll_mk1 (shut_bool Try.underlying4 _), (trodAll_cons_mk (Below.trod laidOut (by kernel_rfl) (of_decide_eq_true (by kernel_rfl)) k0 bel lt0) trodAll_mk0), rfl, bel.frame _, fun h => by cases h⟩
theorem over : Rows.walActsRow.holds Try.pinned (OpenSpec.ofChange Rows.walActsSpec) :=
  OpenClaim.holds_of_wide 8 Try.f8 rfl rfl rfl rfl rfl rfl rfl ⟨rfl, rfl, rfl, rfl, rfl⟩ rfl rfl rfl rfl rfl (by kernel_rfl) Try.func8 (by kernel_rfl)
    (of_decide_eq_true (by kernel_rfl)) (by unfold Func.isWrapper; first | (rw [if_pos (by decide +kernel)]; kernel_rfl) | (rw [if_neg (by decide +kernel)]; exact ⟨rfl, rfl⟩))
    (fun os started H enc _ => lifted os started H enc)
theorem proved : Rows.WalActsSaid := over
#print axioms proved
end Go.Proofs.Ytmghgghheebnjaa.walActs
namespace Go.Proofs.Ytmghgghheebnjaa
/-- The row, under a short name, for the claim. -/
theorem walActs_holds : Rows.WalActsSaid := walActs.proved
end Go.Proofs.Ytmghgghheebnjaa
