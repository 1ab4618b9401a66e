/- Merged by merge.py. -/
import Derived.Test.YtmghgghheebnjaaWalR
import Derived.Test.YtmghgghheebnjaaDisR
import Derived.Deep.Strs
import Derived.Lib.SmallJoins
import Derived.SizedLaws
import Derived.Test.YtmghgghheebnjaaWalS
import Derived.Test.YtmghgghheebnjaaRows
import Derived.WalkKit
import Derived.ProofKit
import Derived.OpenShut
import Derived.ShutString
import Derived.ChangeOld
import Derived.Below
import Derived.Carry
namespace Go.Proofs.Ytmghgghheebnjaa.Dis
open Go.RowKit Go.Proofs.YtmghgghheebnjaaW.PrintWords Go.Proofs.YtmghgghheebnjaaW.PrintLast Go.Proofs.YtmghgghheebnjaaW.PrintMore Go.Maps Go.Proofs.Ytmghgghheebnjaa.PWalRecords
set_option linter.unusedVariables false
set_option linter.unusedSimpArgs false
/-- A put: its number, its byte. -/
abbrev Put_ := Int × Int
def putK : Kd Put_ := Kd.pair (Kd.int .i64) (Kd.int .u8)
theorem atPut {w : World} {A : Option Addr} {n : Nat} {l : List Put_} (h : Kd.C putK w A n l) (k : Nat) (hk : k < n) : ∃ ad, A = some ad ∧ w.cell? (ad.add (k * 2)) = some (.int .i64 (l.getD k (0, 0)).1) ∧ w.cell? ⟨(ad.add (k * 2)).block, (ad.add (k * 2)).off + 1, none⟩ = some (.int .u8 (l.getD k (0, 0)).2) := by
  obtain ⟨ad, c, e, _, hK, hc0⟩ := Kd.C_get h (0, 0) (k : Int) (by omega) (by omega)
  have hc : ∀ j u, c[j]? = some u → w.cell? (ad.add (k * 2 + j)) = some u := fun j u hj => by have := hc0 j u hj; rwa [Int.toNat_natCast] at this
  rw [Int.toNat_natCast] at hK
  obtain ⟨_, _, rfl, rfl, rfl⟩ := hK
  exact ⟨ad, e, hc 0 _ rfl, by rw [← add_field _ _ 1 (by omega)]; exact hc 1 _ rfl⟩
/-- The last three bits. -/
def low3 (x : Int) : Int := Go.bits .and .i64 x 7
theorem low3_bound (x : Int) : 0 ≤ low3 x ∧ low3 x ≤ 7 := by
  have hb : low3 x = IntKind.i64.wrap (((BitVec.ofInt IntKind.i64.bits x &&& BitVec.ofInt IntKind.i64.bits 7).toNat : Nat) : Int) := rfl
  have h : (BitVec.ofInt IntKind.i64.bits x &&& BitVec.ofInt IntKind.i64.bits 7).toNat ≤ 7 := by
    rw [BitVec.toNat_and]
    refine Nat.le_trans Nat.and_le_right ?_
    decide
  rw [hb, IntKind.wrap_i64]
  omega
/-- Pages of puts. -/
def pageOf (p : Put_) : S58 := ⟨low3 p.1, List.replicate 512 p.2⟩
def pagesW (l : List Put_) : List S58 := (l.take 70).map pageOf
theorem pagesW_snoc {l : List Put_} {k : Nat} (hk : k < l.length) : (l.take (k + 1)).map pageOf = (l.take k).map pageOf ++ [pageOf (l.getD k (0, 0))] := by
  rw [List.getD_eq_getElem?_getD, List.getElem?_eq_getElem hk, Option.getD_some, ← List.take_append_getElem hk, List.map_append]
  rfl
set_option maxHeartbeats 8000000 in
set_option maxRecDepth 100000 in
theorem pages_calls (W : World) (A : Option Addr) (n c : Nat) (l : List Put_) (hC : Kd.C putK W A n l) : Calls Try.prog 21 #[.slice A n c, .int .i64 8] W fun e w' => ∃ v, e = .returned v ∧ Kd.R k58 58 w' W.heap.size tt v (pagesW l) ∧ Below W.heap.size W w' := by
  have HC := Aside0.mk hC
  have HL := Aside0.mk hC.1
  have INF8 := Aside0.mk info58'
  have hmx : n ≤ 9223372036854775807 := hC.2.1
  clear hC
  go_enter Try.func21, Try.ntmps21
  go_upto_region 2 with ((with_reducible refine gate_dst (N := 7) rfl ?_); refine Kd.R_lit k58 (w0 := W) W.heap.size 58 ?hg (N := 7) ?hd (xs := ([] : List S58)) (inner := []) (ok := tt) (okp := tt) ?hr ?hp (fun _ hk => hk) trivial (Below.refl _ _) (Nat.le_refl _) (by simp) ?_; (case hd => rfl); (case hg => rfl); (case hr => first | (go_simp; done) | (go_simp; rfl)); (case hp => exact (Reps.none _ _)); intro v3 w3 ho hb hg_ hnew_; clear hg_ hnew_; have HO := Aside0.mk ho; have HB3 := Aside0.mk hb; clear hb ho)
  go_wp2_with fail
  go_loopw [5, 6] (fun y x wr => ∃ (k : Nat), k ≤ n ∧ k ≤ 70 ∧ x = .int .i64 k ∧ Aside0 (Kd.R k58 58 wr W.heap.size tt y ((l.take k).map pageOf)) ∧ Aside0 (Below W.heap.size W wr)) (fun _ x _ => 70 - (intOf x).toNat)
  case atStart => exact ⟨0, Nat.zero_le _, Nat.zero_le _, rfl, HO, HB3⟩
  case round =>
    obtain ⟨k, hk, hk7, rfl, HRk, HBk⟩ := hrel
    by_cases hlt : k < n
    · have f1 : decide ((k : Int) < n) = true := decide_eq_true (by omega)
      by_cases hlt2 : k < 70
      · have f2 : decide ((k : Int) < 70) = true := decide_eq_true (by omega)
        obtain ⟨ad, hA, p0, p1⟩ := atPut (Kd.C_below HC.out HBk.out) k hlt
        subst hA
        obtain ⟨yA, yc, hy⟩ := Kd.R_slice HRk.out
        subst hy
        rw [show ((l.take k).map pageOf).length = k by rw [List.length_map, List.length_take, HL.out]; omega] at HRk ⊢
        have HSN := Aside0.mk (pagesW_snoc (l := l) (k := k) (by rw [HL.out]; exact hlt))
        obtain ⟨p, hp⟩ : ∃ p, p = l.getD k (0, 0) := ⟨_, rfl⟩
        rw [← hp] at p0 p1 HSN
        obtain ⟨no, cc⟩ := p
        dsimp only at p0 p1
        have HPA := Aside0.mk (show ∀ w', Below W.heap.size W w' → w'.cell? (ad.add (k * 2)) = some (.int .i64 no) ∧ w'.cell? ⟨(ad.add (k * 2)).block, (ad.add (k * 2)).off + 1, none⟩ = some (.int .u8 cc) from fun w' hb => by
          obtain ⟨ad2, hA2, h0, h1⟩ := atPut (Kd.C_below HC.out hb) k hlt
          injection hA2 with hA2
          subst hA2
          rw [← hp] at h0 h1
          exact ⟨h0, h1⟩)
        have hlo : Go.bits .and .i64 no 7 = low3 no := rfl
        have HLTR := Aside0.mk (Kd.R_lt HRk.out)
        have HWS := Aside0.mk HBk.out.size
        clear hp p0 p1
        go_upto_region 5 with fail
        have hdr : Below wr.heap.size wr wr.drew := below_drew (Below.refl _ _)
        refine start_ (n := 18) (S := fun w' => Below W.heap.size W w') (ds := []) #[false, false, false, false, false, false, false, false, false, false, false, false, false, false, false, false, false, false] (by kernel_rfl) rfl rfl (HBk.out.trans (hdr.mono HBk.out.size)) (fun hHeld => ?_)
        have HRd := Aside0.mk (Kd.R_below HRk.out hdr)
        have HLd := Aside0.mk (show wr.heap.size ≤ wr.drew.heap.size from hdr.size)
        have HPd := Aside0.mk (show ∀ w', Below W.heap.size W w' → w'.cell? (ad.add (k * 2)) = some (.int .i64 no) ∧ w'.cell? ⟨(ad.add (k * 2)).block, (ad.add (k * 2)).off + 1, none⟩ = some (.int .u8 cc) from HPA.out)
        generalize wr.drew = wD at hdr hHeld HRd HLd ⊢
        refine pure_ (i := 0) (N := some 18) (v := ?_) (a' := ?_) #[true, false, false, false, false, false, false, false, false, false, false, false, false, false, false, false, false, false] rfl rfl (by kernel_rfl) (fun _ _ _ h => h) (Or.inl ⟨by rfl, ?_⟩) ?_ ?_
        rotate_left
        · intro w'
          go_simp
          with_reducible rfl
        rotate_left
        · simp only [Act.put, List.setIfInBounds_toArray, List.set_cons_zero, List.set_cons_succ]
          rfl
        refine pure_ (i := 1) (N := some 19) (v := ?_) (a' := ?_) #[true, true, false, false, false, false, false, false, false, false, false, false, false, false, false, false, false, false] rfl rfl (by kernel_rfl) (fun _ _ _ h => h) (Or.inl ⟨by rfl, ?_⟩) ?_ ?_
        rotate_left
        · intro w'
          go_simp
          with_reducible rfl
        rotate_left
        · simp only [Act.put, List.setIfInBounds_toArray, List.set_cons_zero, List.set_cons_succ]
          rfl
        refine pure_ (i := 2) (N := some 20) (v := ?_) (a' := ?_) #[true, true, true, false, false, false, false, false, false, false, false, false, false, false, false, false, false, false] rfl rfl (by kernel_rfl) (fun _ _ _ h => h) (Or.inl ⟨by rfl, ?_⟩) ?_ ?_
        rotate_left
        · intro w'
          go_simp
          with_reducible rfl
        rotate_left
        · simp only [Act.put, List.setIfInBounds_toArray, List.set_cons_zero, List.set_cons_succ]
          rfl
        refine pure_ (i := 3) (N := some 21) (v := .pointer (some (ad.add (k * 2)))) (a' := ?_) #[true, true, true, true, false, false, false, false, false, false, false, false, false, false, false, false, false, false] rfl rfl (by kernel_rfl) (fun _ _ _ h => h) (Or.inl ⟨by rfl, ?_⟩) ?_ ?_
        · intro w'
          first | (go_simp; done) | (go_simp; rw [if_pos (show k < n by omega)])
        rotate_left
        · simp only [Act.put, List.setIfInBounds_toArray, List.set_cons_zero, List.set_cons_succ]
          rfl
        refine pure_ (i := 4) (N := some 22) (v := ?_) (a' := ?_) #[true, true, true, true, true, false, false, false, false, false, false, false, false, false, false, false, false, false] rfl rfl (by kernel_rfl) (fun _ _ _ h => h) (Or.inl ⟨by rfl, ?_⟩) ?_ ?_
        rotate_left
        · intro w'
          go_simp
          with_reducible rfl
        rotate_left
        · simp only [Act.put, List.setIfInBounds_toArray, List.set_cons_zero, List.set_cons_succ]
          rfl
        refine take_ (i := 5) (N := some 23) (v := ?_) (a' := ?_) #[true, true, true, true, true, true, false, false, false, false, false, false, false, false, false, false, false, false] rfl rfl (by kernel_rfl) (fun _ _ _ h => h) (Or.inl ⟨by rfl, ?_⟩) hHeld ?_ ?_
        rotate_left
        · intro w' s0
          have s1 := (HPd.out w' s0).1
          go_simp
          with_reducible rfl
        rotate_left
        · simp only [Act.put, List.setIfInBounds_toArray, List.set_cons_zero, List.set_cons_succ]
          rfl
        refine pure_ (i := 6) (N := some 24) (v := ?_) (a' := ?_) #[true, true, true, true, true, true, true, false, false, false, false, false, false, false, false, false, false, false] rfl rfl (by kernel_rfl) (fun _ _ _ h => h) (Or.inl ⟨by rfl, ?_⟩) ?_ ?_
        rotate_left
        · intro w'
          go_simp
          with_reducible rfl
        rotate_left
        · simp only [Act.put, List.setIfInBounds_toArray, List.set_cons_zero, List.set_cons_succ]
          rfl
        refine pure_ (i := 7) (N := some 25) (v := .int .i64 7) (a' := ?_) #[true, true, true, true, true, true, true, true, false, false, false, false, false, false, false, false, false, false] rfl rfl (by kernel_rfl) (fun _ _ _ h => h) (Or.inl ⟨by rfl, ?_⟩) ?_ ?_
        · intro w'
          first | (go_simp; done) | (go_simp; go_num) | (go_simp; rfl)
        rotate_left
        · simp only [Act.put, List.setIfInBounds_toArray, List.set_cons_zero, List.set_cons_succ]
          rfl
        refine pure_ (i := 8) (N := some 26) (v := .int .i64 (low3 no)) (a' := ?_) #[true, true, true, true, true, true, true, true, true, false, false, false, false, false, false, false, false, false] rfl rfl (by kernel_rfl) (fun _ _ _ h => h) (Or.inl ⟨by rfl, ?_⟩) ?_ ?_
        · intro w'
          first | (go_simp; done) | (go_simp; rfl)
        rotate_left
        · simp only [Act.put, List.setIfInBounds_toArray, List.set_cons_zero, List.set_cons_succ]
          rfl
        refine pure_ (i := 9) (N := some 27) (v := ?_) (a' := ?_) #[true, true, true, true, true, true, true, true, true, true, false, false, false, false, false, false, false, false] rfl rfl (by kernel_rfl) (fun _ _ _ h => h) (Or.inl ⟨by rfl, ?_⟩) ?_ ?_
        rotate_left
        · intro w'
          go_simp
          with_reducible rfl
        rotate_left
        · simp only [Act.put, List.setIfInBounds_toArray, List.set_cons_zero, List.set_cons_succ]
          rfl
        refine pure_ (i := 10) (N := some 28) (v := ?_) (a' := ?_) #[true, true, true, true, true, true, true, true, true, true, true, false, false, false, false, false, false, false] rfl rfl (by kernel_rfl) (fun _ _ _ h => h) (Or.inl ⟨by rfl, ?_⟩) ?_ ?_
        rotate_left
        · intro w'
          go_simp
          with_reducible rfl
        rotate_left
        · simp only [Act.put, List.setIfInBounds_toArray, List.set_cons_zero, List.set_cons_succ]
          rfl
        refine pure_ (i := 11) (N := some 29) (v := .pointer (some (ad.add (k * 2)))) (a' := ?_) #[true, true, true, true, true, true, true, true, true, true, true, true, false, false, false, false, false, false] rfl rfl (by kernel_rfl) (fun _ _ _ h => h) (Or.inl ⟨by rfl, ?_⟩) ?_ ?_
        · intro w'
          first | (go_simp; done) | (go_simp; rw [if_pos (show k < n by omega)])
        rotate_left
        · simp only [Act.put, List.setIfInBounds_toArray, List.set_cons_zero, List.set_cons_succ]
          rfl
        refine pure_ (i := 12) (N := some 30) (v := ?_) (a' := ?_) #[true, true, true, true, true, true, true, true, true, true, true, true, true, false, false, false, false, false] rfl rfl (by kernel_rfl) (fun _ _ _ h => h) (Or.inl ⟨by rfl, ?_⟩) ?_ ?_
        rotate_left
        · intro w'
          go_simp
          with_reducible rfl
        rotate_left
        · simp only [Act.put, List.setIfInBounds_toArray, List.set_cons_zero, List.set_cons_succ]
          rfl
        refine take_ (i := 13) (N := some 31) (v := ?_) (a' := ?_) #[true, true, true, true, true, true, true, true, true, true, true, true, true, true, false, false, false, false] rfl rfl (by kernel_rfl) (fun _ _ _ h => h) (Or.inl ⟨by rfl, ?_⟩) hHeld ?_ ?_
        rotate_left
        · intro w' s0
          have s1 := (HPd.out w' s0).2
          go_simp
          with_reducible rfl
        rotate_left
        · simp only [Act.put, List.setIfInBounds_toArray, List.set_cons_zero, List.set_cons_succ]
          rfl
        refine one_ (i := 14) (N := some 32) #[true, true, true, true, true, true, true, true, true, true, true, true, true, true, true, false, false, false] rfl rfl (by kernel_rfl) (by decide) (fun K1 hK => ?_)
        refine goes_ Try.func25 (by kernel_rfl) rfl #[.int .i64 (low3 no), .int .u8 cc] (by rfl) rfl rfl (by (try simp only [List.map_toArray, List.map_cons, List.map_nil]); first | done | rfl) ?_
        refine (page_c wD (low3 no) cc).mono ?_
        rintro e w5 ⟨A5, c5, rfl, h1, h2⟩
        have HR5 := Aside0.mk (Kd.R_below HRd.out h2)
        have HV5 := Aside0.mk (Kd.R_mono (ok' := fun q => wr.heap.size ≤ q) (Kd.R_bound h1) (fun q hq => Nat.le_trans HLd.out hq.2.1))
        have HV5' := Aside0.mk (Kd.R_lower HV5.out (Nat.le_trans HWS.out HLd.out))
        have hb5 := hHeld.trans (h2.mono hHeld.size)
        refine ⟨_, rfl, ?_⟩
        refine hK.out _ _ hb5 (fun hHeld => ?_)
        clear hK K1 h1 h2
        obtain ⟨w6, hw6⟩ : ∃ w6, w6 = w5.alloc (.cells #[.int .i64 (low3 no), .slice A5 512 c5] 58) := ⟨_, rfl⟩
        have hb56 : Below w5.heap.size w5 w6 := by rw [hw6]; exact below_alloc (Below.refl _ _) _
        refine one_ (i := 15) (N := some 33) #[true, true, true, true, true, true, true, true, true, true, true, true, true, true, true, true, false, false] rfl rfl (by kernel_rfl) (by decide) (fun K1 hK => ?_)
        refine value_ (by rfl) rfl (v := .slice (some ⟨w5.heap.size, 0, none⟩) 1 1) (w1 := w6) (by rw [hw6]; first | (go_simp; done) | (go_simp; rfl)) ?_
        refine hK.out _ _ (hb5.trans (hb56.mono hb5.size)) (fun hHeld => ?_)
        clear hK K1 
        rw [hw6]
        refine one_ (i := 16) (N := some 34) #[true, true, true, true, true, true, true, true, true, true, true, true, true, true, true, true, true, false] rfl rfl (by kernel_rfl) (by decide) (fun K1 hK => ?_)
        refine Kd.R_append_step k58 (w0 := W) (W := w5) W.heap.size (by rfl) (.tmp 18) (.tmp 33) 23 58 (.agg #[.int .i64 0, .slice none 0 0]) 32 rfl Try.underlying23 INF8.out rfl (by decide) (by decide) (.slice yA k yc) ((l.take k).map pageOf) ⟨low3 no, List.replicate 512 cc⟩ [.int .i64 (low3 no), .slice A5 512 c5] tt (fun q => wr.heap.size ≤ q) rfl rfl (k58_mkM w5 W.heap.size (fun q => wr.heap.size ≤ q) ⟨low3 no, List.replicate 512 cc⟩ HV5'.out) (fun q hq => ⟨trivial, fun e => Nat.not_lt.2 hq (HLTR.out q e.symm)⟩) (fun _ _ => trivial) HR5.out hb5 hb5.size ?hl ?_
        case hl => rw [List.length_map, List.length_take]; omega
        intro v7 w7 ho hb7 hG hat
        have HO7 := Aside0.mk ho
        clear ho hG hat
        show K1 (Act.put _ (some 34) _) _
        simp only [Act.put, List.setIfInBounds_toArray, List.set_cons_zero, List.set_cons_succ]
        refine hK.out _ _ hb7 (fun hHeld => ?_)
        clear hK K1 
        refine pure_ (i := 17) (N := some 5) (v := ?_) (a' := ?_) #[true, true, true, true, true, true, true, true, true, true, true, true, true, true, true, true, true, true] rfl rfl (by kernel_rfl) (fun _ _ _ h => h) (Or.inl ⟨by rfl, ?_⟩) ?_ ?_
        rotate_left
        · intro w'
          go_simp
          with_reducible rfl
        rotate_left
        · simp only [Act.put, List.setIfInBounds_toArray, List.set_cons_zero, List.set_cons_succ]
          rfl
        refine done_ (by kernel_rfl) ?_
        go_wp2
        go_roundw
        case rel => exact ⟨k + 1, by omega, by omega, by go_num, ⟨by rw [HSN.out]; exact HO7.out⟩, ⟨hb7⟩⟩
        case measure => simp [intOf]; omega
      · obtain rfl : k = 70 := by omega
        have f2 : decide (((70 : Nat) : Int) < 70) = false := by decide
        go_wp2
        go_ret
        exact ⟨_, rfl, HRk.out, HBk.out⟩
    · obtain rfl : k = n := by omega
      have f1 : decide ((k : Int) < k) = false := decide_eq_false (by omega)
      have hpw : pagesW l = (l.take k).map pageOf := by unfold pagesW; rw [List.take_of_length_le (by rw [HL.out]; omega), List.take_of_length_le (by rw [HL.out]; exact Nat.le_refl _)]
      have HPW := Aside0.mk hpw
      clear hpw
      go_wp2
      go_ret
      exact ⟨_, rfl, by rw [HPW.out]; exact HRk.out, HBk.out⟩
end Go.Proofs.Ytmghgghheebnjaa.Dis
namespace Go.Proofs.Ytmghgghheebnjaa.Dis
open Go.RowKit Go.ChangeShapes Go.WideShapes Go.ChangeAt Go.Deep Go.Joins Go.Proofs.YtmghgghheebnjaaW.PrintWords
set_option linter.unusedVariables false
section
variable {H : Type} {enc : TypeId × Value → H} {P : Program} {w : World} {base : Nat} {spare : Nat → Bool} {held : Bool}
theorem slice_K {α : Type} [Inhabited α] (d : Kd α) {Q : α → DataW H → Prop} {t e : TypeId} {fuel : Nat} {cs : List Value} {x : DataW H × List MemPlace} (ht : P.underlying t = some (.slice e)) (hc : P.cellsOf e = d.sz)
    (hel : ∀ m cs x, DataW.trod enc P w base spare held m e cs = some x → ∃ a, d.K w a cs ∧ Q a x.1)
    (h : DataW.trod enc P w base spare held fuel t cs = some x) :
    ∃ (A : Option Addr) (c : Nat) (l : List α) (el sp : List (DataW H)), cs = [.slice A l.length c] ∧ l.length ≤ c ∧ Kd.C d w A l.length l ∧ el.length = l.length ∧ (∀ a ∈ l, ∃ y ∈ el, Q a y) ∧ (x.1 = .nil ∧ l = [] ∨ x.1 = .slice el sp) := by
  rcases DataW.trod_slice ht h with ⟨rfl, rfl⟩ | ⟨a, len, cap, elems, rest, n, _, rfl, rfl, hb, hl, hm, hlen, hel', _, _⟩
  · exact ⟨none, 0, [], [], [], rfl, Nat.le_refl _, ⟨rfl, by simp, fun h => absurd h (by simp)⟩, rfl, fun a ha => absurd ha (by simp), .inl ⟨rfl, rfl⟩⟩
  · have each : ∀ i, i < len → ∃ p, (∃ cs', w.cells? base (a.add (i * d.sz)) d.sz = some cs' ∧ d.K w p cs') ∧ ∃ y ∈ elems.map (·.1), Q p y := fun i hi => by
      have h1 := hel' i hi
      have hi' : i < elems.length := by omega
      rw [List.getElem?_eq_getElem hi', Option.bind_eq_some_iff, hc] at h1
      obtain ⟨cs', h2, h3⟩ := h1
      obtain ⟨p, hp, hq⟩ := hel _ _ _ h3
      exact ⟨p, ⟨cs', h2, hp⟩, _, List.mem_map.2 ⟨_, List.getElem_mem hi', rfl⟩, hq⟩
    obtain ⟨f, hf⟩ := choose_lt each
    refine ⟨some a, cap, (List.range len).map f, elems.map (·.1), rest.map (·.1), by simp, by simpa using hl, ⟨rfl, by simp only [List.length_map, List.length_range]; simp only [maxLen] at hm; omega, fun _ => ⟨a, rfl, fun j p hj => ?_⟩⟩, by simp [hlen], fun p hp => ?_, .inr rfl⟩
    · obtain ⟨hj1, hj2⟩ := List.getElem?_eq_some_iff.1 hj
      simp only [List.length_map, List.length_range] at hj1
      rw [List.getElem_map, List.getElem_range] at hj2
      subst hj2
      obtain ⟨⟨cs', h2, h3⟩, _⟩ := hf j hj1
      refine ⟨cs', d.K_len h3, h3, fun i u hi => ?_⟩
      obtain ⟨hi1, hi2⟩ := List.getElem?_eq_some_iff.1 hi
      have h4 := (World.cells?_some h2).2.2 i (by rw [← d.K_len h3]; exact hi1)
      rw [Go.Proofs.YtmghgghheebnjaaW.PrintWords.add_add] at h4
      rw [h4, hi]
    · obtain ⟨j, hj, rfl⟩ := List.mem_map.1 hp
      exact (hf j (List.mem_range.1 hj)).2
theorem weights_mem {t : TypeId} : ∀ {el : List (DataW H)} {y : DataW H}, y ∈ el → ∀ n ∈ y.weights P t, n ∈ DataW.weightsAll P t el
  | d :: r, y, hy, n, hn => by
    simp only [DataW.weightsAll, List.mem_append]
    rcases List.mem_cons.1 hy with rfl | hy
    · exact .inl hn
    · exact .inr (weights_mem hy n hn)
theorem slice_sized {R : Nat} {t e : TypeId} {el sp : List (DataW H)} (ht : P.underlying t = some (.slice e)) (h : ((DataW.slice el sp).weights P t).all (· ≤ R) = true) :
    el.length * P.bytesOf e ≤ R ∧ ∀ y ∈ el, (y.weights P e).all (· ≤ R) = true := by
  have h' := List.all_eq_true.1 h
  have e1 : (DataW.slice el sp).weights P t = (el.length + sp.length) * P.bytesOf e :: (DataW.weightsAll P e el ++ DataW.weightsAll P e sp) := by simp [DataW.weights, ht]
  rw [e1] at h'
  refine ⟨?_, fun y hy => List.all_eq_true.2 fun n hn => h' n (List.mem_cons_of_mem _ (List.mem_append.2 (.inl (weights_mem hy n hn))))⟩
  have := h' _ List.mem_cons_self
  exact Nat.le_trans (Nat.mul_le_mul_right _ (Nat.le_add_right _ _)) (by simpa using this)
end
section
variable {H : Type} {enc : TypeId × Value → H} {w : World} {base : Nat} {spare : Nat → Bool} {held : Bool}
theorem bytes_K {fuel : Nat} {cs : List Value} {x : DataW H × List MemPlace} (h : DataW.trod enc Try.prog w base spare held fuel 56 cs = some x) :
    ∃ (A : Option Addr) (c : Nat) (l : List Int), cs = [.slice A l.length c] ∧ l.length ≤ c ∧ Kd.C (Kd.int .u8) w A l.length l ∧ OkB l ∧ ∀ R, (x.1.weights Try.prog 56).all (· ≤ R) = true → l.length ≤ R := by
  obtain ⟨A, c, l, el, sp, h1, h2, h3, h4, h5, h6⟩ := slice_K (P := Try.prog) (Kd.int .u8) (Q := fun n _ => 0 ≤ n ∧ n < 256) Try.underlying56 (by kernel_rfl) (fun m cs x hx => by
    obtain ⟨n, rfl, _, hw⟩ := DataW.trod_int Try.underlying5 hx
    have := bounds_u8 hw
    exact ⟨n, rfl, by omega⟩) h
  refine ⟨A, c, l, h1, h2, h3, fun n hn => (h5 n hn).elim fun _ hq => hq.2, fun R hR => ?_⟩
  rcases h6 with ⟨_, rfl⟩ | h6
  · exact Nat.zero_le _
  · rw [h6] at hR
    have := (slice_sized Try.underlying56 hR).1
    rw [show Try.prog.bytesOf 5 = 1 by kernel_rfl, h4] at this
    omega
theorem bools_K {fuel : Nat} {cs : List Value} {x : DataW H × List MemPlace} (h : DataW.trod enc Try.prog w base spare held fuel 44 cs = some x) :
    ∃ (A : Option Addr) (c : Nat) (l : List Bool), cs = [.slice A l.length c] ∧ l.length ≤ c ∧ Kd.C Kd.bool w A l.length l ∧ ∀ R, (x.1.weights Try.prog 44).all (· ≤ R) = true → l.length ≤ R := by
  obtain ⟨A, c, l, el, sp, h1, h2, h3, h4, h5, h6⟩ := slice_K (P := Try.prog) Kd.bool (Q := fun _ _ => True) Try.underlying44 (by kernel_rfl) (fun m cs x hx => by
    obtain ⟨n, rfl, _⟩ := DataW.trod_bool Try.underlying4 hx
    exact ⟨n, rfl, trivial⟩) h
  refine ⟨A, c, l, h1, h2, h3, fun R hR => ?_⟩
  rcases h6 with ⟨_, rfl⟩ | h6
  · exact Nat.zero_le _
  · rw [h6] at hR
    have := (slice_sized Try.underlying44 hR).1
    rw [show Try.prog.bytesOf 4 = 1 by kernel_rfl, h4] at this
    omega
end
end Go.Proofs.Ytmghgghheebnjaa.Dis
namespace Go.Proofs.Ytmghgghheebnjaa.Dis
open Go.RowKit Go.ChangeShapes Go.WideShapes Go.ChangeAt Go.Deep Go.Joins Go.Proofs.YtmghgghheebnjaaW.PrintWords
set_option linter.unusedVariables false
/-- An act: its puts, the call with which the power goes, what stays. -/
abbrev Act_ := List Put_ × Int × List Bool
def actK : Kd Act_ := Kd.pair (Kd.slice 61 putK) (Kd.pair (Kd.int .i64) (Kd.slice 4 Kd.bool))
def act0 : Act_ := ([], 0, [])
def OkP (p : Put_) : Prop := I64 p.1 ∧ 0 ≤ p.2 ∧ p.2 < 256
structure OkA (a : Act_) (R : Nat) : Prop where
  puts : ∀ p ∈ a.1, OkP p
  many : a.1.length ≤ R
  arm : I64 a.2.1
  keep : a.2.2.length ≤ R
section
variable {H : Type} {enc : TypeId × Value → H} {w : World} {base : Nat} {spare : Nat → Bool} {held : Bool}
set_option maxRecDepth 100000 in
theorem put_K {m : Nat} {cs : List Value} {x : DataW H × List MemPlace} (h : DataW.trod enc Try.prog w base spare held m 61 cs = some x) : ∃ a : Put_, putK.K w a cs ∧ OkP a := by
  obtain ⟨y0, y1, n, rfl, hl, h0, h1⟩ := trod_struct2 Try.underlying61 h
  have hl2 : cs.length = 2 := hl.trans (by kernel_rfl)
  obtain ⟨c0, c1, rfl⟩ : ∃ c0 c1, cs = [c0, c1] := by
    match cs, hl2 with
    | [c0, c1], _ => exact ⟨c0, c1, rfl⟩
  have k3 : Try.prog.cellsOf 3 = 1 := by kernel_rfl
  have k5 : Try.prog.cellsOf 5 = 1 := by kernel_rfl
  simp only [k3, k5, List.drop_zero, List.drop_succ_cons, List.take_succ_cons, List.take_zero] at h0 h1
  obtain ⟨x0, e0, _, w0⟩ := DataW.trod_int Try.underlying3 h0
  obtain ⟨x1, e1, _, w1⟩ := DataW.trod_int Try.underlying5 h1
  have b0 := bounds_i64 w0
  have b1 := bounds_u8 w1
  exact ⟨(x0, x1), ⟨[c0], [c1], rfl, e0, e1⟩, ⟨b0.1, b0.2⟩, b1.1, by omega⟩
theorem puts_K {fuel : Nat} {cs : List Value} {x : DataW H × List MemPlace} (h : DataW.trod enc Try.prog w base spare held fuel 43 cs = some x) :
    ∃ (A : Option Addr) (c : Nat) (l : List Put_), cs = [.slice A l.length c] ∧ l.length ≤ c ∧ Kd.C putK w A l.length l ∧ (∀ p ∈ l, OkP p) ∧ ∀ R, (x.1.weights Try.prog 43).all (· ≤ R) = true → l.length ≤ R := by
  obtain ⟨A, c, l, el, sp, h1, h2, h3, h4, h5, h6⟩ := slice_K (P := Try.prog) putK (Q := fun n _ => OkP n) Try.underlying43 (by kernel_rfl) (fun m cs x hx => by
    obtain ⟨a, ha, hb⟩ := put_K hx
    exact ⟨a, ha, hb⟩) h
  refine ⟨A, c, l, h1, h2, h3, fun n hn => (h5 n hn).elim fun _ hq => hq.2, fun R hR => ?_⟩
  rcases h6 with ⟨_, rfl⟩ | h6
  · exact Nat.zero_le _
  · rw [h6] at hR
    have := (slice_sized Try.underlying43 hR).1
    rw [show Try.prog.bytesOf 61 = 16 by kernel_rfl, h4] at this
    omega
set_option maxRecDepth 100000 in
theorem act_K {m : Nat} {cs : List Value} {x : DataW H × List MemPlace} (h : DataW.trod enc Try.prog w base spare held m 46 cs = some x) :
    ∃ a : Act_, actK.K w a cs ∧ ∀ R, (x.1.weights Try.prog 46).all (· ≤ R) = true → OkA a R := by
  obtain ⟨y0, y1, y2, n, rfl, hl, h0, h1, h2⟩ := trod_struct3 Try.underlying46 h
  have hl3 : cs.length = 3 := hl.trans (by kernel_rfl)
  obtain ⟨c0, c1, c2, rfl⟩ : ∃ c0 c1 c2, cs = [c0, c1, c2] := by
    match cs, hl3 with
    | [c0, c1, c2], _ => exact ⟨c0, c1, c2, rfl⟩
  have k3 : Try.prog.cellsOf 3 = 1 := by kernel_rfl
  have k43 : Try.prog.cellsOf 43 = 1 := by kernel_rfl
  have k44 : Try.prog.cellsOf 44 = 1 := by kernel_rfl
  simp only [k3, k43, k44, List.drop_zero, List.drop_succ_cons, List.take_succ_cons, List.take_zero] at h0 h1 h2
  obtain ⟨A0, c0', l0, e0, hc0, hC0, ho0, hs0⟩ := puts_K h0
  obtain ⟨x1, e1, _, w1⟩ := DataW.trod_int Try.underlying3 h1
  obtain ⟨A2, c2', l2, e2, hc2, hC2, hs2⟩ := bools_K h2
  refine ⟨(l0, x1, l2), ⟨[c0], [c1, c2], rfl, ⟨A0, c0', e0, hc0, hC0⟩, [c1], [c2], rfl, e1, ⟨A2, c2', e2, hc2, hC2⟩⟩, fun R hR => ?_⟩
  have e : (DataW.agg [y0.1, y1.1, y2.1]).weights Try.prog 46 = y0.1.weights Try.prog 43 ++ (y1.1.weights Try.prog 3 ++ (y2.1.weights Try.prog 44 ++ [])) := by
    simp [DataW.weights, DataW.weightsEach, Try.underlying46]
  rw [e, List.all_append, List.all_append, List.all_append, Bool.and_eq_true, Bool.and_eq_true, Bool.and_eq_true] at hR
  have b1 := bounds_i64 w1
  exact ⟨ho0, hs0 R hR.1, ⟨b1.1, b1.2⟩, hs2 R hR.2.2.1⟩
theorem acts_K {fuel : Nat} {cs : List Value} {x : DataW H × List MemPlace} (h : DataW.trod enc Try.prog w base spare held fuel 34 cs = some x) :
    ∃ (A : Option Addr) (c : Nat) (l : List Act_), cs = [.slice A l.length c] ∧ l.length ≤ c ∧ Kd.C actK w A l.length l ∧ ∀ R, (x.1.weights Try.prog 34).all (· ≤ R) = true → l.length ≤ R ∧ ∀ a ∈ l, OkA a R := by
  obtain ⟨A, c, l, el, sp, h1, h2, h3, h4, h5, h6⟩ := slice_K (P := Try.prog) actK (Q := fun a y => ∀ R, (y.weights Try.prog 46).all (· ≤ R) = true → OkA a R) Try.underlying34 (by kernel_rfl) (fun m cs x hx => act_K hx) h
  refine ⟨A, c, l, h1, h2, h3, fun R hR => ?_⟩
  rcases h6 with ⟨_, rfl⟩ | h6
  · exact ⟨Nat.zero_le _, fun a ha => absurd ha (by simp)⟩
  · rw [h6] at hR
    have hs := slice_sized Try.underlying34 hR
    rw [show Try.prog.bytesOf 46 = 56 by kernel_rfl, h4] at hs
    exact ⟨by omega, fun a ha => (h5 a ha).elim fun y hy => hy.2 R (hs.2 y hy.1)⟩
end
/-- An act of a row. -/
theorem act_at {w : World} {A : Option Addr} {n : Nat} {l : List Act_} (h : actK.C w A n l) (k : Nat) (hk : k < n) :
    ∃ ad A0 c0 A2 c2, A = some ad ∧ w.cell? (ad.add (k * 3)) = some (.slice A0 (l.getD k act0).1.length c0) ∧ w.cell? ⟨(ad.add (k * 3)).block, (ad.add (k * 3)).off + 1, none⟩ = some (.int .i64 (l.getD k act0).2.1) ∧ w.cell? ⟨(ad.add (k * 3)).block, (ad.add (k * 3)).off + 2, none⟩ = some (.slice A2 (l.getD k act0).2.2.length c2) ∧
      (l.getD k act0).1.length ≤ c0 ∧ Kd.C putK w A0 (l.getD k act0).1.length (l.getD k act0).1 ∧ (l.getD k act0).2.2.length ≤ c2 ∧ Kd.C Kd.bool w A2 (l.getD k act0).2.2.length (l.getD k act0).2.2 := by
  obtain ⟨ad, c, e, _, hK, hc0⟩ := Kd.C_get h act0 (k : Int) (by omega) (by omega)
  have hc : ∀ j u, c[j]? = some u → w.cell? (ad.add (k * 3 + j)) = some u := fun j u hj => by have := hc0 j u hj; rwa [Int.toNat_natCast] at this
  rw [Int.toNat_natCast] at hK
  obtain ⟨_, _, rfl, ⟨A0, c0, rfl, hl0, hC0⟩, _, _, rfl, rfl, ⟨A2, c2, rfl, hl2, hC2⟩⟩ := hK
  exact ⟨ad, A0, c0, A2, c2, e, hc 0 _ rfl, by rw [← add_field _ _ 1 (by omega)]; exact hc 1 _ rfl, by rw [← add_field _ _ 2 (by omega)]; exact hc 2 _ rfl, hl0, hC0, hl2, hC2⟩
end Go.Proofs.Ytmghgghheebnjaa.Dis
namespace Go.Proofs.Ytmghgghheebnjaa.Dis
open Go.RowKit Go.Proofs.YtmghgghheebnjaaW.PrintWords Go.Proofs.YtmghgghheebnjaaW.PrintLast Go.Proofs.YtmghgghheebnjaaW.PrintMore Go.Maps Go.Proofs.Ytmghgghheebnjaa.PWalRecords
set_option linter.unusedVariables false
set_option linter.unusedSimpArgs false
/-- Opening with power: the log stays. -/
theorem open_live {d : D} (h : Live d) (hs : d.since = []) (hn : 64 < d.n) (hsec : ∀ i, Sec (d.fast i)) : ∃ d1 : D, openD d = (d1, seqTo d 64, 0) ∧ Live d1 ∧ d1.since = [] ∧ d1.n = d.n ∧ d1.cnt ≤ d.cnt + 64 ∧ ∀ i : Nat, i < 64 → d1.fast (i : Int) = d.fast (i : Int) := by
  have hb : ∀ s ∈ logF d.fast, BytesOk s := by
    intro s hs
    unfold logF at hs
    obtain ⟨k, _, rfl⟩ := List.mem_map.1 hs
    exact (hsec _).2
  obtain ⟨F, hF⟩ : ∃ F, F = (pagesOf (logF d.fast)).filter (fun p => thereB d.n p.f0) := ⟨_, rfl⟩
  have hFp : ∀ p ∈ F, thereB d.n p.f0 = true ∧ p.f1.length = 512 := by
    intro p hp
    rw [hF] at hp
    have h1 := List.mem_filter.1 hp
    exact ⟨h1.2, (pagesOf_ok hb p h1.1).2.2.2⟩
  have hFl : F.length ≤ 64 := by
    rw [hF]
    refine Nat.le_trans (List.length_filter_le _ _) ?_
    unfold pagesOf
    split
    · rename_i hh
      unfold outS
      rw [List.length_map, List.length_range]
      exact hh.m64
    · simp
  obtain ⟨c1, hw1, hc1⟩ := writesD_live h hs hFp
  refine ⟨{ d with fast := applyW (pgW F) d.fast, cnt := c1 }, by rw [openD_live h hs hn, ← hF, hw1], h, hs, rfl, by show c1 ≤ _; omega, fun i hi => ?_⟩
  refine applyW_out _ _ _ (fun x hx => ?_)
  obtain ⟨p, hp, rfl⟩ := List.mem_map.1 hx
  have := of_decide_eq_true (hFp p hp).1
  show 64 + p.f0 ≠ (i : Int)
  omega
theorem callD_or (d : D) : (callD d).2 = 0 ∨ (callD d).2 = 190 := callD_e d
/-- Writes on any disk: a first part of them is there. -/
theorem wrD_any : ∀ (xs : List (Int × List Int)) (d : D), (∀ x ∈ xs, 0 ≤ x.1 ∧ x.1 < d.n ∧ x.2.length = 512) → ∃ j, (wrD d xs).1.fast = d.fast ∧ (wrD d xs).1.n = d.n ∧ (wrD d xs).1.since = d.since ++ xs.take j ∧ ((wrD d xs).2 = 0 → xs.take j = xs) ∧ (wrD d xs).1.cnt ≤ d.cnt + xs.length := by
  intro xs
  induction xs with
  | nil => intro d _; exact ⟨0, rfl, rfl, by simp [wrD], fun _ => rfl, by simp [wrD]⟩
  | cons x xs ih =>
    intro d hx
    have h1 := hx x List.mem_cons_self
    have hp : pad x.2 = x.2 := by unfold pad; rw [h1.2.2]; simp
    have hcn := callD_cnt d
    have hcf := callD_fast d
    have hcs := callD_since d
    have hcl := callD_n d
    unfold wrD
    rcases callD_or d with hc | hc
    · have ht : thereD (callD d).1 x.1 = 0 := by unfold thereD; rw [hcl, if_neg (by omega), if_neg (by omega)]
      have hw : writeD d x.1 x.2 = ({ (callD d).1 with since := (callD d).1.since ++ [(x.1, x.2)], cnt := (callD d).1.cnt + 1 }, 0) := by
        unfold writeD
        rw [if_neg (by rw [hc]; exact fun h => h rfl), if_neg (by rw [ht]; exact fun h => h rfl), if_neg (by omega), hp]
      rw [hw, if_pos rfl]
      obtain ⟨j, a1, a2, a3, a4, a5⟩ := ih { (callD d).1 with since := (callD d).1.since ++ [(x.1, x.2)], cnt := (callD d).1.cnt + 1 } (fun y hy => by have := hx y (List.mem_cons_of_mem _ hy); exact ⟨this.1, by show y.1 < (callD d).1.n; rw [hcl]; exact this.2.1, this.2.2⟩)
      refine ⟨j + 1, by rw [a1]; exact hcf, by rw [a2]; exact hcl, ?_, fun h => by rw [List.take_succ_cons, a4 h], ?_⟩
      · rw [a3]
        show (callD d).1.since ++ [(x.1, x.2)] ++ xs.take j = _
        rw [hcs, List.append_assoc]
        rfl
      · have a6 : _ ≤ (callD d).1.cnt + 1 + xs.length := a5
        have a7 := hcn
        refine Nat.le_trans a6 ?_
        rw [List.length_cons]
        omega
    · have hw : writeD d x.1 x.2 = ((callD d).1, 190) := by
        unfold writeD
        rw [if_pos (by rw [hc]; decide), hc]
      rw [hw, if_neg (fun h => absurd (h : (190 : Int) = 0) (by decide))]
      exact ⟨0, hcf, hcl, by rw [List.take_zero, List.append_nil]; exact hcs, fun h => absurd (show (190 : Int) = 0 from h) (by decide), by show (callD d).1.cnt ≤ _; omega⟩
theorem flushD_any (d : D) : ((flushD d).2 = 0 ∧ (flushD d).1.fast = applyW d.since d.fast ∧ (flushD d).1.since = [] ∧ (flushD d).1.n = d.n ∧ (flushD d).1.cnt = d.cnt) ∨ ((flushD d).2 ≠ 0 ∧ (flushD d).1.fast = d.fast ∧ (flushD d).1.since = d.since ∧ (flushD d).1.n = d.n ∧ (flushD d).1.cnt = d.cnt) := by
  unfold flushD
  rcases callD_or d with hc | hc
  · left
    rw [if_pos hc]
    refine ⟨rfl, ?_, rfl, callD_n d, callD_cnt d⟩
    show keptTo (fun _ => true) (callD d).1.since (callD d).1.fast (callD d).1.since.length = _
    rw [keptTo_all _ _ _ (Nat.le_refl _), List.take_of_length_le (Nat.le_refl _), callD_since, callD_fast]
  · right
    rw [if_neg (by rw [hc]; decide)]
    exact ⟨by rw [hc]; decide, callD_fast d, callD_since d, callD_n d, callD_cnt d⟩
theorem writesD_any {d : D} (hs : d.since = []) {l : List S58} (hp : ∀ p ∈ l, thereB d.n p.f0 = true ∧ p.f1.length = 512) : (∀ x ∈ (writesD d l).1.since, 64 ≤ x.1) ∧ (∀ i : Int, i < 64 → (writesD d l).1.fast i = d.fast i) ∧ (writesD d l).1.n = d.n ∧ (writesD d l).1.cnt ≤ d.cnt + l.length := by
  have hx : ∀ x ∈ pgW l, 0 ≤ x.1 ∧ x.1 < d.n ∧ x.2.length = 512 ∧ 64 ≤ x.1 := by
    intro x hx
    obtain ⟨p, hpm, rfl⟩ := List.mem_map.1 hx
    have h1 := hp p hpm
    have h2 := of_decide_eq_true h1.1
    exact ⟨by show 0 ≤ 64 + p.f0; omega, by show 64 + p.f0 < d.n; omega, h1.2, by show 64 ≤ 64 + p.f0; omega⟩
  obtain ⟨j, a1, a2, a3, a4, a5⟩ := wrD_any (pgW l) d (fun x h => ⟨(hx x h).1, (hx x h).2.1, (hx x h).2.2.1⟩)
  have hl : (pgW l).length = l.length := by unfold pgW; simp
  rw [hl] at a5
  rw [hs, List.nil_append] at a3
  have hsi : ∀ x ∈ (wrD d (pgW l)).1.since, 64 ≤ x.1 := fun x h => by rw [a3] at h; exact (hx x (List.mem_of_mem_take h)).2.2.2
  unfold writesD
  split
  · split
    · exact ⟨hsi, ⟨fun i _ => by rw [a1], a2, a5⟩⟩
    · rcases flushD_any (wrD d (pgW l)).1 with ⟨_, b1, b2, b3, b4⟩ | ⟨_, b1, b2, b3, b4⟩
      · refine ⟨fun x h => absurd (b2 ▸ h : x ∈ []) (by simp), fun i hi => ?_, b3.trans a2, Nat.le_trans (Nat.le_of_eq b4) a5⟩
        rw [b1, applyW_out _ _ _ (fun x h e => by have := hsi x h; omega), a1]
      · exact ⟨fun x h => by rw [b2] at h; exact hsi x h, fun i _ => by rw [b1, a1], by rw [b3, a2], by rw [b4]; exact a5⟩
  · exact ⟨hsi, fun i _ => by rw [a1], a2, a5⟩
/-- A commit on any disk. -/
theorem commit_any {d : D} (hs : d.since = []) (hn : 64 < d.n) {s : Int} (h0 : 0 ≤ s) (h1 : s < 18446744073709551616) {l : List S58} (hp : ∀ p ∈ l, thereB d.n p.f0 = true ∧ p.f1.length = 512 ∧ BytesOk p.f1) :
    (commitD d s l).1.n = d.n ∧ (commitD d s l).1.cnt ≤ d.cnt + 128 ∧ ((commitD d s l).2.2 = 0 → l ≠ [] → (commitD d s l).2.1 = s + 1) ∧
    (((commitD d s l).2.1 = s ∧ (commitD d s l).1.fast = d.fast ∧ ∀ x ∈ (commitD d s l).1.since, numB (x.2.take 8) = s + 1) ∨
     ((commitD d s l).2.1 = s + 1 ∧ s + 1 < 18446744073709551616 ∧ numB (((commitD d s l).1.fast 0).take 8) = s + 1 ∧ (∀ i : Nat, i < 64 → (commitD d s l).1.fast (i : Int) = d.fast (i : Int) ∨ numB (((commitD d s l).1.fast (i : Int)).take 8) = s + 1) ∧ ∀ x ∈ (commitD d s l).1.since, 64 ≤ x.1)) := by
  have early : ∀ e : Int, e ≠ 0 → ((d, s, e) : D × Int × Int).1.n = d.n ∧ ((d, s, e) : D × Int × Int).1.cnt ≤ d.cnt + 128 ∧ (((d, s, e) : D × Int × Int).2.2 = 0 → l ≠ [] → ((d, s, e) : D × Int × Int).2.1 = s + 1) ∧
      ((((d, s, e) : D × Int × Int).2.1 = s ∧ ((d, s, e) : D × Int × Int).1.fast = d.fast ∧ ∀ x ∈ ((d, s, e) : D × Int × Int).1.since, numB (x.2.take 8) = s + 1) ∨
     (((d, s, e) : D × Int × Int).2.1 = s + 1 ∧ s + 1 < 18446744073709551616 ∧ numB ((((d, s, e) : D × Int × Int).1.fast 0).take 8) = s + 1 ∧ (∀ i : Nat, i < 64 → ((d, s, e) : D × Int × Int).1.fast (i : Int) = d.fast (i : Int) ∨ numB ((((d, s, e) : D × Int × Int).1.fast (i : Int)).take 8) = s + 1) ∧ ∀ x ∈ ((d, s, e) : D × Int × Int).1.since, 64 ≤ x.1)) := fun e he =>
    ⟨rfl, Nat.le_add_right _ _, fun h => absurd h he, .inl ⟨rfl, rfl, fun x hx => by rw [show ((d, s, e) : D × Int × Int).1.since = [] from hs] at hx; cases hx⟩⟩
  unfold commitD
  split
  · exact early 1 (by decide)
  split
  · rename_i hl
    refine ⟨rfl, Nat.le_add_right _ _, fun _ h => absurd (List.eq_nil_of_length_eq_zero hl) h, .inl ⟨rfl, rfl, fun x hx => ?_⟩⟩
    rw [show ((d, s, (0 : Int)) : D × Int × Int).1.since = [] from hs] at hx
    cases hx
  split
  · exact early 8 (by decide)
  rename_i hmx
  split
  · rename_i he
    exact early _ he
  rename_i he
  have he' : recE (s + 1) l = 0 := Classical.byContradiction he
  have hr := recE_0 he'
  have hrs := recS_ok (seq := s + 1) (l := l) (fun p hpm => (hp p hpm).2.2)
  have hN := recS_len (s + 1) l
  have hsq : ∀ x ∈ enumW 0 (recS (s + 1) l), numB (x.2.take 8) = s + 1 ∧ 0 ≤ x.1 ∧ x.1 < 64 := by
    intro x hx
    have h2 := enumW_mem _ 0 x hx
    obtain ⟨i, _, hi⟩ := List.mem_map.1 h2.2.2
    refine ⟨?_, by have := h2.1; omega, by have := h2.2.1; omega⟩
    rw [← hi, sect_parts.1]
    exact numB_big _ 8 (by omega) (by have : (256 : Int) ^ 8 = 18446744073709551616 := by decide
                                      omega)
  obtain ⟨j, a1, a2, a3, a4, a5⟩ := wrD_any (enumW 0 (recS (s + 1) l)) d (fun x hx => by
    have h2 := enumW_mem _ 0 x hx
    exact ⟨(hsq x hx).2.1, by have := (hsq x hx).2.2; omega, (hrs _ h2.2.2).1⟩)
  rw [hs, List.nil_append] at a3
  rw [enumW_len] at a5
  have hsi : ∀ x ∈ (wrD d (enumW 0 (recS (s + 1) l))).1.since, numB (x.2.take 8) = s + 1 := fun x h => by rw [a3] at h; exact (hsq x (List.mem_of_mem_take h)).1
  split
  · rename_i h2
    exact ⟨a2, by show (wrD d (enumW 0 (recS (s + 1) l))).1.cnt ≤ _; omega, fun h => absurd h h2, .inl ⟨rfl, a1, hsi⟩⟩
  rename_i h2
  have h2' : (wrD d (enumW 0 (recS (s + 1) l))).2 = 0 := Classical.byContradiction h2
  rcases flushD_any (wrD d (enumW 0 (recS (s + 1) l))).1 with ⟨b0, b1, b2, b3, b4⟩ | ⟨b0, b1, b2, b3, b4⟩
  · rw [if_neg (by rw [b0]; exact fun h => h rfl)]
    obtain ⟨c1, c2, c3, c4⟩ := writesD_any (d := (flushD (wrD d (enumW 0 (recS (s + 1) l))).1).1) b2 (l := l) (fun p hpm => by rw [b3, a2]; exact ⟨(hp p hpm).1, (hp p hpm).2.1⟩)
    have hat : ∀ i : Nat, i < 64 → (writesD (flushD (wrD d (enumW 0 (recS (s + 1) l))).1).1 l).1.fast (i : Int) = if i < (recS (s + 1) l).length then (recS (s + 1) l).getD i [] else d.fast (i : Int) := by
      intro i hi
      rw [c2 (i : Int) (by omega), b1, a3, a4 h2', a1, applyW_enum]
      by_cases hlt : i < (recS (s + 1) l).length
      · rw [if_pos hlt, if_pos (by omega)]
        show (recS (s + 1) l).getD ((i : Int) - ((0 : Nat) : Int)).toNat [] = _
        rw [show ((i : Int) - ((0 : Nat) : Int)).toNat = i by omega]
      · rw [if_neg hlt, if_neg (by omega)]
    have hnum : ∀ i : Nat, i < (recS (s + 1) l).length → numB (((recS (s + 1) l).getD i []).take 8) = s + 1 := by
      intro i hi
      have h3 := recS_at (s + 1) l [] (i := i) (by rw [← hN]; exact hi)
      rw [List.append_nil] at h3
      rw [h3, sect_parts.1]
      exact numB_big _ 8 (by omega) (by have : (256 : Int) ^ 8 = 18446744073709551616 := by decide
                                        omega)
    have hN1 : 1 ≤ secsN l.length := by unfold secsN; omega
    refine ⟨by show (writesD _ l).1.n = _; rw [c3, b3, a2], by show (writesD _ l).1.cnt ≤ _; rw [b4] at c4; omega, fun _ _ => rfl, .inr ⟨rfl, by omega, ?_, fun i hi => ?_, c1⟩⟩
    · show numB (((writesD _ l).1.fast ((0 : Nat) : Int)).take 8) = s + 1
      rw [hat 0 (by decide), if_pos (by rw [hN]; omega)]
      exact hnum 0 (by rw [hN]; omega)
    · show (writesD _ l).1.fast (i : Int) = _ ∨ numB (((writesD _ l).1.fast (i : Int)).take 8) = s + 1
      rw [hat i hi]
      by_cases hlt : i < (recS (s + 1) l).length
      · rw [if_pos hlt]; exact .inr (hnum i hlt)
      · rw [if_neg hlt]; exact .inl rfl
  · rw [if_pos b0]
    exact ⟨by show (flushD _).1.n = _; rw [b3, a2], by show (flushD _).1.cnt ≤ _; rw [b4]; omega, fun h => absurd h b0, .inl ⟨rfl, by show (flushD _).1.fast = _; rw [b1, a1], fun x h => hsi x (by rw [← b2]; exact h)⟩⟩
theorem keptTo_or (F : Nat → Bool) (l : List (Int × List Int)) (f : Int → List Int) (i : Int) : ∀ k, k ≤ l.length → keptTo F l f k i = f i ∨ ∃ x ∈ l, x.1 = i ∧ keptTo F l f k i = x.2 := by
  intro k
  induction k with
  | zero => intro _; exact .inl rfl
  | succ k ih =>
    intro hk
    unfold keptTo
    split
    · have hm : l.getD k (0, zeros) ∈ l := by rw [List.getD_eq_getElem?_getD, List.getElem?_eq_getElem (by omega)]; exact List.getElem_mem _
      generalize l.getD k (0, zeros) = x at hm
      unfold upd
      by_cases e : i = x.1
      · rw [if_pos e]; exact .inr ⟨x, hm, e.symm, rfl⟩
      · rw [if_neg e]; exact ih (by omega)
    · exact ih (by omega)
theorem seqTo_hit {d : D} : ∀ k, seqTo d k = 0 ∨ ∃ i, i < k ∧ numB ((rdRow d i).take 8) = seqTo d k := by
  intro k
  induction k with
  | zero => exact .inl rfl
  | succ k ih =>
    unfold seqTo
    split
    · exact .inr ⟨k, by omega, rfl⟩
    · rcases ih with h | ⟨i, hi, h⟩
      · exact .inl h
      · exact .inr ⟨i, by omega, h⟩
/-- One round of WalSeqs. -/
theorem seqs_step {d : D} (h : Live d) (hs : d.since = []) (hn : 64 < d.n) (hsec : ∀ i, Sec (d.fast i)) {l : List S58} (hp : ∀ p ∈ l, thereB d.n p.f0 = true ∧ p.f1.length = 512 ∧ BytesOk p.f1) (arm : Int) (keep : List Bool) :
    ∃ (d1 d2 d3 : D) (s s' e : Int), openD d = (d1, s, 0) ∧ s = seqTo d 64 ∧ 0 ≤ s ∧ s < 18446744073709551616 ∧ d1.cnt ≤ d.cnt + 64 ∧ commitD (armD d1 arm) s l = (d2, s', e) ∧ (e = 0 → l ≠ [] → s' = s + 1) ∧ (s' = s ∨ (s' = s + 1 ∧ s + 1 < 18446744073709551616)) ∧ d2.cnt ≤ d.cnt + 192 ∧
      crashD d2 keep = d3 ∧ Live d3 ∧ d3.since = [] ∧ d3.n = d.n ∧ d3.cnt ≤ d.cnt + 192 ∧ s' ≤ seqTo d3 64 ∧ seqTo d3 64 ≤ s + 1 := by
  obtain ⟨d1, ho, hl1, hs1, hn1, hc1, hlow⟩ := open_live h hs hn hsec
  have hb := seqTo_bound (d := d) (fun k hk _ => by rw [(rd_live h hs hn hk).1]; exact hsec _) 64 (Nat.le_refl _) (fun i hi => (rd_live h hs hn hi).2)
  obtain ⟨c1, c2, c3, c4⟩ := commit_any (d := armD d1 arm) hs1 (by show 64 < d1.n; rw [hn1]; exact hn) hb.1 hb.2 (l := l) (fun p hpm => by show thereB d1.n p.f0 = true ∧ _; rw [hn1]; exact hp p hpm)
  obtain ⟨r, hr⟩ : ∃ r, r = commitD (armD d1 arm) (seqTo d 64) l := ⟨_, rfl⟩
  rw [← hr] at c1 c2 c3 c4
  obtain ⟨d2, s', e⟩ := r
  dsimp only at c1 c2 c3 c4
  have hn3 : (crashD d2 keep).n = d.n := by show d2.n = _; rw [c1]; exact hn1
  have hl3 : Live (crashD d2 keep) := ⟨rfl, rfl⟩
  have hs3 : (crashD d2 keep).since = [] := rfl
  have hf3 : (crashD d2 keep).fast = keptTo (kept keep) d2.since d2.fast d2.since.length := rfl
  have hc2' : d2.cnt ≤ d.cnt + 192 := by have : (armD d1 arm).cnt = d1.cnt := rfl; omega
  refine ⟨d1, d2, _, seqTo d 64, s', e, ho, rfl, hb.1, hb.2, hc1, hr.symm, c3, ?_, hc2', rfl, hl3, hs3, hn3, by show d2.cnt ≤ _; exact hc2', ?_, ?_⟩
  · rcases c4 with ⟨h1, _⟩ | ⟨h1, h2, _⟩
    · exact .inl h1
    · exact .inr ⟨h1, h2⟩
  · rcases c4 with ⟨h1, h2, h3⟩ | ⟨h1, h2, h3, _, h4⟩
    · rw [h1]
      rcases seqTo_hit (d := d) 64 with h0 | ⟨i, hi, h5⟩
      · rw [h0]; exact seqTo_pos _ _
      · rw [← h5]
        have h6 := seqTo_ge (d := crashD d2 keep) 64 i hi
        rw [(rd_live hl3 hs3 (by rw [hn3]; exact hn) hi).1, hf3] at h6
        rw [(rd_live h hs hn hi).1] at h5 ⊢
        rcases keptTo_or (kept keep) d2.since d2.fast (i : Int) _ (Nat.le_refl _) with h7 | ⟨x, hx, _, h7⟩
        · rw [h7, h2] at h6
          have h8 : (armD d1 arm).fast (i : Int) = d.fast (i : Int) := hlow i hi
          rw [h8] at h6
          exact h6
        · rw [h7, h3 x hx] at h6
          omega
    · rw [h1]
      have h6 := seqTo_ge (d := crashD d2 keep) 64 0 (by decide)
      rw [(rd_live hl3 hs3 (by rw [hn3]; exact hn) (by decide)).1, hf3] at h6
      rcases keptTo_or (kept keep) d2.since d2.fast ((0 : Nat) : Int) _ (Nat.le_refl _) with h7 | ⟨x, hx, h8, _⟩
      · rw [h7] at h6
        have h9 : numB ((d2.fast ((0 : Nat) : Int)).take 8) = seqTo d 64 + 1 := h3
        rw [h9] at h6
        exact h6
      · have := h4 x hx
        omega
  · refine seqTo_le (by omega) 64 (fun i hi => ?_)
    rw [(rd_live hl3 hs3 (by rw [hn3]; exact hn) hi).1, hf3]
    have hold : numB ((d.fast (i : Int)).take 8) ≤ seqTo d 64 := by
      have := seqTo_ge (d := d) 64 i hi
      rwa [(rd_live h hs hn hi).1] at this
    have hd1 : (armD d1 arm).fast (i : Int) = d.fast (i : Int) := hlow i hi
    rcases keptTo_or (kept keep) d2.since d2.fast (i : Int) _ (Nat.le_refl _) with h7 | ⟨x, hx, h8, h7⟩
    · rw [h7]
      rcases c4 with ⟨_, h2, _⟩ | ⟨_, _, _, h4, _⟩
      · rw [h2, hd1]; omega
      · rcases h4 i hi with h5 | h5
        · rw [h5, hd1]; omega
        · rw [h5]; exact Int.le_refl _
    · rw [h7]
      rcases c4 with ⟨_, _, h3⟩ | ⟨_, _, _, _, h4⟩
      · rw [h3 x hx]; exact Int.le_refl _
      · have := h4 x hx
        omega
theorem pagesW_ok {l : List Put_} (h : ∀ p ∈ l, 0 ≤ p.2 ∧ p.2 < 256) : ∀ p ∈ pagesW l, thereB 72 p.f0 = true ∧ p.f1.length = 512 ∧ BytesOk p.f1 := by
  intro p hp
  obtain ⟨q, hq, rfl⟩ := List.mem_map.1 hp
  have h1 := low3_bound q.1
  have h2 := h q (List.mem_of_mem_take hq)
  exact ⟨decide_eq_true (by show 0 ≤ low3 q.1 ∧ low3 q.1 < 72 - 64; omega), List.length_replicate, fun x hx => by rw [(List.mem_replicate.1 hx).2]; exact h2⟩
end Go.Proofs.Ytmghgghheebnjaa.Dis
namespace Go.Proofs.Ytmghgghheebnjaa.Dis
open Go.RowKit Go.Proofs.YtmghgghheebnjaaW.PrintWords Go.Proofs.YtmghgghheebnjaaW.PrintLast Go.Proofs.YtmghgghheebnjaaW.PrintMore Go.Maps Go.Proofs.Ytmghgghheebnjaa.PWalRecords
set_option linter.unusedVariables false
set_option linter.unusedSimpArgs false
theorem info4' : (Try.prog.info? 4).map (fun i => (i.zero, i.size, i.bytes)) = some (some (.bool false), 1, 1) := by kernel_rfl
theorem cell_on {w w1 : World} {p : Addr} {v : Value} (h : w.cell? p = some v) (hb : Below w.heap.size w w1) : w1.cell? p = some v := (hb.cell (World.block_lt_of_cell? w p h)).trans h
theorem lies_bool {W : World} {b0 : Nat} {ok : Nat → Prop} {A : Option Addr} {c : Nat} {b : List Bool} (h : Kd.R Kd.bool 4 W b0 ok (.slice A b.length c) b) : ∀ W', KeepD W W' → Kd.C Kd.bool W' A b.length b := fun W' hk =>
  (Kd.R_reads' (R_keep h hk.w (by intro q hq; simp [Kd.bool, Kd.scalar] at hq; omega))).2.2
set_option maxHeartbeats 16000000 in
set_option maxRecDepth 100000 in
theorem seqs_calls (W : World) (l : List Act_) (A : Option Addr) (ca R : Nat) (hC : Kd.C actK W A l.length l) (hca : l.length ≤ ca) (hR : R ≤ 140737488351232) (hok : ∀ a ∈ l, OkA a R) :
    Calls Try.prog 5 #[.slice A l.length ca] W fun e w' => e = .returned (.bool true) ∧ Below W.heap.size W w' := by
  obtain ⟨n, hn⟩ : ∃ n, n = l.length := ⟨_, rfl⟩
  have hmx : n ≤ 9223372036854775807 := by rw [hn]; exact hC.2.1
  rw [← hn] at hC hca ⊢
  have HC := Aside0.mk hC
  have HN := Aside0.mk hn
  have HOK := Aside0.mk hok
  have INF := Aside0.mk info4'
  clear hC hn hok
  go_enter Try.func5, Try.ntmps5
  go_upto_region 2 with (go_at_call 16; refine (new_calls 72 W).mono ?_; rintro e w1 ⟨g, rfl, h1, h2, h3⟩; rw [new_fresh (by decide) (by decide)] at h1; have HD1 := Aside0.mk h1; have HB1 := Aside0.mk h3; clear h1 h2 h3)
  go_wp2_with fail
  go_loopw [4, 5] (fun y x wr => ∃ (k : Nat) (d : D) (L : Int), k ≤ n ∧ k ≤ 6 ∧ y = .int .u64 L ∧ 0 ≤ L ∧ x = .int .i64 k ∧ Aside0 (IsD W.heap.size wr g d) ∧ Aside0 (Below W.heap.size W wr) ∧ Aside0 (Live d ∧ d.since = [] ∧ d.n = 72 ∧ d.cnt ≤ 192 * k ∧ L ≤ seqTo d 64 ∧ seqTo d 64 ≤ k)) (fun _ x _ => 6 - (intOf x).toNat)
  case atStart => exact ⟨0, freshD 72, 0, Nat.zero_le _, Nat.zero_le _, rfl, Int.le_refl _, rfl, HD1, HB1, ⟨⟨rfl, rfl⟩, rfl, rfl, Nat.zero_le _, seqTo_pos _ _, Int.le_of_eq (by have := open_fresh (n := 72) (by decide); rw [openD_live ⟨rfl, rfl⟩ rfl (by decide)] at this; injection this with _ h; injection h)⟩⟩
  case round =>
    obtain ⟨k, d, L, hk, hk6, rfl, hL0, rfl, HDk, HBk, HFk⟩ := hrel
    by_cases hlt : k < n
    · have f1 : decide ((k : Int) < n) = true := decide_eq_true (by omega)
      by_cases hlt2 : k < 6
      · have f2 : decide ((k : Int) < 6) = true := decide_eq_true (by omega)
        obtain ⟨ad, A0, c0, A2, c2, hA, hc0, hc1, hc2, hle0, hC0, hle2, hC2⟩ := act_at HC.out k hlt
        subst hA
        have hOA := HOK.out (l.getD k act0) (by rw [List.getD_eq_getElem?_getD, List.getElem?_eq_getElem (by rw [← HN.out]; exact hlt)]; exact List.getElem_mem _)
        obtain ⟨a, ha⟩ : ∃ a, a = l.getD k act0 := ⟨_, rfl⟩
        rw [← ha] at hc0 hc1 hc2 hle0 hC0 hle2 hC2 hOA
        have HAK := Aside0.mk (show ∀ w', Below W.heap.size W w' → w'.cell? (ad.add (k * 3)) = some (.slice A0 a.1.length c0) ∧ w'.cell? ⟨(ad.add (k * 3)).block, (ad.add (k * 3)).off + 1, none⟩ = some (.int .i64 a.2.1) ∧ w'.cell? ⟨(ad.add (k * 3)).block, (ad.add (k * 3)).off + 2, none⟩ = some (.slice A2 a.2.2.length c2) ∧ Kd.C putK w' A0 a.1.length a.1 ∧ Kd.C Kd.bool w' A2 a.2.2.length a.2.2 from fun w' hb => ⟨cell_on hc0 hb, cell_on hc1 hb, cell_on hc2 hb, Kd.C_below hC0 hb, Kd.C_below hC2 hb⟩)
        obtain ⟨lp, arm, kp⟩ := a
        dsimp only at hc0 hc1 hc2 hle0 hC0 hle2 hC2 HAK
        have HOA := Aside0.mk hOA
        clear hOA ha hc0 hc1 hc2 hC0 hC2
        obtain ⟨lq, hlq⟩ : ∃ lq, lq = lp.take 60 := ⟨_, rfl⟩
        have HKW := Aside0.mk (show ∀ w', Below W.heap.size W w' → Kd.C Kd.bool w' A2 kp.length kp from fun w' hb => (HAK.out w' hb).2.2.2.2)
        obtain ⟨d1, d2, d3, s, s', e, o1, o2, o3, o4, o5, o6, o7, o8, o9, o10, o11, o12, o13, o14, o15, o16⟩ := seqs_step (d := d) HFk.out.1 HFk.out.2.1 (by rw [HFk.out.2.2.1]; decide) (sec_of HDk.out) (l := pagesW lq) (by rw [HFk.out.2.2.1]; exact pagesW_ok (fun p hp => by rw [hlq] at hp; have := HOA.out.puts p (List.mem_of_mem_take hp); exact ⟨this.2.1, this.2.2⟩)) arm kp
        have HO1 := Aside0.mk o1
        have HO6 := Aside0.mk o6
        have HO10 := Aside0.mk o10
        have HLQ := Aside0.mk hlq
        have HCN := Aside0.mk (show d.cnt ≤ 192 * k ∧ d1.cnt ≤ d.cnt + 64 ∧ d2.cnt ≤ d.cnt + 192 from ⟨HFk.out.2.2.2.1, o5, o9⟩)
        have HNX := Aside0.mk (show Live d3 ∧ d3.since = [] ∧ d3.n = 72 ∧ d3.cnt ≤ 192 * (k + 1) ∧ s' ≤ seqTo d3 64 ∧ seqTo d3 64 ≤ ((k + 1 : Nat) : Int) from ⟨o11, o12, by rw [o13]; exact HFk.out.2.2.1, by have := HFk.out.2.2.2.1; omega, o15, by have := HFk.out.2.2.2.2.2; omega⟩)
        have hsL : L ≤ s := by rw [o2]; exact HFk.out.2.2.2.2.1
        have hsk : s ≤ k := by rw [o2]; exact HFk.out.2.2.2.2.2
        have hs' : s ≤ s' ∧ s' ≤ s + 1 := by omega
        have HO7 := Aside0.mk o7
        have f3 : decide (s < L) = false := decide_eq_false (by omega)
        clear o1 o2 o5 o6 o7 o8 o9 o10 o11 o12 o13 o14 o15 o16 hlq
        go_upto_region 7 with (go_at_call 17; refine (open_c W.heap.size g d W wr HDk.out HBk.out (Nat.le_refl _) (by have := HCN.out.1; omega)).mono ?_; rintro e w6 ⟨v6, rfl, h1, h2, h3, _, h5⟩; rw [HO1.out] at h1 h5 ⊢; obtain ⟨gw, rfl, hg, hw⟩ := h5 rfl; have HD6 := Aside0.mk h1; have HB6 := Aside0.mk h2; have HW6 := Aside0.mk hw; have HG6 := Aside0.mk (show W.heap.size ≤ gw from Nat.le_trans HBk.out.size hg); clear h1 h2 h3 h5 hg hw)
        go_upto_region 10 with (go_at_call 24; refine (seq_c HW6.out).mono ?_; rintro e W6 ⟨rfl, hw6⟩; cases hw6)
        obtain ⟨hc0, hc1, hc2, hC0, hC2⟩ := HAK.out w6 HB6.out
        have HC0 := Aside0.mk hC0
        have HC2 := Aside0.mk hC2
        clear hC0 hC2
        go_upto_region 11 with fail
        obtain ⟨gb, hgb⟩ : ∃ gb, gb = w6.heap.size := ⟨_, rfl⟩
        have HGB := Aside0.mk hgb
        by_cases h60 : 60 < lp.length
        · have f4 : decide ((60 : Int) < lp.length) = true := decide_eq_true (by omega)
          have h60c : 60 ≤ c0 := by omega
          obtain ⟨m, hm⟩ : ∃ m, m = lp.length := ⟨_, rfl⟩
          rw [← hm] at f4 HC0 hc0 h60 hle0 HAK ⊢
          have HMM := Aside0.mk hm
          clear hm
          obtain ⟨w7, hw7⟩ : ∃ w7, w7 = w6.alloc (.cells #[.slice A0 m c0, .int .i64 arm, .slice A2 kp.length c2] 46) := ⟨_, rfl⟩
          have HB7 := Aside0.mk (show Below w6.heap.size w6 w7 by rw [hw7]; exact below_alloc (Below.refl _ _) _)
          have HQ7 := Aside0.mk (show w7.heap[gb]? = some (.cells #[.slice A0 m c0, .int .i64 arm, .slice A2 kp.length c2] 46 (0, 0)) by rw [hw7, hgb]; exact blk_new w6 _)
          rw [← hw7, ← hgb]
          clear hw7 hgb
          have b0 : w7.cell? ⟨gb, 0, none⟩ = some (.slice A0 m c0) := (blk_cell HQ7.out 0).trans rfl
          have b0f := blk_frozen HQ7.out 0
          go_upto_region 13 with fail
          obtain ⟨w8, hw8⟩ : ∃ w8, w8 = w7.setCell ⟨gb, 0, none⟩ (.slice A0 60 c0) := ⟨_, rfl⟩
          have hb8 : Below w6.heap.size w6 w8 := by rw [hw8]; exact HB7.out.setCell (Nat.le_of_eq HGB.out.symm) _
          have q8 : w8.heap[gb]? = some (.cells #[.slice A0 60 c0, .int .i64 arm, .slice A2 kp.length c2] 46 (0, 0)) := by
            rw [hw8]
            have := blk_set HQ7.out 0 (Value.slice A0 60 c0)
            simpa using this
          rw [← hw8]
          have HLW := Aside0.mk (show ∀ w', Below W.heap.size W w' → Kd.C putK w' A0 60 lq from fun w' hb => by rw [HLQ.out]; exact takeC (HAK.out w' hb).2.2.2.1 (by omega))
          have HLL := Aside0.mk (show True ∧ lq.length = 60 from ⟨trivial, by rw [HLQ.out, List.length_take, ← HMM.out]; omega⟩)
          clear hw8 h60 f4 b0 b0f HAK HQ7 HMM h60c hle0
          have HPO := Aside0.mk (show ∀ p ∈ pagesW lq, thereB 72 p.f0 = true ∧ p.f1.length = 512 ∧ BytesOk p.f1 from pagesW_ok (fun p hp => by rw [HLQ.out] at hp; have := HOA.out.puts p (List.mem_of_mem_take hp); exact ⟨this.2.1, this.2.2⟩))
          have HPN := Aside0.mk (show (pagesW lq).length ≤ 100000 by unfold pagesW; rw [List.length_map, List.length_take]; omega)
          have HQ8 := Aside0.mk q8
          have HD8 := Aside0.mk (HD6.out.below hb8)
          have HB8 := Aside0.mk (HB6.out.trans (hb8.mono HB6.out.size))
          have HW8 := Aside0.mk (HW6.out.below hb8)
          have b1 : w8.cell? ⟨gb, 1, none⟩ = some (.int .i64 arm) := (blk_cell q8 1).trans rfl
          clear hb8 q8 HB7
          go_upto_region 14 with (go_at_call 19; refine (arm_calls W.heap.size g d1 arm HOA.out.arm.2 W w8 HD8.out HB8.out).mono ?_; rintro e w9 ⟨rfl, h1, h2, h3⟩; have HD9 := Aside0.mk h1; have HB9 := Aside0.mk h2; have HW9 := Aside0.mk (HW8.out.keep h3); have HQ9 := Aside0.mk (h3.2 _ _ _ _ HQ8.out (by decide) (by decide)); have HL9 := Aside0.mk (show Kd.C putK w9 A0 60 lq from HLW.out w9 h2); clear h1 h2 h3)
          have b2 : w9.cell? ⟨gb, 0, none⟩ = some (.slice A0 60 c0) := (blk_cell HQ9.out 0).trans rfl
          clear b1
          go_upto_region 15 with (first
            | (go_at_call 21; refine (pages_calls w9 A0 60 c0 lq HL9.out).mono ?_; rintro e w10 ⟨v10, rfl, h1, h2⟩; obtain ⟨Ap, cp, rfl, _, hpl⟩ := pgL_of_R h1; have HPL := Aside0.mk hpl; have HD10 := Aside0.mk (HD9.out.below h2); have HB10 := Aside0.mk (HB9.out.trans (h2.mono HB9.out.size)); have HW10 := Aside0.mk (HW9.out.below h2); have HQ10 := Aside0.mk (blk_below HQ9.out h2); clear h1 h2 hpl)
            | (go_at_call 20; refine (commit_c W.heap.size gw g s (armD d1 arm) W w10 Ap (pagesW lq).length cp (pagesW lq) HPL.out HW10.out HD10.out HB10.out (Nat.le_refl _) HG6.out o3 o4 (fun p hp => (HPO.out p hp).2.2) (by have : (armD d1 arm).cnt = d1.cnt := rfl; have := HCN.out; omega) HPN.out).mono ?_; rw [HO6.out]; rintro e w11 ⟨rfl, h1, h2, h3, h4⟩; have HD11 := Aside0.mk h1; have HW11 := Aside0.mk h2; have HB11 := Aside0.mk h3; have HQ11 := Aside0.mk (h4.2 _ _ _ _ HQ10.out (by decide) (by decide) (by decide)); clear h1 h2 h3 h4))
          have b3 : w11.cell? ⟨gb, 0, none⟩ = some (.slice A0 60 c0) := (blk_cell HQ11.out 0).trans rfl
          have b4 : w11.cell? ⟨gb, 2, none⟩ = some (.slice A2 kp.length c2) := (blk_cell HQ11.out 2).trans rfl
          have hwr : IntKind.u64.wrap (s + 1) = s + 1 := by rw [IntKind.wrap_u64]; omega
          have g2 : decide (s + 1 < s') = false := decide_eq_false (by omega)
          have g3 : decide (s' < s) = false := decide_eq_false (by omega)
          clear b2
          by_cases h0 : e = 0
          · subst h0
            by_cases hm0 : 0 < 60
            · have g0 : decide ((0 : Int) < (60 : Nat)) = true := decide_eq_true (by omega)
              have hss : s' = s + 1 := HO7.out rfl (by
                intro h2
                have h3 := congrArg List.length h2
                rw [show (pagesW lq).length = min 70 lq.length by unfold pagesW; rw [List.length_map, List.length_take], HLL.out.2] at h3
                exact absurd h3 (by simp; try omega))
              have g1 : (s' != s + 1) = false := by simp [hss]
              clear hm0 hss
              go_upto_region 17 with (go_at_call 24; refine (seq_c HW11.out).mono ?_; rintro e W11 ⟨rfl, hw11⟩; cases hw11)
              go_upto_region 5 with (first
                | (go_at_call 24; refine (seq_c HW11.out).mono ?_; rintro e W11 ⟨rfl, hw11⟩; cases hw11)
                | ((with_reducible refine gate_dst (N := 92) rfl ?_); refine Kd.R_lit Kd.bool w11.heap.size 4 ?hg (N := 92) ?hd (xs := ([] : List Bool)) (inner := []) (ok := fun _ => True) (okp := fun _ => True) ?hr ?hp (fun _ hk => hk) trivial (Below.refl _ _) (Nat.le_refl _) (by simp) ?_; (case hd => rfl); (case hg => rfl); (case hr => first | (go_simp; done) | (go_simp; rfl)); (case hp => exact (Reps.none _ _)); intro v12 w12 ho4 hb hg_ hnew_; clear hg_ hnew_; have HO12 := Aside0.mk ho4; have HB12 := Aside0.mk hb; have b5 : w12.cell? ⟨gb, 2, none⟩ = some (.slice A2 kp.length c2) := (blk_cell (blk_below HQ11.out hb) 2).trans rfl; clear hb ho4)
                | ((with_reducible refine gate_dst (N := 95) rfl ?_); at_builtin; refine Kd.R_append_rows Kd.bool (w0 := w11) w11.heap.size rfl (.tmp 92) (.tmp 94) 44 4 (.bool false) 1 rfl Try.underlying44 INF.out rfl (by decide) (by omega) v12 [] kp _ _ _ (fun _ => True) (fun _ => False) rfl rfl ?aO ?aR (fun _ _ h => h) (fun _ h => h.elim) ?aF ?aB ?aS ?aL ?_; (case aR => exact Kd.C_below (HKW.out w11 HB11.out) HB12.out); (case aB => exact HB12.out); (case aF => exact (fun _ _ => trivial)); (case aO => exact HO12.out); (case aS => exact HB12.out.size); (case aL => have h9 : kp.length ≤ R := HOA.out.keep; simp; omega); intro v13 w13 ho hb hg hat; obtain ⟨A13, c13, rfl⟩ := Kd.R_slice ho; rw [List.nil_append] at ho; have HO13 := Aside0.mk ho; have HB13 := Aside0.mk hb; clear ho hb hg hat)
                | (go_at_call 23; refine (crash_calls W.heap.size g d2 W w13 (HD11.out.below HB13.out) (HB11.out.trans (HB13.out.mono HB11.out.size)) (Nat.le_refl _) (by have := HCN.out; omega) A13 c13 kp (fun W' h1 _ => lies_bool HO13.out W' h1)).mono ?_; rw [HO10.out]; rintro e w14 ⟨rfl, h1, h2, h3⟩; have HD14 := Aside0.mk h1; have HB14 := Aside0.mk h2; clear h1 h2 h3))
              go_wp2
              go_roundw
              case rel => exact ⟨k + 1, d3, s', by omega, by omega, rfl, by omega, by go_num, HD14, HB14, HNX⟩
              case measure => simp [intOf]; omega
            · exact absurd (show 0 < 60 by decide) hm0
          · have g4 : (e == 0) = false := by simp [h0]
            clear h0
            go_upto_region 17 with (go_at_call 24; refine (seq_c HW11.out).mono ?_; rintro e W11 ⟨rfl, hw11⟩; cases hw11)
            go_upto_region 5 with (first
              | (go_at_call 24; refine (seq_c HW11.out).mono ?_; rintro e W11 ⟨rfl, hw11⟩; cases hw11)
              | ((with_reducible refine gate_dst (N := 92) rfl ?_); refine Kd.R_lit Kd.bool w11.heap.size 4 ?hg (N := 92) ?hd (xs := ([] : List Bool)) (inner := []) (ok := fun _ => True) (okp := fun _ => True) ?hr ?hp (fun _ hk => hk) trivial (Below.refl _ _) (Nat.le_refl _) (by simp) ?_; (case hd => rfl); (case hg => rfl); (case hr => first | (go_simp; done) | (go_simp; rfl)); (case hp => exact (Reps.none _ _)); intro v12 w12 ho4 hb hg_ hnew_; clear hg_ hnew_; have HO12 := Aside0.mk ho4; have HB12 := Aside0.mk hb; have b5 : w12.cell? ⟨gb, 2, none⟩ = some (.slice A2 kp.length c2) := (blk_cell (blk_below HQ11.out hb) 2).trans rfl; clear hb ho4)
              | ((with_reducible refine gate_dst (N := 95) rfl ?_); at_builtin; refine Kd.R_append_rows Kd.bool (w0 := w11) w11.heap.size rfl (.tmp 92) (.tmp 94) 44 4 (.bool false) 1 rfl Try.underlying44 INF.out rfl (by decide) (by omega) v12 [] kp _ _ _ (fun _ => True) (fun _ => False) rfl rfl ?aO ?aR (fun _ _ h => h) (fun _ h => h.elim) ?aF ?aB ?aS ?aL ?_; (case aR => exact Kd.C_below (HKW.out w11 HB11.out) HB12.out); (case aB => exact HB12.out); (case aF => exact (fun _ _ => trivial)); (case aO => exact HO12.out); (case aS => exact HB12.out.size); (case aL => have h9 : kp.length ≤ R := HOA.out.keep; simp; omega); intro v13 w13 ho hb hg hat; obtain ⟨A13, c13, rfl⟩ := Kd.R_slice ho; rw [List.nil_append] at ho; have HO13 := Aside0.mk ho; have HB13 := Aside0.mk hb; clear ho hb hg hat)
              | (go_at_call 23; refine (crash_calls W.heap.size g d2 W w13 (HD11.out.below HB13.out) (HB11.out.trans (HB13.out.mono HB11.out.size)) (Nat.le_refl _) (by have := HCN.out; omega) A13 c13 kp (fun W' h1 _ => lies_bool HO13.out W' h1)).mono ?_; rw [HO10.out]; rintro e w14 ⟨rfl, h1, h2, h3⟩; have HD14 := Aside0.mk h1; have HB14 := Aside0.mk h2; clear h1 h2 h3))
            go_wp2
            go_roundw
            case rel => exact ⟨k + 1, d3, s', by omega, by omega, rfl, by omega, by go_num, HD14, HB14, HNX⟩
            case measure => simp [intOf]; omega
        · have f4 : decide ((60 : Int) < lp.length) = false := decide_eq_false (by omega)
          obtain ⟨m, hm⟩ : ∃ m, m = lp.length := ⟨_, rfl⟩
          rw [← hm] at f4 HC0 hc0 h60 hle0 HAK ⊢
          have HMM := Aside0.mk hm
          clear hm
          obtain ⟨w7, hw7⟩ : ∃ w7, w7 = w6.alloc (.cells #[.slice A0 m c0, .int .i64 arm, .slice A2 kp.length c2] 46) := ⟨_, rfl⟩
          have HB7 := Aside0.mk (show Below w6.heap.size w6 w7 by rw [hw7]; exact below_alloc (Below.refl _ _) _)
          have HQ7 := Aside0.mk (show w7.heap[gb]? = some (.cells #[.slice A0 m c0, .int .i64 arm, .slice A2 kp.length c2] 46 (0, 0)) by rw [hw7, hgb]; exact blk_new w6 _)
          rw [← hw7, ← hgb]
          clear hw7 hgb
          have b0 : w7.cell? ⟨gb, 0, none⟩ = some (.slice A0 m c0) := (blk_cell HQ7.out 0).trans rfl
          have b0f := blk_frozen HQ7.out 0
          go_upto_region 13 with fail
          obtain ⟨w8, hw8⟩ : ∃ w8, w8 = w7 := ⟨_, rfl⟩
          have hb8 : Below w6.heap.size w6 w8 := by rw [hw8]; exact HB7.out
          have q8 : w8.heap[gb]? = some (.cells #[.slice A0 m c0, .int .i64 arm, .slice A2 kp.length c2] 46 (0, 0)) := by rw [hw8]; exact HQ7.out
          rw [← hw8]
          have e60 : lq = lp := by rw [HLQ.out]; exact List.take_of_length_le (by rw [← HMM.out]; omega)
          have HLW := Aside0.mk (show ∀ w', Below W.heap.size W w' → Kd.C putK w' A0 m lq from fun w' hb => by rw [e60]; exact (HAK.out w' hb).2.2.2.1)
          have HLL := Aside0.mk (show True ∧ lq.length = m from ⟨trivial, by rw [e60]; exact HMM.out.symm⟩)
          clear hw8 h60 f4 b0 b0f HAK HQ7 HMM hle0 e60
          have HPO := Aside0.mk (show ∀ p ∈ pagesW lq, thereB 72 p.f0 = true ∧ p.f1.length = 512 ∧ BytesOk p.f1 from pagesW_ok (fun p hp => by rw [HLQ.out] at hp; have := HOA.out.puts p (List.mem_of_mem_take hp); exact ⟨this.2.1, this.2.2⟩))
          have HPN := Aside0.mk (show (pagesW lq).length ≤ 100000 by unfold pagesW; rw [List.length_map, List.length_take]; omega)
          have HQ8 := Aside0.mk q8
          have HD8 := Aside0.mk (HD6.out.below hb8)
          have HB8 := Aside0.mk (HB6.out.trans (hb8.mono HB6.out.size))
          have HW8 := Aside0.mk (HW6.out.below hb8)
          have b1 : w8.cell? ⟨gb, 1, none⟩ = some (.int .i64 arm) := (blk_cell q8 1).trans rfl
          clear hb8 q8 HB7
          go_upto_region 14 with (go_at_call 19; refine (arm_calls W.heap.size g d1 arm HOA.out.arm.2 W w8 HD8.out HB8.out).mono ?_; rintro e w9 ⟨rfl, h1, h2, h3⟩; have HD9 := Aside0.mk h1; have HB9 := Aside0.mk h2; have HW9 := Aside0.mk (HW8.out.keep h3); have HQ9 := Aside0.mk (h3.2 _ _ _ _ HQ8.out (by decide) (by decide)); have HL9 := Aside0.mk (show Kd.C putK w9 A0 m lq from HLW.out w9 h2); clear h1 h2 h3)
          have b2 : w9.cell? ⟨gb, 0, none⟩ = some (.slice A0 m c0) := (blk_cell HQ9.out 0).trans rfl
          clear b1
          go_upto_region 15 with (first
            | (go_at_call 21; refine (pages_calls w9 A0 m c0 lq HL9.out).mono ?_; rintro e w10 ⟨v10, rfl, h1, h2⟩; obtain ⟨Ap, cp, rfl, _, hpl⟩ := pgL_of_R h1; have HPL := Aside0.mk hpl; have HD10 := Aside0.mk (HD9.out.below h2); have HB10 := Aside0.mk (HB9.out.trans (h2.mono HB9.out.size)); have HW10 := Aside0.mk (HW9.out.below h2); have HQ10 := Aside0.mk (blk_below HQ9.out h2); clear h1 h2 hpl)
            | (go_at_call 20; refine (commit_c W.heap.size gw g s (armD d1 arm) W w10 Ap (pagesW lq).length cp (pagesW lq) HPL.out HW10.out HD10.out HB10.out (Nat.le_refl _) HG6.out o3 o4 (fun p hp => (HPO.out p hp).2.2) (by have : (armD d1 arm).cnt = d1.cnt := rfl; have := HCN.out; omega) HPN.out).mono ?_; rw [HO6.out]; rintro e w11 ⟨rfl, h1, h2, h3, h4⟩; have HD11 := Aside0.mk h1; have HW11 := Aside0.mk h2; have HB11 := Aside0.mk h3; have HQ11 := Aside0.mk (h4.2 _ _ _ _ HQ10.out (by decide) (by decide) (by decide)); clear h1 h2 h3 h4))
          have b3 : w11.cell? ⟨gb, 0, none⟩ = some (.slice A0 m c0) := (blk_cell HQ11.out 0).trans rfl
          have b4 : w11.cell? ⟨gb, 2, none⟩ = some (.slice A2 kp.length c2) := (blk_cell HQ11.out 2).trans rfl
          have hwr : IntKind.u64.wrap (s + 1) = s + 1 := by rw [IntKind.wrap_u64]; omega
          have g2 : decide (s + 1 < s') = false := decide_eq_false (by omega)
          have g3 : decide (s' < s) = false := decide_eq_false (by omega)
          clear b2
          by_cases h0 : e = 0
          · subst h0
            by_cases hm0 : 0 < m
            · have g0 : decide ((0 : Int) < m) = true := decide_eq_true (by omega)
              have hss : s' = s + 1 := HO7.out rfl (by
                intro h2
                have h3 := congrArg List.length h2
                rw [show (pagesW lq).length = min 70 lq.length by unfold pagesW; rw [List.length_map, List.length_take], HLL.out.2] at h3
                exact absurd h3 (by simp; try omega))
              have g1 : (s' != s + 1) = false := by simp [hss]
              have g0' : decide (0 < m) = true := decide_eq_true hm0
              clear hss
              go_upto_region 17 with (go_at_call 24; refine (seq_c HW11.out).mono ?_; rintro e W11 ⟨rfl, hw11⟩; cases hw11)
              go_upto_region 5 with (first
                | (go_at_call 24; refine (seq_c HW11.out).mono ?_; rintro e W11 ⟨rfl, hw11⟩; cases hw11)
                | ((with_reducible refine gate_dst (N := 92) rfl ?_); refine Kd.R_lit Kd.bool w11.heap.size 4 ?hg (N := 92) ?hd (xs := ([] : List Bool)) (inner := []) (ok := fun _ => True) (okp := fun _ => True) ?hr ?hp (fun _ hk => hk) trivial (Below.refl _ _) (Nat.le_refl _) (by simp) ?_; (case hd => rfl); (case hg => rfl); (case hr => first | (go_simp; done) | (go_simp; rfl)); (case hp => exact (Reps.none _ _)); intro v12 w12 ho4 hb hg_ hnew_; clear hg_ hnew_; have HO12 := Aside0.mk ho4; have HB12 := Aside0.mk hb; have b5 : w12.cell? ⟨gb, 2, none⟩ = some (.slice A2 kp.length c2) := (blk_cell (blk_below HQ11.out hb) 2).trans rfl; clear hb ho4)
                | ((with_reducible refine gate_dst (N := 95) rfl ?_); at_builtin; refine Kd.R_append_rows Kd.bool (w0 := w11) w11.heap.size rfl (.tmp 92) (.tmp 94) 44 4 (.bool false) 1 rfl Try.underlying44 INF.out rfl (by decide) (by omega) v12 [] kp _ _ _ (fun _ => True) (fun _ => False) rfl rfl ?aO ?aR (fun _ _ h => h) (fun _ h => h.elim) ?aF ?aB ?aS ?aL ?_; (case aR => exact Kd.C_below (HKW.out w11 HB11.out) HB12.out); (case aB => exact HB12.out); (case aF => exact (fun _ _ => trivial)); (case aO => exact HO12.out); (case aS => exact HB12.out.size); (case aL => have h9 : kp.length ≤ R := HOA.out.keep; simp; omega); intro v13 w13 ho hb hg hat; obtain ⟨A13, c13, rfl⟩ := Kd.R_slice ho; rw [List.nil_append] at ho; have HO13 := Aside0.mk ho; have HB13 := Aside0.mk hb; clear ho hb hg hat)
                | (go_at_call 23; refine (crash_calls W.heap.size g d2 W w13 (HD11.out.below HB13.out) (HB11.out.trans (HB13.out.mono HB11.out.size)) (Nat.le_refl _) (by have := HCN.out; omega) A13 c13 kp (fun W' h1 _ => lies_bool HO13.out W' h1)).mono ?_; rw [HO10.out]; rintro e w14 ⟨rfl, h1, h2, h3⟩; have HD14 := Aside0.mk h1; have HB14 := Aside0.mk h2; clear h1 h2 h3))
              go_wp2
              go_roundw
              case rel => exact ⟨k + 1, d3, s', by omega, by omega, rfl, by omega, by go_num, HD14, HB14, HNX⟩
              case measure => simp [intOf]; omega
            · have g0 : decide ((0 : Int) < m) = false := decide_eq_false (by omega)
              have g0' : decide (0 < m) = false := decide_eq_false hm0
              go_upto_region 17 with (go_at_call 24; refine (seq_c HW11.out).mono ?_; rintro e W11 ⟨rfl, hw11⟩; cases hw11)
              go_upto_region 5 with (first
                | (go_at_call 24; refine (seq_c HW11.out).mono ?_; rintro e W11 ⟨rfl, hw11⟩; cases hw11)
                | ((with_reducible refine gate_dst (N := 92) rfl ?_); refine Kd.R_lit Kd.bool w11.heap.size 4 ?hg (N := 92) ?hd (xs := ([] : List Bool)) (inner := []) (ok := fun _ => True) (okp := fun _ => True) ?hr ?hp (fun _ hk => hk) trivial (Below.refl _ _) (Nat.le_refl _) (by simp) ?_; (case hd => rfl); (case hg => rfl); (case hr => first | (go_simp; done) | (go_simp; rfl)); (case hp => exact (Reps.none _ _)); intro v12 w12 ho4 hb hg_ hnew_; clear hg_ hnew_; have HO12 := Aside0.mk ho4; have HB12 := Aside0.mk hb; have b5 : w12.cell? ⟨gb, 2, none⟩ = some (.slice A2 kp.length c2) := (blk_cell (blk_below HQ11.out hb) 2).trans rfl; clear hb ho4)
                | ((with_reducible refine gate_dst (N := 95) rfl ?_); at_builtin; refine Kd.R_append_rows Kd.bool (w0 := w11) w11.heap.size rfl (.tmp 92) (.tmp 94) 44 4 (.bool false) 1 rfl Try.underlying44 INF.out rfl (by decide) (by omega) v12 [] kp _ _ _ (fun _ => True) (fun _ => False) rfl rfl ?aO ?aR (fun _ _ h => h) (fun _ h => h.elim) ?aF ?aB ?aS ?aL ?_; (case aR => exact Kd.C_below (HKW.out w11 HB11.out) HB12.out); (case aB => exact HB12.out); (case aF => exact (fun _ _ => trivial)); (case aO => exact HO12.out); (case aS => exact HB12.out.size); (case aL => have h9 : kp.length ≤ R := HOA.out.keep; simp; omega); intro v13 w13 ho hb hg hat; obtain ⟨A13, c13, rfl⟩ := Kd.R_slice ho; rw [List.nil_append] at ho; have HO13 := Aside0.mk ho; have HB13 := Aside0.mk hb; clear ho hb hg hat)
                | (go_at_call 23; refine (crash_calls W.heap.size g d2 W w13 (HD11.out.below HB13.out) (HB11.out.trans (HB13.out.mono HB11.out.size)) (Nat.le_refl _) (by have := HCN.out; omega) A13 c13 kp (fun W' h1 _ => lies_bool HO13.out W' h1)).mono ?_; rw [HO10.out]; rintro e w14 ⟨rfl, h1, h2, h3⟩; have HD14 := Aside0.mk h1; have HB14 := Aside0.mk h2; clear h1 h2 h3))
              go_wp2
              go_roundw
              case rel => exact ⟨k + 1, d3, s', by omega, by omega, rfl, by omega, by go_num, HD14, HB14, HNX⟩
              case measure => simp [intOf]; omega
          · have g4 : (e == 0) = false := by simp [h0]
            clear h0
            go_upto_region 17 with (go_at_call 24; refine (seq_c HW11.out).mono ?_; rintro e W11 ⟨rfl, hw11⟩; cases hw11)
            go_upto_region 5 with (first
              | (go_at_call 24; refine (seq_c HW11.out).mono ?_; rintro e W11 ⟨rfl, hw11⟩; cases hw11)
              | ((with_reducible refine gate_dst (N := 92) rfl ?_); refine Kd.R_lit Kd.bool w11.heap.size 4 ?hg (N := 92) ?hd (xs := ([] : List Bool)) (inner := []) (ok := fun _ => True) (okp := fun _ => True) ?hr ?hp (fun _ hk => hk) trivial (Below.refl _ _) (Nat.le_refl _) (by simp) ?_; (case hd => rfl); (case hg => rfl); (case hr => first | (go_simp; done) | (go_simp; rfl)); (case hp => exact (Reps.none _ _)); intro v12 w12 ho4 hb hg_ hnew_; clear hg_ hnew_; have HO12 := Aside0.mk ho4; have HB12 := Aside0.mk hb; have b5 : w12.cell? ⟨gb, 2, none⟩ = some (.slice A2 kp.length c2) := (blk_cell (blk_below HQ11.out hb) 2).trans rfl; clear hb ho4)
              | ((with_reducible refine gate_dst (N := 95) rfl ?_); at_builtin; refine Kd.R_append_rows Kd.bool (w0 := w11) w11.heap.size rfl (.tmp 92) (.tmp 94) 44 4 (.bool false) 1 rfl Try.underlying44 INF.out rfl (by decide) (by omega) v12 [] kp _ _ _ (fun _ => True) (fun _ => False) rfl rfl ?aO ?aR (fun _ _ h => h) (fun _ h => h.elim) ?aF ?aB ?aS ?aL ?_; (case aR => exact Kd.C_below (HKW.out w11 HB11.out) HB12.out); (case aB => exact HB12.out); (case aF => exact (fun _ _ => trivial)); (case aO => exact HO12.out); (case aS => exact HB12.out.size); (case aL => have h9 : kp.length ≤ R := HOA.out.keep; simp; omega); intro v13 w13 ho hb hg hat; obtain ⟨A13, c13, rfl⟩ := Kd.R_slice ho; rw [List.nil_append] at ho; have HO13 := Aside0.mk ho; have HB13 := Aside0.mk hb; clear ho hb hg hat)
              | (go_at_call 23; refine (crash_calls W.heap.size g d2 W w13 (HD11.out.below HB13.out) (HB11.out.trans (HB13.out.mono HB11.out.size)) (Nat.le_refl _) (by have := HCN.out; omega) A13 c13 kp (fun W' h1 _ => lies_bool HO13.out W' h1)).mono ?_; rw [HO10.out]; rintro e w14 ⟨rfl, h1, h2, h3⟩; have HD14 := Aside0.mk h1; have HB14 := Aside0.mk h2; clear h1 h2 h3))
            go_wp2
            go_roundw
            case rel => exact ⟨k + 1, d3, s', by omega, by omega, rfl, by omega, by go_num, HD14, HB14, HNX⟩
            case measure => simp [intOf]; omega
      · have f2 : decide ((k : Int) < 6) = false := decide_eq_false (by omega)
        go_wp2_with (go_at_call 15; refine (lives_c wr).mono ?_; rintro e w20 ⟨rfl, h1⟩; have HB20 := Aside0.mk (HBk.out.trans (h1.mono HBk.out.size)); clear h1)
        go_ret
        exact ⟨rfl, HB20.out⟩
    · have f1 : decide ((k : Int) < n) = false := decide_eq_false (by omega)
      go_wp2_with (go_at_call 15; refine (lives_c wr).mono ?_; rintro e w20 ⟨rfl, h1⟩; have HB20 := Aside0.mk (HBk.out.trans (h1.mono HBk.out.size)); clear h1)
      go_ret
      exact ⟨rfl, HB20.out⟩
end Go.Proofs.Ytmghgghheebnjaa.Dis
namespace Go.Proofs.Ytmghgghheebnjaa.walSeqs
open Go.ChangeShapes Go.WideShapes Go.ChangeAt Go.RowKit Go.Joins
open Go.ChangeMaps (open_string shut_string)
set_option linter.unusedVariables false
theorem own : ownKnob Try.prog.godebug = none := by kernel_rfl
theorem laidOut : laidOutB Try.prog = true := by kernel_rfl
theorem reach : reachBytes = 140737488351232 := by kernel_rfl
set_option maxHeartbeats 1000000 in
set_option maxRecDepth 100000 in
theorem lifted (os : Os) (started : os.Started) (H : Type) (enc : TypeId × Value → H) :
    ReturnsInHanded {} Try.checked os 5 .any (Rows.walSeqsSpec.pre6 enc Try.prog Try.f5 Rows.walSeqsRow.domain false) (Rows.walSeqsSpec.post enc Try.prog Try.f5 false true false false) := by
  refine returnsInHanded_of_change_sized (C := Try.checked) own started (by kernel_rfl) Try.func5
    (ChangeSpec.witness6 (enc := enc) (C := Try.checked) false ⟨#[], #[.slice none 0 0], []⟩ 8 (by kernel_rfl) (by kernel_rfl) (by kernel_rfl) (by kernel_rfl)) ?_
  intro W base args ds gs before hval0 hW hcnd hsz0 _
  have hval : ∀ (j : Nat) t v, Try.f5.params[j]? = some t → args[j]? = some v → Value.okWide Try.prog W .any base t v := hval0
  have hW' := hW
  obtain ⟨p, q, hA0, hV, rfl, hfz, hnd⟩ := hW
  have hA : DataW.TrodAll enc Try.prog W 0 (fun _ => true) true Try.f5.params.toList args.toList ds p := hA0
  rw [Try.params5] at hA hval hsz0
  obtain ⟨v0, vs0, d0, ds0, p0, q0, hargs, rfl, rfl, h0, r0⟩ := trodAll_cons hA
  obtain ⟨rfl, rfl, rfl⟩ := trodAll_nil r0
  obtain rfl : args = #[v0] := by cases args; simp_all
  obtain ⟨rfl, rfl⟩ := trodVars_none hV
  have k0 := h0
  have lt0 : ∀ x ∈ p0, x.block < W.heap.size := by obtain ⟨m, hm⟩ := k0; exact DataW.trod_lt m _ _ _ hm
  obtain ⟨x0, len0, cap0, rfl⟩ := okWide_slice Try.underlying34 (hval 0 34 v0 rfl rfl)
  obtain ⟨m0, f0⟩ := h0
  obtain ⟨A0, c0, l0, e0, B0, H0, O0⟩ := Dis.acts_K f0
  have e0' := congrArg (fun x => x[0]?) e0
  simp [Value.cells] at e0'
  obtain ⟨rfl, rfl, rfl⟩ := e0'
  have z0 : ((d0, p0).1.weights Try.prog 34).all (· ≤ reachBytes) = true := List.all_eq_true.2 fun n hn => List.all_eq_true.1 hsz0 n (DataW.weights_mem_each (j := 0) rfl rfl n hn)
  have O0 := O0 reachBytes z0
  clear hA0 hval0 hsz0
  rw [reach] at O0
  refine (Dis.seqs_calls W l0 x0 cap0 140737488351232 H0 B0 (Nat.le_refl _) O0.2).mono fun e W' ⟨he, bel⟩ => ?_
  subst he
  exact ⟨_, rfl, _, _, _, [], _, [], hW', trodAll_mk1 (shut_bool Try.underlying4 _), (trodAll_cons_mk (Below.trod laidOut (by kernel_rfl) (of_decide_eq_true (by kernel_rfl)) k0 bel lt0) trodAll_mk0), rfl, bel.frame _, fun h => by cases h⟩
theorem over : Rows.walSeqsRow.holds Try.pinned (OpenSpec.ofChange Rows.walSeqsSpec) :=
  OpenClaim.holds_of_wide 5 Try.f5 rfl rfl rfl rfl rfl rfl rfl ⟨rfl, rfl, rfl, rfl, rfl⟩ rfl rfl rfl rfl rfl (by kernel_rfl) Try.func5 (by kernel_rfl)
    (of_decide_eq_true (by kernel_rfl)) (by unfold Func.isWrapper; first | (rw [if_pos (by decide +kernel)]; kernel_rfl) | (rw [if_neg (by decide +kernel)]; exact ⟨rfl, rfl⟩))
    (fun os started H enc _ => lifted os started H enc)
theorem proved : Rows.WalSeqsSaid := over
#print axioms proved
end Go.Proofs.Ytmghgghheebnjaa.walSeqs
namespace Go.Proofs.Ytmghgghheebnjaa
/-- The row, under a short name, for the claim. -/
theorem walSeqs_holds : Rows.WalSeqsSaid := walSeqs.proved
end Go.Proofs.Ytmghgghheebnjaa
