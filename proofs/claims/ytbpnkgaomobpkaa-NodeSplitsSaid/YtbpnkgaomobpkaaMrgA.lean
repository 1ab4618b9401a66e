/- slices.Grow at nil and slices.Concat, for strings and whole numbers, walked by hand (written by mkmrga.py). -/
import Derived.Test.YtbpnkgaomobpkaaPagM
import Derived.Test.YtbpnkgaomobpkaaWZeros
import Derived.Test.YtbpnkgaomobpkaaWGuard
import Derived.Deep.CutBlock
import Derived.Deep.CutRange
namespace Go.Proofs.Ytbpnkgaomobpkaa.Mrg
open Go.RowKit Go.Proofs.YtbpnkgaomobpkaaW.PrintWords Go.Proofs.YtbpnkgaomobpkaaW.PrintLast Go.Proofs.YtbpnkgaomobpkaaW.PrintMore
set_option linter.unusedVariables false
set_option linter.unusedSimpArgs false
abbrev tt : Nat → Prop := fun _ => True
/-- A row cut to nothing. -/
theorem R_zero {α : Type} {d : Kd α} {e : Nat} {w : World} {base : Nat} {A : Option Addr} {n c : Nat} {xs : List α} (h : d.R e w base tt (.slice A n c) xs) : d.R e w base tt (.slice A 0 c) [] := by
  refine ⟨fun _ _ => trivial, [], ?_, Reps.none _ _⟩
  obtain ⟨_, inner, ho, _⟩ := h
  refine ⟨by simp, ?_⟩
  rcases ho.2 with ⟨h1, h2⟩ | ⟨g, cap, cur, h1, h2, h3, h4, h5, h6, h7⟩
  · injection h1 with e1 e2 e3
    subst e1
    subst e3
    exact .inl ⟨rfl, rfl⟩
  · injection h1 with e1 e2 e3
    subst e1
    subst e3
    exact .inr ⟨g, c, cur, rfl, h2, h3, Nat.zero_le _, h5, h6, by simp⟩
set_option maxHeartbeats 4000000 in
set_option maxRecDepth 100000 in
theorem grow_s (n : Nat) (hn : n ≤ 1000000) (W : World) : Calls Try.prog 53 #[.slice none 0 0, .int .i64 n] W fun e w' => ∃ v, e = .returned v ∧ Kd.R Kd.string 9 w' W.heap.size tt v [] ∧ Below W.heap.size W w' := by
  have info : (Try.prog.info? 9).map (fun i => (i.zero, i.size, i.bytes)) = some (some (.string ⟨#[]⟩), 1, 16) := by kernel_rfl
  have INF := Aside0.mk info
  have HB := Aside0.mk (Below.refl W.heap.size W)
  have HO := Aside0.mk (Kd.R_nil Kd.string 9 W W.heap.size tt)
  clear info
  go_enter Try.func53, Try.ntmps53
  by_cases h0 : 0 < n
  · have e1 : decide ((0 : Int) < n) = true := decide_eq_true (by omega)
    go_wp2_with (first
      | ((with_reducible refine gate_dst (N := 22) rfl ?_); at_builtin; refine Kd.R_append_zeros Kd.string (w0 := W) W.heap.size rfl (.tmp 20) (.tmp 21) 22 3 9 (.string ⟨#[]⟩) 16 rfl Try.underlying22 Try.underlying3 INF.out rfl (by decide) (by decide) (.slice none 0 0) [] ⟨#[]⟩ (kx := .i64) (n : Int) tt rfl rfl ?aZ (fun _ _ => trivial) HO.out (by omega) HB.out HB.out.size ?aL ?_; (case aZ => rfl); (case aL => simp; omega); intro v6 w12 ho hb hg hat; obtain ⟨A12, c12, rfl⟩ := Kd.R_slice ho; have HO12 := Aside0.mk (R_zero ho); have HB12 := Aside0.mk hb; clear ho hb hg hat))
    go_ret
    exact ⟨_, rfl, HO12.out, HB12.out⟩
  · obtain rfl : n = 0 := by omega
    go_wp2
    go_ret
    exact ⟨_, rfl, HO.out, HB.out⟩
theorem row_s {w : World} {A : Option Addr} {m : Nat} {ls : List (List ByteArray)} (h : (Kd.slice 9 Kd.string).C w A m ls) (k : Nat) (hk : k < m) :
    ∃ ad B cB, A = some ad ∧ w.cell? (ad.add k) = some (.slice B (ls.getD k []).length cB) ∧ (ls.getD k []).length ≤ cB ∧ Kd.C Kd.string w B (ls.getD k []).length (ls.getD k []) := by
  obtain ⟨ad, c, hA, hl, hK, hc⟩ := Kd.C_get h [] (k : Int) (by omega) (by omega)
  simp only [Int.toNat_natCast] at hK hc
  obtain ⟨B, cB, rfl, h1, h2⟩ := hK
  have := hc 0 _ rfl
  have hs : (Kd.slice 9 Kd.string).sz = 1 := rfl
  rw [hs, Nat.mul_one, Nat.add_zero] at this
  exact ⟨ad, B, cB, hA, this, h1, h2⟩
set_option maxHeartbeats 8000000 in
set_option maxRecDepth 100000 in
theorem concat_s (W : World) (A : Option Addr) (m c : Nat) (ls : List (List ByteArray)) (hC : (Kd.slice 9 Kd.string).C W A m ls) (hm : m = ls.length) (hmb : m ≤ 1000) (hl : ls.flatten.length ≤ 1000000) :
    Calls Try.prog 41 #[.slice A m c] W fun e w' => ∃ v, e = .returned v ∧ Kd.R Kd.string 9 w' W.heap.size tt v ls.flatten ∧ Below W.heap.size W w' := by
  have info : (Try.prog.info? 9).map (fun i => (i.zero, i.size, i.bytes)) = some (some (.string ⟨#[]⟩), 1, 16) := by kernel_rfl
  have INF := Aside0.mk info
  have HB := Aside0.mk (Below.refl W.heap.size W)
  have HC := Aside0.mk hC
  have HM := Aside0.mk hm
  have HL := Aside0.mk hl
  clear info hC hm hl
  have step : Aside0 (∀ k, k < m → (ls.take (k + 1)).flatten = (ls.take k).flatten ++ ls.getD k []) := ⟨fun k hk => by
    have hkl : k < ls.length := by rw [← HM.out]; exact hk
    rw [List.getD_eq_getElem?_getD, List.getElem?_eq_getElem hkl, Option.getD_some, ← List.take_append_getElem hkl, List.flatten_append, List.flatten_cons, List.flatten_nil, List.append_nil]⟩
  have bnd : Aside0 (∀ k, (ls.take k).flatten.length ≤ 1000000) := ⟨fun k => by
    have h1 := HL.out
    have h2 : ls.flatten = (ls.take k).flatten ++ (ls.drop k).flatten := by rw [← List.flatten_append, List.take_append_drop]
    rw [h2, List.length_append] at h1
    omega⟩
  have all : Aside0 (ls.take m = ls) := ⟨List.take_of_length_le (by rw [HM.out]; exact Nat.le_refl _)⟩
  go_enter Try.func41, Try.ntmps41
  go_wp2_with fail
  go_loopw [3, 11] (fun y x wr => ∃ (k n : Nat), k ≤ m ∧ x = .int .i64 k ∧ y = .int .i64 n ∧ Aside0 (n = (ls.take k).flatten.length) ∧ n ≤ 1000000 ∧ wr = W) (fun _ x _ => m - (intOf x).toNat)
  case atStart => exact ⟨0, 0, Nat.zero_le _, rfl, rfl, ⟨by simp⟩, by omega, rfl⟩
  case round =>
    obtain ⟨k, n, hk, rfl, rfl, HN, hn, hw⟩ := hrel
    have hw' := hw.symm
    subst hw'
    clear hw
    by_cases hx : k < m
    · have e1 : decide ((k : Int) < m) = true := decide_eq_true (by omega)
      obtain ⟨ad, B, cB, hA, cel, hle, hCB⟩ := row_s HC.out k hx
      subst hA
      obtain ⟨nb, hnb⟩ : ∃ nb, nb = (ls.getD k []).length := ⟨_, rfl⟩
      rw [← hnb] at cel
      have HNB := Aside0.mk hnb
      have HN2 := Aside0.mk (show n + nb = (ls.take (k + 1)).flatten.length by rw [step.out k hx, List.length_append, ← HN.out, HNB.out])
      have hb2 : n + nb ≤ 1000000 := by rw [HN2.out]; exact bnd.out _
      have e2 : decide ((n : Int) + nb < 0) = false := decide_eq_false (by omega)
      clear hnb hle hCB
      go_wp2_with fail
      go_roundw
      case rel => exact ⟨k + 1, n + nb, by omega, by go_num, by go_num, HN2, hb2, trivial⟩
      case measure => simp [intOf]; omega
    · obtain rfl : k = m := by omega
      rw [all.out] at HN
      have e1 : decide ((k : Int) < k) = false := decide_eq_false (by omega)
      go_wp2_with (first
        | (go_at_call 53; refine (grow_s n hn W).mono ?_; rintro e w1 ⟨v1, rfl, h1, h2⟩; have HR1 := Aside0.mk h1; have HB1 := Aside0.mk h2; clear h1 h2))
      go_loopw [6, 27] (fun y x wr => ∃ (j : Nat), j ≤ k ∧ x = .int .i64 j ∧ Aside0 (Kd.R Kd.string 9 wr W.heap.size tt y (ls.take j).flatten) ∧ Aside0 (Below W.heap.size W wr)) (fun _ x _ => k - (intOf x).toNat)
      case atStart => exact ⟨0, Nat.zero_le _, rfl, ⟨by rw [List.take_zero]; exact HR1.out⟩, HB1⟩
      case round =>
        obtain ⟨j, hj, rfl, HRj, HBj⟩ := hrel
        obtain ⟨A6, c6, hv⟩ := Kd.R_slice HRj.out
        subst hv
        by_cases hx2 : j < k
        · have e3 : decide ((j : Int) < k) = true := decide_eq_true (by omega)
          obtain ⟨ad, B, cB, hA, cel, hle, hCB⟩ := row_s (Kd.C_below HC.out HBj.out) j hx2
          subst hA
          have HST := Aside0.mk (step.out j hx2)
          generalize ls.getD j [] = l at cel hle hCB HST
          have HCB := Aside0.mk hCB
          obtain ⟨n6, hn6⟩ : ∃ n6, n6 = (ls.take j).flatten.length := ⟨_, rfl⟩
          have HN6 := Aside0.mk (show (n6 + l.length) * 16 ≤ 140737488355328 by have h1 := bnd.out (j + 1); rw [HST.out, List.length_append, ← hn6] at h1; omega)
          have HR6 := Aside0.mk (show Kd.R Kd.string 9 wr W.heap.size tt (.slice A6 n6 c6) (ls.take j).flatten by rw [hn6]; exact HRj.out)
          rw [← hn6]
          have HN7 := Aside0.mk hn6
          clear hn6 hle hCB HRj
          go_wp2_with (first
            | ((with_reducible refine gate_dst (N := 33) rfl ?_); at_builtin; refine Kd.R_append_rows Kd.string (w0 := W) W.heap.size rfl (.tmp 31) (.tmp 32) 22 9 (.string ⟨#[]⟩) 16 rfl Try.underlying22 INF.out rfl (by decide) (by decide) (.slice A6 n6 c6) (ls.take j).flatten l B l.length cB tt (fun _ => False) rfl rfl HR6.out HCB.out (fun _ _ h => h) (fun _ h => h.elim) (fun _ _ => trivial) HBj.out HBj.out.size ?aL ?_; (case aL => rw [← HN7.out]; exact HN6.out); intro v6 w12 ho hb hg hat; rw [← HST.out] at ho; have HR7 := Aside0.mk ho; have HB7 := Aside0.mk hb; clear ho hb hg hat))
          go_roundw
          case rel => exact ⟨j + 1, by omega, by go_num, HR7, HB7⟩
          case measure => simp [intOf]; omega
        · obtain rfl : j = k := by omega
          have e3 : decide ((j : Int) < j) = false := decide_eq_false (by omega)
          go_wp2
          go_ret
          exact ⟨_, rfl, by have h := HRj.out; rw [all.out] at h; rw [all.out]; exact h, HBj.out⟩
set_option maxHeartbeats 4000000 in
set_option maxRecDepth 100000 in
theorem grow_i (n : Nat) (hn : n ≤ 1000000) (W : World) : Calls Try.prog 54 #[.slice none 0 0, .int .i64 n] W fun e w' => ∃ v, e = .returned v ∧ Kd.R (Kd.int .i64) 3 w' W.heap.size tt v [] ∧ Below W.heap.size W w' := by
  have info : (Try.prog.info? 3).map (fun i => (i.zero, i.size, i.bytes)) = some (some (.int .i64 0), 1, 8) := by kernel_rfl
  have INF := Aside0.mk info
  have HB := Aside0.mk (Below.refl W.heap.size W)
  have HO := Aside0.mk (Kd.R_nil (Kd.int .i64) 3 W W.heap.size tt)
  clear info
  go_enter Try.func54, Try.ntmps54
  by_cases h0 : 0 < n
  · have e1 : decide ((0 : Int) < n) = true := decide_eq_true (by omega)
    go_wp2_with (first
      | ((with_reducible refine gate_dst (N := 22) rfl ?_); at_builtin; refine Kd.R_append_zeros (Kd.int .i64) (w0 := W) W.heap.size rfl (.tmp 20) (.tmp 21) 23 3 3 (.int .i64 0) 8 rfl Try.underlying23 Try.underlying3 INF.out rfl (by decide) (by decide) (.slice none 0 0) [] 0 (kx := .i64) (n : Int) tt rfl rfl ?aZ (fun _ _ => trivial) HO.out (by omega) HB.out HB.out.size ?aL ?_; (case aZ => rfl); (case aL => simp; omega); intro v6 w12 ho hb hg hat; obtain ⟨A12, c12, rfl⟩ := Kd.R_slice ho; have HO12 := Aside0.mk (R_zero ho); have HB12 := Aside0.mk hb; clear ho hb hg hat))
    go_ret
    exact ⟨_, rfl, HO12.out, HB12.out⟩
  · obtain rfl : n = 0 := by omega
    go_wp2
    go_ret
    exact ⟨_, rfl, HO.out, HB.out⟩
theorem row_i {w : World} {A : Option Addr} {m : Nat} {ls : List (List Int)} (h : (Kd.slice 3 (Kd.int .i64)).C w A m ls) (k : Nat) (hk : k < m) :
    ∃ ad B cB, A = some ad ∧ w.cell? (ad.add k) = some (.slice B (ls.getD k []).length cB) ∧ (ls.getD k []).length ≤ cB ∧ Kd.C (Kd.int .i64) w B (ls.getD k []).length (ls.getD k []) := by
  obtain ⟨ad, c, hA, hl, hK, hc⟩ := Kd.C_get h [] (k : Int) (by omega) (by omega)
  simp only [Int.toNat_natCast] at hK hc
  obtain ⟨B, cB, rfl, h1, h2⟩ := hK
  have := hc 0 _ rfl
  have hs : (Kd.slice 3 (Kd.int .i64)).sz = 1 := rfl
  rw [hs, Nat.mul_one, Nat.add_zero] at this
  exact ⟨ad, B, cB, hA, this, h1, h2⟩
set_option maxHeartbeats 8000000 in
set_option maxRecDepth 100000 in
theorem concat_i (W : World) (A : Option Addr) (m c : Nat) (ls : List (List Int)) (hC : (Kd.slice 3 (Kd.int .i64)).C W A m ls) (hm : m = ls.length) (hmb : m ≤ 1000) (hl : ls.flatten.length ≤ 1000000) :
    Calls Try.prog 42 #[.slice A m c] W fun e w' => ∃ v, e = .returned v ∧ Kd.R (Kd.int .i64) 3 w' W.heap.size tt v ls.flatten ∧ Below W.heap.size W w' := by
  have info : (Try.prog.info? 3).map (fun i => (i.zero, i.size, i.bytes)) = some (some (.int .i64 0), 1, 8) := by kernel_rfl
  have INF := Aside0.mk info
  have HB := Aside0.mk (Below.refl W.heap.size W)
  have HC := Aside0.mk hC
  have HM := Aside0.mk hm
  have HL := Aside0.mk hl
  clear info hC hm hl
  have step : Aside0 (∀ k, k < m → (ls.take (k + 1)).flatten = (ls.take k).flatten ++ ls.getD k []) := ⟨fun k hk => by
    have hkl : k < ls.length := by rw [← HM.out]; exact hk
    rw [List.getD_eq_getElem?_getD, List.getElem?_eq_getElem hkl, Option.getD_some, ← List.take_append_getElem hkl, List.flatten_append, List.flatten_cons, List.flatten_nil, List.append_nil]⟩
  have bnd : Aside0 (∀ k, (ls.take k).flatten.length ≤ 1000000) := ⟨fun k => by
    have h1 := HL.out
    have h2 : ls.flatten = (ls.take k).flatten ++ (ls.drop k).flatten := by rw [← List.flatten_append, List.take_append_drop]
    rw [h2, List.length_append] at h1
    omega⟩
  have all : Aside0 (ls.take m = ls) := ⟨List.take_of_length_le (by rw [HM.out]; exact Nat.le_refl _)⟩
  go_enter Try.func42, Try.ntmps42
  go_wp2_with fail
  go_loopw [3, 11] (fun y x wr => ∃ (k n : Nat), k ≤ m ∧ x = .int .i64 k ∧ y = .int .i64 n ∧ Aside0 (n = (ls.take k).flatten.length) ∧ n ≤ 1000000 ∧ wr = W) (fun _ x _ => m - (intOf x).toNat)
  case atStart => exact ⟨0, 0, Nat.zero_le _, rfl, rfl, ⟨by simp⟩, by omega, rfl⟩
  case round =>
    obtain ⟨k, n, hk, rfl, rfl, HN, hn, hw⟩ := hrel
    have hw' := hw.symm
    subst hw'
    clear hw
    by_cases hx : k < m
    · have e1 : decide ((k : Int) < m) = true := decide_eq_true (by omega)
      obtain ⟨ad, B, cB, hA, cel, hle, hCB⟩ := row_i HC.out k hx
      subst hA
      obtain ⟨nb, hnb⟩ : ∃ nb, nb = (ls.getD k []).length := ⟨_, rfl⟩
      rw [← hnb] at cel
      have HNB := Aside0.mk hnb
      have HN2 := Aside0.mk (show n + nb = (ls.take (k + 1)).flatten.length by rw [step.out k hx, List.length_append, ← HN.out, HNB.out])
      have hb2 : n + nb ≤ 1000000 := by rw [HN2.out]; exact bnd.out _
      have e2 : decide ((n : Int) + nb < 0) = false := decide_eq_false (by omega)
      clear hnb hle hCB
      go_wp2_with fail
      go_roundw
      case rel => exact ⟨k + 1, n + nb, by omega, by go_num, by go_num, HN2, hb2, trivial⟩
      case measure => simp [intOf]; omega
    · obtain rfl : k = m := by omega
      rw [all.out] at HN
      have e1 : decide ((k : Int) < k) = false := decide_eq_false (by omega)
      go_wp2_with (first
        | (go_at_call 54; refine (grow_i n hn W).mono ?_; rintro e w1 ⟨v1, rfl, h1, h2⟩; have HR1 := Aside0.mk h1; have HB1 := Aside0.mk h2; clear h1 h2))
      go_loopw [6, 27] (fun y x wr => ∃ (j : Nat), j ≤ k ∧ x = .int .i64 j ∧ Aside0 (Kd.R (Kd.int .i64) 3 wr W.heap.size tt y (ls.take j).flatten) ∧ Aside0 (Below W.heap.size W wr)) (fun _ x _ => k - (intOf x).toNat)
      case atStart => exact ⟨0, Nat.zero_le _, rfl, ⟨by rw [List.take_zero]; exact HR1.out⟩, HB1⟩
      case round =>
        obtain ⟨j, hj, rfl, HRj, HBj⟩ := hrel
        obtain ⟨A6, c6, hv⟩ := Kd.R_slice HRj.out
        subst hv
        by_cases hx2 : j < k
        · have e3 : decide ((j : Int) < k) = true := decide_eq_true (by omega)
          obtain ⟨ad, B, cB, hA, cel, hle, hCB⟩ := row_i (Kd.C_below HC.out HBj.out) j hx2
          subst hA
          have HST := Aside0.mk (step.out j hx2)
          generalize ls.getD j [] = l at cel hle hCB HST
          have HCB := Aside0.mk hCB
          obtain ⟨n6, hn6⟩ : ∃ n6, n6 = (ls.take j).flatten.length := ⟨_, rfl⟩
          have HN6 := Aside0.mk (show (n6 + l.length) * 8 ≤ 140737488355328 by have h1 := bnd.out (j + 1); rw [HST.out, List.length_append, ← hn6] at h1; omega)
          have HR6 := Aside0.mk (show Kd.R (Kd.int .i64) 3 wr W.heap.size tt (.slice A6 n6 c6) (ls.take j).flatten by rw [hn6]; exact HRj.out)
          rw [← hn6]
          have HN7 := Aside0.mk hn6
          clear hn6 hle hCB HRj
          go_wp2_with (first
            | ((with_reducible refine gate_dst (N := 33) rfl ?_); at_builtin; refine Kd.R_append_rows (Kd.int .i64) (w0 := W) W.heap.size rfl (.tmp 31) (.tmp 32) 23 3 (.int .i64 0) 8 rfl Try.underlying23 INF.out rfl (by decide) (by decide) (.slice A6 n6 c6) (ls.take j).flatten l B l.length cB tt (fun _ => False) rfl rfl HR6.out HCB.out (fun _ _ h => h) (fun _ h => h.elim) (fun _ _ => trivial) HBj.out HBj.out.size ?aL ?_; (case aL => rw [← HN7.out]; exact HN6.out); intro v6 w12 ho hb hg hat; rw [← HST.out] at ho; have HR7 := Aside0.mk ho; have HB7 := Aside0.mk hb; clear ho hb hg hat))
          go_roundw
          case rel => exact ⟨j + 1, by omega, by go_num, HR7, HB7⟩
          case measure => simp [intOf]; omega
        · obtain rfl : j = k := by omega
          have e3 : decide ((j : Int) < j) = false := decide_eq_false (by omega)
          go_wp2
          go_ret
          exact ⟨_, rfl, by have h := HRj.out; rw [all.out] at h; rw [all.out]; exact h, HBj.out⟩
end Go.Proofs.Ytbpnkgaomobpkaa.Mrg
