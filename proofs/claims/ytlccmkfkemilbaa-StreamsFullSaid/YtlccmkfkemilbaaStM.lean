/- StreamsPrints at a name, walked by hand. -/
import Derived.Test.YtlccmkfkemilbaaStL
namespace Go.Proofs.Ytlccmkfkemilbaa.Bld
open Go.RowKit Go.Lib Go.Proofs.YtlccmkfkemilbaaW.PrintWords Go.Proofs.YtlccmkfkemilbaaW.PrintLast Go.Proofs.YtlccmkfkemilbaaW.PrintMore
set_option linter.unusedVariables false
set_option linter.unusedSimpArgs false
theorem data_app (o t : ByteArray) : (o ++ t).data.toList = o.data.toList ++ t.data.toList := by rw [ByteArray.data_append, Array.toList_append]
theorem size_len (o : ByteArray) : o.size = o.data.toList.length := (Array.length_toList).symm
set_option maxHeartbeats 8000000 in
set_option maxRecDepth 100000 in
theorem prints_some (W : World) (A : Option Addr) (n c : Nat) (l : List ByteArray) (name : ByteArray) (hC : Kd.string.C W A n l) (hl : n = l.length) (hb : n ≤ 140737488355328) (hs : ∀ t ∈ l, t.size ≤ 9223372036854775807) (hname : (name.toList == []) = false) :
    Calls Try.prog 4 #[.slice A n c, .string name] W fun e w' => e = .returned (.bool true) ∧ Below W.heap.size W w' := by
  have HC := Aside0.mk hC
  have HL := Aside0.mk hl
  have HSZ := Aside0.mk hs
  clear hC hl hs
  go_enter Try.func4, Try.ntmps4
  go_wp2_with (first
    | (go_at_call 5; refine (new_calls W).mono ?_; rintro e w1 ⟨g, rfl, h1, h2⟩; have H1 := Aside0.mk h1; have HB1 := Aside0.mk h2; clear h1 h2))
  go_loopw [6, 7, 8] (fun z y x wr => ∃ (k : Nat) (o f : ByteArray) (s : Str), k ≤ n ∧ k ≤ 40 ∧ x = .int .i64 k ∧ y = .string f ∧ z = .string o ∧ Aside0 (Pr name o.data.toList f.data.toList s k) ∧ Aside0 (IsSt W.heap.size wr g s) ∧ Aside0 (Below W.heap.size W wr)) (fun _ _ x _ => n - (intOf x).toNat)
  case atStart => exact ⟨0, ⟨#[]⟩, ⟨#[]⟩, str0, Nat.zero_le _, by decide, rfl, rfl, rfl, ⟨pr_start name⟩, H1, HB1⟩
  case round =>
    obtain ⟨k, o, f, s, hk, hk2, rfl, rfl, rfl, HPk, HSk, HBk⟩ := hrel
    have ho := HPk.out.le
    rw [← size_len, ← size_len] at ho
    by_cases hx1 : k < n
    · have e1 : decide ((k : Int) < n) = true := decide_eq_true (by omega)
      by_cases hx2 : k < 40
      · have e2 : decide ((k : Int) < 40) = true := decide_eq_true (by omega)
        obtain ⟨ad, hA, cel⟩ := Kd.at_string (Kd.C_below HC.out HBk.out) (k : Int) (by omega) (by omega)
        subst hA
        simp only [Int.toNat_natCast] at cel
        obtain ⟨t, ht⟩ : ∃ t, t = rdOf ByteArray.empty l (k : Int) := ⟨_, rfl⟩
        rw [← ht] at cel
        by_cases h5 : 500 < t.size
        · have e5 : decide ((500 : Int) < t.size) = true := decide_eq_true (by omega)
          clear ht
          go_wp2
          go_roundw
          case rel => exact ⟨k + 1, o, f, s, by omega, by omega, by go_num, rfl, rfl, ⟨HPk.out.more⟩, HSk, HBk⟩
          case measure => simp [intOf]; omega
        · have e5 : decide ((500 : Int) < t.size) = false := decide_eq_false (by omega)
          clear ht
          have ht5 : t.size ≤ 500 := by omega
          obtain ⟨b1, b2, b3, b4⟩ := HPk.out.bounds (Nat.le_of_lt hx2)
          rcases Nat.mod_two_eq_zero_or_one k with h2 | h2
          · have e6 : decide ((k : Int).tmod 2 = 0) = true := decide_eq_true (by rw [Int.tmod_eq_emod_of_nonneg (by omega)]; omega)
            have e6' : decide ((k : Int) % 2 = 0) = true := decide_eq_true (by omega)
            have e7 : (o ++ t).size = o.size + t.size := by simp
            obtain ⟨p1, p2⟩ := pr_print HPk.out t ht5 hx2
            have hpr := fun (W' : World) (h : IsSt W.heap.size W' g s) (hB : Below W.heap.size W W') => print_calls W.heap.size g s t W W' h hB b1 b2 (by omega)
            rw [p1] at hpr
            have HPR := Aside0.mk hpr
            have HP2 := Aside0.mk p2
            clear hpr p1 p2 b1 b2 b3 b4
            rw [← data_app] at HP2
            go_wp2_with (go_at_call 9; refine (HPR.out wr HSk.out HBk.out).mono ?_; rintro e w2 ⟨rfl, h1, h2, h3⟩; have HS2 := Aside0.mk h1; have HB2 := Aside0.mk h2; clear h1 h2 h3)
            go_roundw
            case rel => exact ⟨k + 1, o ++ t, f, _, by omega, by omega, by go_num, rfl, rfl, HP2, HS2, HB2⟩
            case measure => simp [intOf]; omega
          · have e6 : decide ((k : Int).tmod 2 = 0) = false := decide_eq_false (by rw [Int.tmod_eq_emod_of_nonneg (by omega)]; omega)
            have e6' : decide ((k : Int) % 2 = 0) = false := decide_eq_false (by omega)
            have e7 : (f ++ t).size = f.size + t.size := by simp
            obtain ⟨p1, p2⟩ := pr_write HPk.out t ht5 hx2
            have hpr := fun (more : Bool) (W' : World) (h : IsSt W.heap.size W' g s) (hB : Below W.heap.size W W') => write_calls W.heap.size g s name t more W W' h hB b1 b3 b4 (by omega) hname
            rw [p1] at hpr
            rw [← data_app] at p2
            have HPR := Aside0.mk hpr
            have HP2 := Aside0.mk p2
            clear hpr p1 p2 b1 b2 b3 b4
            go_wp2_with (go_at_call 10; refine (HPR.out _ wr HSk.out HBk.out).mono ?_; rintro e w2 ⟨rfl, h1, h2, h3⟩; have HS2 := Aside0.mk h1; have HB2 := Aside0.mk h2; clear h1 h2 h3)
            go_roundw
            case rel => exact ⟨k + 1, o, f ++ t, _, by omega, by omega, by go_num, rfl, rfl, HP2, HS2, HB2⟩
            case measure => simp [intOf]; omega
      · have e2 : decide ((k : Int) < 40) = false := decide_eq_false (by omega)
        obtain ⟨b1, b2, b3, b4⟩ := HPk.out.bounds hk2
        have hfl := fun (W' : World) (h : IsSt W.heap.size W' g s) (hB : Below W.heap.size W W') => files_calls W.heap.size g s W W' h hB b4 b3
        have hou := fun (W' : World) (h : IsSt W.heap.size W' g s) (hB : Below W.heap.size W W') => out_calls W.heap.size g s W W' h hB b2
        have eo : (⟨s.out.toArray⟩ : ByteArray) = o := by rw [HPk.out.out]
        rw [eo] at hou
        have HFL := Aside0.mk hfl
        have HOU := Aside0.mk hou
        clear hfl hou eo b1 b2 b3 b4
        rcases HPk.out.sk with ⟨q1, q2⟩ | q1
        · have hf : f = ⟨#[]⟩ := by
            have : f.data = #[] := Array.toList_eq_nil_iff.1 q2
            exact congrArg ByteArray.mk this
          subst hf
          have eF : filesS s = [] := by unfold filesS; rw [q1]; rfl
          rw [eF] at HFL
          clear eF q1 q2
          go_wp2_with (first
            | (go_at_call 7; refine (HFL.out wr HSk.out HBk.out).mono ?_; rintro e w2 ⟨v2, rfl, h0, h1, h2, h3⟩; obtain ⟨A2, c2, rfl⟩ := Kd.R_slice h0; have HR2 := Aside0.mk h0; have HS2 := Aside0.mk h1; have HB2 := Aside0.mk h2; clear h0 h1 h2 h3)
            | (go_at_call 8; refine (HOU.out w2 HS2.out HB2.out).mono ?_; rintro e w3 ⟨rfl, h1, h2, h3⟩; have HR3 := Aside0.mk (file_keepT HR2.out h3); have HB3 := Aside0.mk h2; clear h1 h2 h3)
            | (go_at_call 12; refine (lives_calls w3).mono ?_; rintro e w4 ⟨rfl, h1⟩; have HB4 := Aside0.mk (HB3.out.trans (h1.mono HB3.out.size)); clear h1))
          go_ret
          exact ⟨rfl, HB4.out⟩
        · have eF : filesS s = [(name, f)] := by unfold filesS; rw [q1]; rfl
          rw [eF] at HFL
          clear eF q1
          go_wp2_with (first
            | (go_at_call 7; refine (HFL.out wr HSk.out HBk.out).mono ?_; rintro e w2 ⟨v2, rfl, h0, h1, h2, h3⟩; obtain ⟨A2, c2, rfl⟩ := Kd.R_slice h0; have HR2 := Aside0.mk h0; have HS2 := Aside0.mk h1; have HB2 := Aside0.mk h2; clear h0 h1 h2 h3)
            | (go_at_call 8; refine (HOU.out w2 HS2.out HB2.out).mono ?_; rintro e w3 ⟨rfl, h1, h2, h3⟩; have h4 := file_keepT HR2.out h3; obtain ⟨bd, hA, p0, p1⟩ := file_at (C_ofR h4) 0 Nat.zero_lt_one; subst hA; have p0' : w3.cell? bd = some (.string name) := p0; have p1' : w3.cell? ⟨bd.block, bd.off + 1, none⟩ = some (.string f) := p1; clear p0 p1; have HB3 := Aside0.mk h2; clear h1 h2 h3 h4)
            | (go_at_call 12; refine (lives_calls w3).mono ?_; rintro e w4 ⟨rfl, h1⟩; have HB4 := Aside0.mk (HB3.out.trans (h1.mono HB3.out.size)); clear h1))
          go_ret
          exact ⟨rfl, HB4.out⟩
    · have e1 : decide ((k : Int) < n) = false := decide_eq_false (by omega)
      obtain ⟨b1, b2, b3, b4⟩ := HPk.out.bounds hk2
      have hfl := fun (W' : World) (h : IsSt W.heap.size W' g s) (hB : Below W.heap.size W W') => files_calls W.heap.size g s W W' h hB b4 b3
      have hou := fun (W' : World) (h : IsSt W.heap.size W' g s) (hB : Below W.heap.size W W') => out_calls W.heap.size g s W W' h hB b2
      have eo : (⟨s.out.toArray⟩ : ByteArray) = o := by rw [HPk.out.out]
      rw [eo] at hou
      have HFL := Aside0.mk hfl
      have HOU := Aside0.mk hou
      clear hfl hou eo b1 b2 b3 b4
      rcases HPk.out.sk with ⟨q1, q2⟩ | q1
      · have hf : f = ⟨#[]⟩ := by
          have : f.data = #[] := Array.toList_eq_nil_iff.1 q2
          exact congrArg ByteArray.mk this
        subst hf
        have eF : filesS s = [] := by unfold filesS; rw [q1]; rfl
        rw [eF] at HFL
        clear eF q1 q2
        go_wp2_with (first
          | (go_at_call 7; refine (HFL.out wr HSk.out HBk.out).mono ?_; rintro e w2 ⟨v2, rfl, h0, h1, h2, h3⟩; obtain ⟨A2, c2, rfl⟩ := Kd.R_slice h0; have HR2 := Aside0.mk h0; have HS2 := Aside0.mk h1; have HB2 := Aside0.mk h2; clear h0 h1 h2 h3)
          | (go_at_call 8; refine (HOU.out w2 HS2.out HB2.out).mono ?_; rintro e w3 ⟨rfl, h1, h2, h3⟩; have HR3 := Aside0.mk (file_keepT HR2.out h3); have HB3 := Aside0.mk h2; clear h1 h2 h3)
          | (go_at_call 12; refine (lives_calls w3).mono ?_; rintro e w4 ⟨rfl, h1⟩; have HB4 := Aside0.mk (HB3.out.trans (h1.mono HB3.out.size)); clear h1))
        go_ret
        exact ⟨rfl, HB4.out⟩
      · have eF : filesS s = [(name, f)] := by unfold filesS; rw [q1]; rfl
        rw [eF] at HFL
        clear eF q1
        go_wp2_with (first
          | (go_at_call 7; refine (HFL.out wr HSk.out HBk.out).mono ?_; rintro e w2 ⟨v2, rfl, h0, h1, h2, h3⟩; obtain ⟨A2, c2, rfl⟩ := Kd.R_slice h0; have HR2 := Aside0.mk h0; have HS2 := Aside0.mk h1; have HB2 := Aside0.mk h2; clear h0 h1 h2 h3)
          | (go_at_call 8; refine (HOU.out w2 HS2.out HB2.out).mono ?_; rintro e w3 ⟨rfl, h1, h2, h3⟩; have h4 := file_keepT HR2.out h3; obtain ⟨bd, hA, p0, p1⟩ := file_at (C_ofR h4) 0 Nat.zero_lt_one; subst hA; have p0' : w3.cell? bd = some (.string name) := p0; have p1' : w3.cell? ⟨bd.block, bd.off + 1, none⟩ = some (.string f) := p1; clear p0 p1; have HB3 := Aside0.mk h2; clear h1 h2 h3 h4)
          | (go_at_call 12; refine (lives_calls w3).mono ?_; rintro e w4 ⟨rfl, h1⟩; have HB4 := Aside0.mk (HB3.out.trans (h1.mono HB3.out.size)); clear h1))
        go_ret
        exact ⟨rfl, HB4.out⟩
theorem prints_calls (W : World) (A : Option Addr) (c : Nat) (l : List ByteArray) (name : ByteArray) (hC : Kd.string.C W A l.length l) (hb : l.length ≤ 140737488355328) (hs : ∀ t ∈ l, t.size ≤ 9223372036854775807) :
    Calls Try.prog 4 #[.slice A l.length c, .string name] W fun e w' => e = .returned (.bool true) ∧ Below W.heap.size W w' := by
  cases hn : (name.toList == []) with
  | true => exact prints_none W A _ c name hn
  | false => exact prints_some W A _ c l name hC rfl hb hs hn
end Go.Proofs.Ytlccmkfkemilbaa.Bld
