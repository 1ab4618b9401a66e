/- The law StreamsFull, walked by hand (written by mkfull.py). -/
import Derived.Test.YtlccmkfkemilbaaStO
namespace Go.Proofs.Ytlccmkfkemilbaa.Bld
open Go.RowKit Go.Lib Go.Proofs.YtlccmkfkemilbaaW.PrintWords Go.Proofs.YtlccmkfkemilbaaW.PrintLast Go.Proofs.YtlccmkfkemilbaaW.PrintMore
set_option linter.unusedVariables false
set_option linter.unusedSimpArgs false
theorem act_on {W : World} {A : Option Addr} {n : Nat} {l : List Act_} (h : actK.C W A n l) (k : Nat) (hk : k < n) :
    ∃ ad, A = some ad ∧ ∀ w, Below W.heap.size W w → w.cell? (ad.add (k * 5)) = some (.int .i64 (l.getD k act0).1) ∧ (∀ j v, j ≠ 0 → (cellsA (l.getD k act0))[j]? = some v → w.cell? ⟨(ad.add (k * 5)).block, (ad.add (k * 5)).off + j, none⟩ = some v) := by
  obtain ⟨ad, hA, _⟩ := act_at h k hk
  refine ⟨ad, hA, fun w hw => ?_⟩
  obtain ⟨bd, hB, h1, h2⟩ := act_at (Kd.C_below h hw) k hk
  rw [hA] at hB
  injection hB with hB
  subst hB
  exact ⟨h1, h2⟩
set_option maxHeartbeats 8000000 in
set_option maxRecDepth 100000 in
theorem full_calls (W : World) (A : Option Addr) (c : Nat) (l : List Act_) (hC : actK.C W A l.length l) (hb : l.length ≤ 140737488355328) (ho : ∀ a ∈ l, OkA a) :
    Calls Try.prog 3 #[.slice A l.length c] W fun e w' => e = .returned (.bool true) ∧ Below W.heap.size W w' := by
  obtain ⟨n, hn⟩ : ∃ n, n = l.length := ⟨_, rfl⟩
  rw [← hn] at hC hb ⊢
  have HC := Aside0.mk hC
  have HL := Aside0.mk hn
  have HO := Aside0.mk ho
  clear hC hn ho
  go_enter Try.func3, Try.ntmps3
  go_wp2_with (first
    | (go_at_call 5; refine (new_calls W).mono ?_; rintro e w1 ⟨g, rfl, h1, h2⟩; have H1 := Aside0.mk h1; have HB1 := Aside0.mk h2; clear h1 h2))
  go_loopw [4, 5] (fun y x wr => ∃ (k : Nat) (s : Str), k ≤ n ∧ k ≤ 40 ∧ x = .int .i64 k ∧ y = .int .i64 s.size ∧ Aside0 (Fu s) ∧ Aside0 (IsSt W.heap.size wr g s) ∧ Aside0 (Below W.heap.size W wr)) (fun _ x _ => n - (intOf x).toNat)
  case atStart => exact ⟨0, str0, Nat.zero_le _, by decide, rfl, rfl, ⟨fu_start⟩, H1, HB1⟩
  case round =>
    obtain ⟨k, s, hk, hk2, rfl, rfl, HFk, HSk, HBk⟩ := hrel
    by_cases hx1 : k < n
    · have e1 : decide ((k : Int) < n) = true := decide_eq_true (by omega)
      by_cases hx2 : k < 40
      · have e2 : decide ((k : Int) < 40) = true := decide_eq_true (by omega)
        have hok := HO.out (l.getD k act0) (by rw [List.getD_eq_getElem?_getD, List.getElem?_eq_getElem (by rw [← HL.out]; exact hx1)]; exact List.getElem_mem _)
        have hat := act_on HC.out k hx1
        generalize l.getD k act0 = a at hat hok
        obtain ⟨kind, name, sx, more, many⟩ := a
        obtain ⟨ad, hA, pw⟩ := hat
        subst hA
        have HW0 := Aside0.mk (fun (w : World) (hw : Below W.heap.size W w) => (pw w hw).1)
        have HW1 := Aside0.mk (fun (w : World) (hw : Below W.heap.size W w) => (pw w hw).2 1 _ (by decide) rfl)
        have HW3 := Aside0.mk (fun (w : World) (hw : Below W.heap.size W w) => (pw w hw).2 3 _ (by decide) rfl)
        dsimp only at HW0 HW1 HW3
        obtain ⟨p0, pj⟩ := pw wr HBk.out
        have p1 := pj 1 _ (by decide) rfl
        have p2 := pj 2 _ (by decide) rfl
        have p3 := pj 3 _ (by decide) rfl
        have p4 := pj 4 _ (by decide) rfl
        dsimp only at p0 p1 p2 p3 p4 hok
        have HOK := Aside0.mk hok
        clear pw pj hok
        by_cases h3 : 300 < sx.size
        · have e3 : decide ((300 : Int) < sx.size) = true := decide_eq_true (by omega)
          go_wp2
          go_roundw
          case rel => exact ⟨k + 1, s, by omega, by omega, by go_num, rfl, HFk, HSk, HBk⟩
          case measure => simp [intOf]; omega
        · have e3 : decide ((300 : Int) < sx.size) = false := decide_eq_false (by omega)
          cases hname : (name.toList == []) with
          | true =>
            go_wp2
            go_roundw
            case rel => exact ⟨k + 1, s, by omega, by omega, by go_num, rfl, HFk, HSk, HBk⟩
            case measure => simp [intOf]; omega
          | false =>
            have HNE := Aside0.mk hname
            have HSX := Aside0.mk (show sx.size ≤ 300 by omega)
            have HBD := Aside0.mk HFk.out.bounds
            go_upto_region 12 with (first
              | (go_at_call 6; refine (text_calls wr kind many name sx more HSX.out HOK.out.many).mono ?_; rintro e w3 ⟨t, rfl, h1, h2⟩; have HTS := Aside0.mk h1; have HK3 := Aside0.mk h2; have HS3 := Aside0.mk (HSk.out.below h2); have HB3 := Aside0.mk (HBk.out.trans (h2.mono HBk.out.size)); clear h1 h2)
              | (go_at_call 7; refine (files_calls W.heap.size g s W w3 HS3.out HB3.out HBD.out.2.2.2 HBD.out.2.2.1).mono ?_; rintro e w4 ⟨v4, rfl, h0, h1, h2, h3⟩; obtain ⟨A4, c4, rfl⟩ := Kd.R_slice h0; have HR4 := Aside0.mk h0; have HS4 := Aside0.mk h1; have HB4 := Aside0.mk h2; clear h0 h1 h2 h3)
              | (go_at_call 8; refine (out_calls W.heap.size g s W w4 HS4.out HB4.out HBD.out.2.1).mono ?_; rintro e w5 ⟨rfl, h1, h2, h3⟩; have HR5 := Aside0.mk (file_keepT HR4.out h3); have HS5 := Aside0.mk h1; have HB5 := Aside0.mk h2; clear h1 h2 h3))
            have q0 := HW0.out w5 HB5.out
            go_upto_if 52 with fail
            go_cut [9] from 13 to 97 (fun s9 wx => ∃ (s' : Str) (e : Int), s9 = .int .i64 e ∧ Aside0 (Fut s t s' e) ∧ Aside0 (IsSt W.heap.size wx g s') ∧ Aside0 (Below W.heap.size W wx) ∧ Aside0 (KeepT w5 wx))
            case first =>
              by_cases h2 : kind = 2
              · have e4 : (kind == 2) = true := by rw [h2]; rfl
                go_wp2_with (go_at_call 9; refine (print_calls W.heap.size g s t W w5 HS5.out HB5.out HBD.out.1 HBD.out.2.1 (by have := HTS.out; omega)).mono ?_; rintro e w6 ⟨rfl, h1, h2, h3⟩; have HS6 := Aside0.mk h1; have HB6 := Aside0.mk h2; have HK6 := Aside0.mk h3; clear h1 h2 h3)
                go_meet
                case rel => exact ⟨_, _, rfl, ⟨fu_print HFk.out t⟩, HS6, HB6, HK6⟩
              · have e4 : (kind == 2) = false := by simp [h2]
                go_upto_region 14 with fail
                have hdr : Below w5.heap.size w5 w5.drew := below_drew (Below.refl _ _)
                have hB5 := HB5.out.trans (hdr.mono HB5.out.size)
                refine start_ (n := 14) (S := fun w' => Below W.heap.size W w') (ds := []) #[false, false, false, false, false, false, false, false, false, false, false, false, false, false] (by kernel_rfl) rfl rfl hB5 (fun hHeld => ?_)
                refine pure_ (i := 0) (N := some 56) (v := ?_) (a' := ?_) #[true, false, false, false, false, false, false, false, false, false, false, false, false, false] rfl rfl (by kernel_rfl) (fun _ _ _ h => h) (Or.inl ⟨by rfl, ?_⟩) ?_ ?_
                rotate_left
                · intro w'
                  go_simp
                  with_reducible rfl
                rotate_left
                · simp only [Act.put, List.setIfInBounds_toArray, List.set_cons_zero, List.set_cons_succ]
                  rfl
                refine pure_ (i := 1) (N := some 57) (v := ?_) (a' := ?_) #[true, true, false, false, false, false, false, false, false, false, false, false, false, false] rfl rfl (by kernel_rfl) (fun _ _ _ h => h) (Or.inl ⟨by rfl, ?_⟩) ?_ ?_
                rotate_left
                · intro w'
                  go_simp
                  with_reducible rfl
                rotate_left
                · simp only [Act.put, List.setIfInBounds_toArray, List.set_cons_zero, List.set_cons_succ]
                  rfl
                refine pure_ (i := 2) (N := some 58) (v := ?_) (a' := ?_) #[true, true, true, false, false, false, false, false, false, false, false, false, false, false] rfl rfl (by kernel_rfl) (fun _ _ _ h => h) (Or.inl ⟨by rfl, ?_⟩) ?_ ?_
                rotate_left
                · intro w'
                  go_simp
                  with_reducible rfl
                rotate_left
                · simp only [Act.put, List.setIfInBounds_toArray, List.set_cons_zero, List.set_cons_succ]
                  rfl
                refine pure_ (i := 3) (N := some 59) (v := ?_) (a' := ?_) #[true, true, true, true, false, false, false, false, false, false, false, false, false, false] rfl rfl (by kernel_rfl) (fun _ _ _ h => h) (Or.inl ⟨by rfl, ?_⟩) ?_ ?_
                rotate_left
                · intro w'
                  go_simp
                  with_reducible rfl
                rotate_left
                · simp only [Act.put, List.setIfInBounds_toArray, List.set_cons_zero, List.set_cons_succ]
                  rfl
                refine pure_ (i := 4) (N := some 60) (v := ?_) (a' := ?_) #[true, true, true, true, true, false, false, false, false, false, false, false, false, false] rfl rfl (by kernel_rfl) (fun _ _ _ h => h) (Or.inl ⟨by rfl, ?_⟩) ?_ ?_
                rotate_left
                · intro w'
                  go_simp
                  with_reducible rfl
                rotate_left
                · simp only [Act.put, List.setIfInBounds_toArray, List.set_cons_zero, List.set_cons_succ]
                  rfl
                refine take_ (i := 5) (N := some 61) (v := ?_) (a' := ?_) #[true, true, true, true, true, true, false, false, false, false, false, false, false, false] rfl rfl (by kernel_rfl) (fun _ _ _ h => h) (Or.inl ⟨by rfl, ?_⟩) hHeld ?_ ?_
                rotate_left
                · intro w' s0
                  have s1 := HW1.out _ s0
                  go_simp
                  with_reducible rfl
                rotate_left
                · simp only [Act.put, List.setIfInBounds_toArray, List.set_cons_zero, List.set_cons_succ]
                  rfl
                refine pure_ (i := 6) (N := some 62) (v := ?_) (a' := ?_) #[true, true, true, true, true, true, true, false, false, false, false, false, false, false] rfl rfl (by kernel_rfl) (fun _ _ _ h => h) (Or.inl ⟨by rfl, ?_⟩) ?_ ?_
                rotate_left
                · intro w'
                  go_simp
                  with_reducible rfl
                rotate_left
                · simp only [Act.put, List.setIfInBounds_toArray, List.set_cons_zero, List.set_cons_succ]
                  rfl
                refine pure_ (i := 7) (N := some 63) (v := ?_) (a' := ?_) #[true, true, true, true, true, true, true, true, false, false, false, false, false, false] rfl rfl (by kernel_rfl) (fun _ _ _ h => h) (Or.inl ⟨by rfl, ?_⟩) ?_ ?_
                rotate_left
                · intro w'
                  go_simp
                  with_reducible rfl
                rotate_left
                · simp only [Act.put, List.setIfInBounds_toArray, List.set_cons_zero, List.set_cons_succ]
                  rfl
                refine pure_ (i := 8) (N := some 64) (v := ?_) (a' := ?_) #[true, true, true, true, true, true, true, true, true, false, false, false, false, false] rfl rfl (by kernel_rfl) (fun _ _ _ h => h) (Or.inl ⟨by rfl, ?_⟩) ?_ ?_
                rotate_left
                · intro w'
                  go_simp
                  with_reducible rfl
                rotate_left
                · simp only [Act.put, List.setIfInBounds_toArray, List.set_cons_zero, List.set_cons_succ]
                  rfl
                refine pure_ (i := 9) (N := some 65) (v := ?_) (a' := ?_) #[true, true, true, true, true, true, true, true, true, true, false, false, false, false] rfl rfl (by kernel_rfl) (fun _ _ _ h => h) (Or.inl ⟨by rfl, ?_⟩) ?_ ?_
                rotate_left
                · intro w'
                  go_simp
                  with_reducible rfl
                rotate_left
                · simp only [Act.put, List.setIfInBounds_toArray, List.set_cons_zero, List.set_cons_succ]
                  rfl
                refine pure_ (i := 10) (N := some 66) (v := ?_) (a' := ?_) #[true, true, true, true, true, true, true, true, true, true, true, false, false, false] rfl rfl (by kernel_rfl) (fun _ _ _ h => h) (Or.inl ⟨by rfl, ?_⟩) ?_ ?_
                rotate_left
                · intro w'
                  go_simp
                  with_reducible rfl
                rotate_left
                · simp only [Act.put, List.setIfInBounds_toArray, List.set_cons_zero, List.set_cons_succ]
                  rfl
                refine take_ (i := 11) (N := some 67) (v := ?_) (a' := ?_) #[true, true, true, true, true, true, true, true, true, true, true, true, false, false] rfl rfl (by kernel_rfl) (fun _ _ _ h => h) (Or.inl ⟨by rfl, ?_⟩) hHeld ?_ ?_
                rotate_left
                · intro w' s0
                  have s1 := HW3.out _ s0
                  go_simp
                  with_reducible rfl
                rotate_left
                · simp only [Act.put, List.setIfInBounds_toArray, List.set_cons_zero, List.set_cons_succ]
                  rfl
                refine one_ (i := 12) (N := some 68) #[true, true, true, true, true, true, true, true, true, true, true, true, true, false] rfl rfl (by kernel_rfl) (by decide) (fun K hK => ?_)
                refine goes_ Try.func10 (by kernel_rfl) rfl #[.pointer (some ⟨g, 0, none⟩), .string name, .string t, .bool more] (by rfl) rfl rfl (by (try simp only [List.map_toArray, List.map_cons, List.map_nil]); first | done | rfl) ?_
                refine (write_calls W.heap.size g s name t more W _ (HS5.out.below hdr) hB5 HBD.out.1 HBD.out.2.2.1 HBD.out.2.2.2 (by have := HTS.out; omega) HNE.out).mono ?_
                rintro e w6 ⟨rfl, h1, h2, h3⟩
                refine ⟨_, rfl, ?_⟩
                have HS6 := Aside0.mk h1
                have HB6 := Aside0.mk h2
                have HK6 := Aside0.mk ((KeepT.of_below hdr).trans h3)
                clear h1 h2 h3
                refine hK.out _ _ HB6.out (fun hHeld => ?_)
                clear hK K hHeld hdr hB5
                have hHeld := HB6.out
                refine pure_ (i := 13) (N := some 9) (v := ?_) (a' := ?_) #[true, true, true, true, true, true, true, true, true, true, true, true, true, true] rfl rfl (by kernel_rfl) (fun _ _ _ h => h) (Or.inl ⟨by rfl, ?_⟩) ?_ ?_
                rotate_left
                · intro w'
                  go_simp
                  with_reducible rfl
                rotate_left
                · simp only [Act.put, List.setIfInBounds_toArray, List.set_cons_zero, List.set_cons_succ]
                  rfl
                refine done_ (by kernel_rfl) ?_
                go_wp2
                go_meet
                case rel => exact ⟨_, _, rfl, ⟨fu_write HFk.out name t⟩, HS6, HB6, HK6⟩
            case rest =>
              obtain ⟨s', e, h9, HF, HS6, HB6, HK6⟩ := hcut
              subst h9
              have HR6 := Aside0.mk (file_keepT HR5.out HK6.out)
              rcases HF.out with ⟨h1, h2⟩ | ⟨h1, hfu, hsz⟩
              · subst h1
                subst h2
                have HN := Aside0.mk (show (filesS s').length ≤ 8 by unfold filesS; rw [List.length_map]; exact HBD.out.2.2.2)
                obtain ⟨m, hm⟩ : ∃ m, m = (filesS s').length := ⟨_, rfl⟩
                rw [← hm] at HN HR6 ⊢
                have HM := Aside0.mk hm
                clear hm
                have e5 : decide ((65536 : Int) < s'.size) = false := decide_eq_false (by have := HFk.out.hi; omega)
                have e6 : decide ((8 : Int) < (m : Int)) = false := decide_eq_false (by have := HN.out; omega)
                go_wp2_with (first
                  | (go_at_call 7; refine (files_calls W.heap.size g s' W w9 HS9.out HB9.out HBD.out.2.2.2 HBD.out.2.2.1).mono ?_; rintro e w10 ⟨v10, rfl, h0, h1, h2, h3⟩; obtain ⟨A10, c10, rfl⟩ := Kd.R_slice h0; rw [← HM.out]; have HS10 := Aside0.mk h1; have HB10 := Aside0.mk h2; clear h0 h1 h2 h3)
                  | (go_at_call 7; refine (files_calls W.heap.size g s' W wc HS6.out HB6.out HBD.out.2.2.2 HBD.out.2.2.1).mono ?_; rintro e w7 ⟨v7, rfl, h0, h1, h2, h3⟩; obtain ⟨A7, c7, rfl⟩ := Kd.R_slice h0; rw [← HM.out] at h0 ⊢; have HR7 := Aside0.mk (C_ofR h0); have HR7' := Aside0.mk (C_ofR (file_keepT HR6.out h3)); have HS7 := Aside0.mk h1; have HB7 := Aside0.mk h2; clear h0 h1 h2 h3)
                  | (go_at_call 11; refine (same_calls A7 A4 m c7 c4 (filesS s') w7 HR7.out HR7'.out (by have := HN.out; omega)).mono ?_; rintro e w8 ⟨rfl, h1⟩; have HS8 := Aside0.mk (HS7.out.below h1); have HB8 := Aside0.mk (HB7.out.trans (h1.mono HB7.out.size)); clear h1)
                  | (go_at_call 8; refine (out_calls W.heap.size g s' W w8 HS8.out HB8.out HBD.out.2.1).mono ?_; rintro e w9 ⟨rfl, h1, h2, h3⟩; have HS9 := Aside0.mk h1; have HB9 := Aside0.mk h2; clear h1 h2 h3))
                go_roundw
                case rel => exact ⟨k + 1, s', by omega, by omega, by go_num, rfl, HFk, HS10, HB10⟩
                case measure => simp [intOf]; omega
              · subst h1
                have HBD' := Aside0.mk hfu.bounds
                have HFU := Aside0.mk hfu
                have HN := Aside0.mk (show (filesS s').length ≤ 8 by unfold filesS; rw [List.length_map]; exact HBD'.out.2.2.2)
                obtain ⟨m, hm⟩ : ∃ m, m = (filesS s').length := ⟨_, rfl⟩
                rw [← hm] at HN
                have HM := Aside0.mk hm
                clear hm
                have hlo := HFk.out.lo
                have hhi := hfu.hi
                rw [hsz] at hhi
                have HSZ := Aside0.mk hsz
                clear hsz hfu
                have e5 : decide ((65536 : Int) < s.size + t.size) = false := decide_eq_false (by omega)
                have e6 : decide ((8 : Int) < (m : Int)) = false := decide_eq_false (by have := HN.out; omega)
                go_wp2_with (go_at_call 7; refine (files_calls W.heap.size g s' W wc HS6.out HB6.out HBD'.out.2.2.2 HBD'.out.2.2.1).mono ?_; rintro e w7 ⟨v7, rfl, h0, h1, h2, h3⟩; obtain ⟨A7, c7, rfl⟩ := Kd.R_slice h0; rw [← HM.out]; have HS7 := Aside0.mk h1; have HB7 := Aside0.mk h2; clear h0 h1 h2 h3)
                go_roundw
                case rel => exact ⟨k + 1, s', by omega, by omega, by go_num, by rw [HSZ.out], HFU, HS7, HB7⟩
                case measure => simp [intOf]; omega
      · have e2 : decide ((k : Int) < 40) = false := decide_eq_false (by omega)
        go_wp2_with (go_at_call 12; refine (lives_calls wr).mono ?_; rintro e w4 ⟨rfl, h1⟩; have HB4 := Aside0.mk (HBk.out.trans (h1.mono HBk.out.size)); clear h1)
        go_ret
        exact ⟨rfl, HB4.out⟩
    · have e1 : decide ((k : Int) < n) = false := decide_eq_false (by omega)
      go_wp2_with (go_at_call 12; refine (lives_calls wr).mono ?_; rintro e w4 ⟨rfl, h1⟩; have HB4 := Aside0.mk (HBk.out.trans (h1.mono HBk.out.size)); clear h1)
      go_ret
      exact ⟨rfl, HB4.out⟩
end Go.Proofs.Ytlccmkfkemilbaa.Bld
