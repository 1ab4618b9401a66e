/- Wal: writes, walked by hand (written by mkwalg.py). -/
import Derived.Test.YtmghgghheebnjaaWalF
namespace Go.Proofs.Ytmghgghheebnjaa.Dis
open Go.RowKit Go.Proofs.YtmghgghheebnjaaW.PrintWords Go.Proofs.YtmghgghheebnjaaW.PrintLast Go.Proofs.YtmghgghheebnjaaW.PrintMore Go.Maps Go.Proofs.Ytmghgghheebnjaa.PWalRecords
set_option linter.unusedVariables false
set_option linter.unusedSimpArgs false
/-- Writes in a row, up to the first error. -/
def wrD (d : D) : List (Int × List Int) → D × Int
  | [] => (d, 0)
  | x :: xs => if (writeD d x.1 x.2).2 = 0 then wrD (writeD d x.1 x.2).1 xs else writeD d x.1 x.2
def pgW (l : List S58) : List (Int × List Int) := l.map (fun p => (64 + p.f0, p.f1))
def writesD (d : D) (l : List S58) : D × Int := if (wrD d (pgW l)).2 = 0 then (if l.length = 0 then (wrD d (pgW l)) else flushD (wrD d (pgW l)).1) else wrD d (pgW l)
theorem writeD_cnt (d : D) (i : Int) (b : List Int) : (writeD d i b).1.cnt ≤ d.cnt + 1 := by
  unfold writeD callD
  repeat' split
  all_goals simp
theorem wrD_cnt : ∀ (xs : List (Int × List Int)) (d : D), (wrD d xs).1.cnt ≤ d.cnt + xs.length := by
  intro xs
  induction xs with
  | nil => intro d; simp [wrD]
  | cons x xs ih =>
    intro d
    unfold wrD
    have h1 := writeD_cnt d x.1 x.2
    split
    · have h2 := ih (writeD d x.1 x.2).1
      simp only [List.length_cons]
      omega
    · simp only [List.length_cons]
      omega
set_option maxHeartbeats 8000000 in
set_option maxRecDepth 100000 in
theorem writes_c (base gw g : Nat) (seq : Int) (d : D) (w W : World) (A : Option Addr) (n c : Nat) (l : List S58) (hp : PgL W A n l) (hw : IsWl W gw g seq) (h : IsD base W g d) (hB : Below base w W) (hbase : base ≤ w.heap.size)
    (hok : ∀ p ∈ l, BytesOk p.f1 ∧ 0 ≤ p.f0 ∧ p.f0 ≤ 2147483647) (hcnt : d.cnt + n < 1000000) (hn : n ≤ 100000) :
    Calls Try.prog 49 #[.pointer (some ⟨gw, 0, none⟩), .slice A n c] W fun e w' => e = .returned (.int .i64 (writesD d l).2) ∧ IsD base w' g (writesD d l).1 ∧ Below base w w' ∧ KeepD W w' := by
  have HP := Aside0.mk hp
  have HW := Aside0.mk hw
  have HD := Aside0.mk h
  have HB := Aside0.mk hB
  have HOK := Aside0.mk hok
  have HC := Aside0.mk (And.intro hbase hcnt)
  obtain ⟨T, hT⟩ : ∃ T, T = wrD d (pgW l) := ⟨_, rfl⟩
  unfold writesD
  rw [← hT]
  have HT := Aside0.mk hT
  have HL := Aside0.mk hp.len
  rw [hp.len]
  obtain ⟨R0, hR0⟩ : ∃ R0, R0 = if T.2 = 0 then (if n = 0 then T else flushD T.1) else T := ⟨_, rfl⟩
  rw [← hR0]
  have HR0 := Aside0.mk hR0
  clear hp hw h hB hok hbase hcnt hT hR0
  go_enter Try.func49, Try.ntmps49
  go_wp2_with fail
  go_loopw [10] (fun x wr => ∃ (k : Nat) (d' : D), k ≤ n ∧ x = .int .i64 k ∧ Aside0 (T = wrD d' (pgW (l.drop k))) ∧ Aside0 (IsD base wr g d') ∧ Aside0 (Below base w wr) ∧ Aside0 (KeepD W wr) ∧ Aside0 (d'.cnt ≤ d.cnt + k)) (fun x _ => n - (intOf x).toNat)
  case atStart => exact ⟨0, d, Nat.zero_le _, rfl, ⟨by rw [List.drop_zero]; exact HT.out⟩, HD, HB, ⟨KeepD.refl _⟩, ⟨Nat.le_refl _⟩⟩
  case round =>
    obtain ⟨k, d', hk, rfl, HTk, HDk, HBk, HKk, HNk⟩ := hrel
    by_cases hlt : k < n
    · have f1 : decide ((k : Int) < n) = true := decide_eq_true (by omega)
      obtain ⟨ad, A1, c1, hA, hle, hat⟩ := HP.out.at_ k hlt
      subst hA
      have hkl : k < l.length := by rw [HL.out]; exact hlt
      have hg := HOK.out (l.getD k z58) (by rw [List.getD_eq_getElem?_getD, List.getElem?_eq_getElem hkl]; exact List.getElem_mem _)
      have hdr : l.drop k = l.getD k z58 :: l.drop (k + 1) := by rw [List.getD_eq_getElem?_getD, List.getElem?_eq_getElem hkl]; exact List.drop_eq_getElem_cons hkl
      obtain ⟨p, hp⟩ : ∃ p, p = l.getD k z58 := ⟨_, rfl⟩
      rw [← hp] at hle hat hg hdr
      clear hp
      obtain ⟨no, pb⟩ := p
      dsimp only at hle hat hg
      obtain ⟨p0, p1, _⟩ := hat wr HKk.out.w
      have HWR := Aside0.mk (fun (w' : World) (h1 : IsD base w' g d') (h2 : Below base w w') (h3 : KeepW W w') => write_c base g d' (64 + no) A1 c1 pb w w' h1 h2 (fun W' h4 => (hat W' (h3.trans h4)).2.2) hg.1 (by have := HNk.out; have := HC.out; omega) HC.out.1)
      have hT2 : T = if (writeD d' (64 + no) pb).2 = 0 then wrD (writeD d' (64 + no) pb).1 (pgW (l.drop (k + 1))) else writeD d' (64 + no) pb := by rw [HTk.out, hdr]; rfl
      have hcn := writeD_cnt d' (64 + no) pb
      obtain ⟨r, hr⟩ : ∃ r, r = writeD d' (64 + no) pb := ⟨_, rfl⟩
      rw [← hr] at HWR hT2 hcn
      obtain ⟨m, hm⟩ : ∃ m, m = pb.length := ⟨_, rfl⟩
      rw [← hm] at HWR p1
      have hno := hg.2
      obtain ⟨d2, e2⟩ := r
      dsimp only at HWR hT2 hcn
      have HT2 := Aside0.mk hT2
      have HCN := Aside0.mk (show d2.cnt ≤ d.cnt + (k + 1) by have := HNk.out; omega)
      clear hle hat hg hdr hr hm hT2 hcn hkl
      go_upto_region 4 with fail
      obtain ⟨w4, hw4⟩ : ∃ w4, w4 = wr.alloc (.cells #[.int .i64 no, .slice A1 m c1] 58) := ⟨_, rfl⟩
      have hb4 : Below wr.heap.size wr w4 := by rw [hw4]; exact below_alloc (Below.refl _ _) _
      have q4 : w4.heap[wr.heap.size]? = some (.cells #[.int .i64 no, .slice A1 m c1] 58 (0, 0)) := by rw [hw4]; exact blk_new wr _
      rw [← hw4]
      clear hw4
      obtain ⟨gb, hgb⟩ : ∃ gb, gb = wr.heap.size := ⟨_, rfl⟩
      rw [← hgb] at q4 ⊢
      clear hgb p0 p1
      have HQ4 := Aside0.mk q4
      have HD4 := Aside0.mk (HDk.out.below hb4)
      have HB4 := Aside0.mk (HBk.out.trans (hb4.mono (Nat.le_trans HC.out.1 HBk.out.size)))
      have HK4 := Aside0.mk (HKk.out.trans (KeepD.of_below hb4))
      have HW4 := Aside0.mk (HW.out.keep HK4.out)
      clear hb4 q4
      have hdr : Below w4.heap.size w4 w4.drew := below_drew (Below.refl _ _)
      refine start_ (n := 11) (S := fun w' => w'.heap[gb]? = some (.cells #[.int .i64 no, .slice A1 m c1] 58 (0, 0)) ∧ IsWl w' gw g seq) (ds := []) #[false, false, false, false, false, false, false, false, false, false, false] (by kernel_rfl) rfl rfl ⟨blk_below HQ4.out hdr, HW4.out.below hdr⟩ (fun hHeld => ?_)
      have HDd := Aside0.mk (HD4.out.below hdr)
      have HBd := Aside0.mk (HB4.out.trans (hdr.mono (Nat.le_trans HC.out.1 HB4.out.size)))
      have HKd := Aside0.mk (HK4.out.trans (KeepD.of_below hdr))
      generalize w4.drew = wD at hdr hHeld HDd HBd HKd ⊢
      refine pure_ (i := 0) (N := some 14) (v := ?_) (a' := ?_) #[true, false, false, false, false, false, false, false, false, false, false] rfl rfl (by kernel_rfl) (fun _ _ _ h => h) (Or.inl ⟨by rfl, ?_⟩) ?_ ?_
      rotate_left
      · intro w'
        go_simp
        with_reducible rfl
      rotate_left
      · simp only [Act.put, List.setIfInBounds_toArray, List.set_cons_zero, List.set_cons_succ]
        rfl
      refine pure_ (i := 1) (N := some 15) (v := ?_) (a' := ?_) #[true, true, false, false, false, false, false, false, false, false, false] rfl rfl (by kernel_rfl) (fun _ _ _ h => h) (Or.inl ⟨by rfl, ?_⟩) ?_ ?_
      rotate_left
      · intro w'
        go_simp
        with_reducible rfl
      rotate_left
      · simp only [Act.put, List.setIfInBounds_toArray, List.set_cons_zero, List.set_cons_succ]
        rfl
      refine pure_ (i := 2) (N := some 16) (v := ?_) (a' := ?_) #[true, true, true, false, false, false, false, false, false, false, false] rfl rfl (by kernel_rfl) (fun _ _ _ h => h) (Or.inl ⟨by rfl, ?_⟩) ?_ ?_
      rotate_left
      · intro w'
        go_simp
        with_reducible rfl
      rotate_left
      · simp only [Act.put, List.setIfInBounds_toArray, List.set_cons_zero, List.set_cons_succ]
        rfl
      refine take_ (i := 3) (N := some 17) (v := ?_) (a' := ?_) #[true, true, true, true, false, false, false, false, false, false, false] rfl rfl (by kernel_rfl) (fun _ _ _ h => h) (Or.inl ⟨by rfl, ?_⟩) hHeld ?_ ?_
      rotate_left
      · intro w' s0
        have s1 := (blk_cell s0.2 0).trans (rfl : _ = some (Value.pointer (some ⟨g, 0, none⟩)))
        go_simp
        with_reducible rfl
      rotate_left
      · simp only [Act.put, List.setIfInBounds_toArray, List.set_cons_zero, List.set_cons_succ]
        rfl
      refine pure_ (i := 4) (N := some 18) (v := ?_) (a' := ?_) #[true, true, true, true, true, false, false, false, false, false, false] rfl rfl (by kernel_rfl) (fun _ _ _ h => h) (Or.inl ⟨by rfl, ?_⟩) ?_ ?_
      rotate_left
      · intro w'
        go_simp
        with_reducible rfl
      rotate_left
      · simp only [Act.put, List.setIfInBounds_toArray, List.set_cons_zero, List.set_cons_succ]
        rfl
      refine take_ (i := 5) (N := some 19) (v := ?_) (a' := ?_) #[true, true, true, true, true, true, false, false, false, false, false] rfl rfl (by kernel_rfl) (fun _ _ _ h => h) (Or.inl ⟨by rfl, ?_⟩) hHeld ?_ ?_
      rotate_left
      · intro w' s0
        have s1 := (blk_cell s0.1 0).trans (rfl : _ = some (Value.int .i64 no))
        go_simp
        with_reducible rfl
      rotate_left
      · simp only [Act.put, List.setIfInBounds_toArray, List.set_cons_zero, List.set_cons_succ]
        rfl
      refine pure_ (i := 6) (N := some 20) (v := .int .i64 (64 + no)) (a' := ?_) #[true, true, true, true, true, true, true, false, false, false, false] rfl rfl (by kernel_rfl) (fun _ _ _ h => h) (Or.inl ⟨by rfl, ?_⟩) ?_ ?_
      · intro w'
        first | (go_simp; done) | (go_simp; go_num) | (go_simp; rw [IntKind.wrap_i64]; omega)
      rotate_left
      · simp only [Act.put, List.setIfInBounds_toArray, List.set_cons_zero, List.set_cons_succ]
        rfl
      refine pure_ (i := 7) (N := some 21) (v := ?_) (a' := ?_) #[true, true, true, true, true, true, true, true, false, false, false] rfl rfl (by kernel_rfl) (fun _ _ _ h => h) (Or.inl ⟨by rfl, ?_⟩) ?_ ?_
      rotate_left
      · intro w'
        go_simp
        with_reducible rfl
      rotate_left
      · simp only [Act.put, List.setIfInBounds_toArray, List.set_cons_zero, List.set_cons_succ]
        rfl
      refine take_ (i := 8) (N := some 22) (v := ?_) (a' := ?_) #[true, true, true, true, true, true, true, true, true, false, false] rfl rfl (by kernel_rfl) (fun _ _ _ h => h) (Or.inl ⟨by rfl, ?_⟩) hHeld ?_ ?_
      rotate_left
      · intro w' s0
        have s1 := (blk_cell s0.1 1).trans (rfl : _ = some (Value.slice A1 m c1))
        go_simp
        with_reducible rfl
      rotate_left
      · simp only [Act.put, List.setIfInBounds_toArray, List.set_cons_zero, List.set_cons_succ]
        rfl
      refine one_ (i := 9) (N := some 23) #[true, true, true, true, true, true, true, true, true, true, false] rfl rfl (by kernel_rfl) (by decide) (fun K hK => ?_)
      refine goes_ Try.func52 (by kernel_rfl) rfl #[.pointer (some ⟨g, 0, none⟩), .int .i64 (64 + no), .slice A1 m c1] (by rfl) rfl rfl (by (try simp only [List.map_toArray, List.map_cons, List.map_nil]); first | done | rfl) ?_
      refine (HWR.out wD HDd.out HBd.out HKd.out.w).mono ?_
      rintro e w5 ⟨rfl, h1, h2, h3⟩
      have HD5 := Aside0.mk h1
      have HB5 := Aside0.mk h2
      have HK5 := Aside0.mk (HKd.out.trans h3)
      have hq5 := h3.2 _ _ _ _ hHeld.1 (by decide) (by decide)
      have hw5 := hHeld.2.keep h3
      clear h1 h2 h3
      refine ⟨_, rfl, ?_⟩
      refine hK.out _ _ ⟨hq5, hw5⟩ (fun hHeld => ?_)
      clear hK K hq5
      refine pure_ (i := 10) (N := some 7) (v := ?_) (a' := ?_) #[true, true, true, true, true, true, true, true, true, true, true] rfl rfl (by kernel_rfl) (fun _ _ _ h => h) (Or.inl ⟨by rfl, ?_⟩) ?_ ?_
      rotate_left
      · intro w'
        go_simp
        with_reducible rfl
      rotate_left
      · simp only [Act.put, List.setIfInBounds_toArray, List.set_cons_zero, List.set_cons_succ]
        rfl
      refine done_ (by kernel_rfl) ?_
      have HW5 := Aside0.mk hw5
      clear hHeld hdr hw5
      by_cases h0 : e2 = 0
      · subst h0
        have hT3 := HT2.out
        rw [if_pos rfl] at hT3
        have HT3 := Aside0.mk hT3
        clear hT3
        go_wp2
        go_roundw
        case rel => exact ⟨k + 1, d2, by omega, by go_num, HT3, HD5, HB5, HK5, HCN⟩
        case measure => simp [intOf]; omega
      · have f2 : (e2 != 0) = true := by simp [h0]
        have hT3 := HT2.out
        rw [if_neg h0] at hT3
        have hR := HR0.out
        rw [hT3, if_neg (show ¬ (d2, e2).2 = 0 from h0)] at hR
        clear h0 hT3
        go_wp2
        go_ret
        rw [hR]
        exact ⟨rfl, HD5.out, HB5.out, HK5.out⟩
    · obtain rfl : k = n := by omega
      have f1 : decide ((k : Int) < k) = false := decide_eq_false (by omega)
      have hT2 := HTk.out
      rw [List.drop_of_length_le (by rw [HL.out]; exact Nat.le_refl _)] at hT2
      have hT3 : T = (d', 0) := hT2
      have hR := HR0.out
      rw [hT3, if_pos rfl] at hR
      have HR := Aside0.mk hR
      clear hT2 hT3 hR
      by_cases hz : k = 0
      · subst hz
        have hR := HR.out
        rw [if_pos rfl] at hR
        have HR2 := Aside0.mk hR
        clear hR
        go_wp2
        go_ret
        rw [HR2.out]
        exact ⟨rfl, HDk.out, HBk.out, HKk.out⟩
      · have f3 : ((k : Int) == 0) = false := by simp; omega
        have hR := HR.out
        rw [if_neg hz] at hR
        have HR2 := Aside0.mk (show R0 = flushD d' from hR)
        clear hR
        have c0 : wr.cell? ⟨gw, 0, none⟩ = some (.pointer (some ⟨g, 0, none⟩)) := (blk_cell (HW.out.keep HKk.out) 0).trans rfl
        have HF := Aside0.mk (flush_calls base g d' w wr HDk.out HBk.out HC.out.1 (by have := HNk.out; have := HC.out; omega))
        rw [← HR2.out] at HF
        clear hz
        go_wp2_with (go_at_call 53; refine HF.out.mono ?_; rintro e w6 ⟨rfl, h1, h2, h3⟩; have HX := Aside0.mk (And.intro h1 (And.intro h2 (HKk.out.trans h3))); clear h1 h2 h3)
        go_ret
        exact ⟨rfl, HX.out⟩
end Go.Proofs.Ytmghgghheebnjaa.Dis
