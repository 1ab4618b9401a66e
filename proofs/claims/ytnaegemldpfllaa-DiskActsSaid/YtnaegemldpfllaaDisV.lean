/- The law DiskPower, walked by hand (written by mkpower.py). -/
import Derived.Test.YtnaegemldpfllaaDisR
import Derived.Test.YtnaegemldpfllaaDisI
import Derived.Test.YtnaegemldpfllaaOpn
namespace Go.Proofs.Ytnaegemldpfllaa.Dis
open Go.RowKit Go.Proofs.YtnaegemldpfllaaW.PrintWords Go.Proofs.YtnaegemldpfllaaW.PrintLast Go.Proofs.YtnaegemldpfllaaW.PrintMore Go.Maps
set_option linter.unusedVariables false
set_option linter.unusedSimpArgs false
theorem write_calls (base g : Nat) (d : D) (i : Int) (A : Option Addr) (c : Nat) (b : List Int) (w W : World) (h : IsD base W g d) (hB : Below base w W) (hl : Lies base W A b) (ho : OkB b) (hcnt : d.cnt < 1000000) (hbase : base ≤ w.heap.size) :
    Calls Try.prog 9 #[.pointer (some ⟨g, 0, none⟩), .int .i64 i, .slice A b.length c] W fun e w' => e = .returned (.int .i64 (writeD d i b).2) ∧ IsD base w' g (writeD d i b).1 ∧ Below base w w' ∧ KeepD W w' := by
  by_cases hr : (writeD d i b).2 = 0
  · rw [hr]
    exact write_yes base g d i A c b w W h hB hl ho hr hcnt hbase
  · exact write_no base g d i A c b w W h hB hl hr
theorem act_at0 {w : World} {A : Option Addr} {n : Nat} {l : List Act_} (h : actK.C w A n l) (k : Nat) (hk : k < n) :
    ∃ ad, A = some ad ∧ w.cell? (ad.add (k * 4)) = some (.int .i64 (l.getD k act0).1) := by
  obtain ⟨ad, c, hA, hl, hK, hc⟩ := Kd.C_get h act0 (k : Int) (by omega) (by omega)
  simp only [Int.toNat_natCast] at hK hc
  have hs : actK.sz = 4 := rfl
  rw [hs] at hc
  obtain ⟨c0, c1, rfl, h0, _⟩ := hK
  obtain rfl : c0 = [.int .i64 _] := h0
  exact ⟨ad, hA, hc 0 _ rfl⟩
/-- The disk when c calls have been made of those N that come. -/
structure Pw (N : Int) (c : Nat) (d : D) (k : Nat) : Prop where
  n : d.n = 8
  cnt : d.cnt ≤ k
  alive : (c : Int) ≤ N → d.dead = false ∧ d.left = N - c
  gone : N < (c : Int) → d.dead = true
def errOf (N : Int) (c : Nat) : Int := if N < (c : Int) + 1 then 190 else 0
theorem pw_call {N : Int} {c : Nat} {d : D} {k : Nat} (h : Pw N c d k) : (callD d).2 = errOf N c ∧ Pw N (c + 1) (callD d).1 k ∧ (callD d).1.since = d.since := by
  unfold errOf
  by_cases hc : (c : Int) ≤ N
  · obtain ⟨h1, h2⟩ := h.alive hc
    by_cases hl : d.left = 0
    · have e : callD d = ({ d with dead := true }, 190) := by unfold callD; rw [if_pos (.inl hl)]
      rw [e]
      have hN : N < (c : Int) + 1 := by omega
      rw [if_pos hN]
      exact ⟨rfl, ⟨h.n, h.cnt, fun h' => by omega, fun _ => rfl⟩, rfl⟩
    · have e : callD d = ({ d with left := d.left - 1 }, 0) := by
        unfold callD
        rw [if_neg (by rw [h1]; simp [hl]), if_pos (by omega)]
      rw [e]
      have hN : ¬ N < (c : Int) + 1 := by omega
      rw [if_neg hN]
      exact ⟨rfl, ⟨h.n, h.cnt, fun _ => ⟨h1, by show d.left - 1 = _; omega⟩, fun h' => by omega⟩, rfl⟩
  · have hd := h.gone (by omega)
    have e : callD d = ({ d with dead := true }, 190) := by unfold callD; rw [if_pos (.inr hd)]
    rw [e]
    rw [if_pos (show N < (c : Int) + 1 by omega)]
    exact ⟨rfl, ⟨h.n, h.cnt, fun h' => by omega, fun _ => rfl⟩, rfl⟩
theorem errOf_cases (N : Int) (c : Nat) : (N < (c : Int) + 1 ∧ errOf N c = 190) ∨ (¬ N < (c : Int) + 1 ∧ errOf N c = 0) := by
  unfold errOf
  by_cases h : N < (c : Int) + 1
  · exact .inl ⟨h, if_pos h⟩
  · exact .inr ⟨h, if_neg h⟩
/-- What a call leaves. -/
structure Did (N : Int) (c : Nat) (d d' : D) (e : Int) (k : Nat) : Prop where
  err : e = errOf N c
  pw : Pw N (c + 1) d' (k + 1)
  same : N < (c : Int) + 1 → d'.since.length = d.since.length
theorem there7 {d : D} (h : d.n = 8) (x : Int) : thereD d (and7 x) = 0 := by
  have h7 := and7_ge x
  unfold thereD
  rw [if_neg (by omega), if_neg (by rw [h]; omega)]
theorem Pw.more {N : Int} {c : Nat} {d : D} {k : Nat} (h : Pw N c d k) : Pw N c d (k + 1) := ⟨h.n, Nat.le_succ_of_le h.cnt, h.alive, h.gone⟩
theorem pw_write {N : Int} {c : Nat} {d : D} {k : Nat} (h : Pw N c d k) (x : Int) (b : List Int) : Did N c d (writeD d (and7 x) (b.take 512)).1 (writeD d (and7 x) (b.take 512)).2 k := by
  obtain ⟨h1, h2, h3⟩ := pw_call h
  have ht := there7 h2.n x
  rcases errOf_cases N c with ⟨hN, he⟩ | ⟨hN, he⟩
  · have e : writeD d (and7 x) (b.take 512) = ((callD d).1, (callD d).2) := by
      unfold writeD
      rw [if_pos (by rw [h1, he]; decide)]
    rw [e]
    exact ⟨h1, h2.more, fun _ => by show (callD d).1.since.length = _; rw [h3]⟩
  · have e : writeD d (and7 x) (b.take 512) = ({ (callD d).1 with since := (callD d).1.since ++ [(and7 x, pad (b.take 512))], cnt := (callD d).1.cnt + 1 }, 0) := by
      unfold writeD
      rw [if_neg (by rw [h1, he]; decide), if_neg (by rw [ht]; decide), if_neg (by rw [List.length_take]; omega)]
    rw [e]
    exact ⟨he.symm, ⟨h2.n, Nat.succ_le_succ h2.cnt, h2.alive, h2.gone⟩, fun h' => absurd h' hN⟩
theorem pw_read {N : Int} {c : Nat} {d : D} {k : Nat} (h : Pw N c d k) (x : Int) : Did N c d (readD d (and7 x)).1 (readD d (and7 x)).2.2 k := by
  obtain ⟨h1, h2, h3⟩ := pw_call h
  have ht := there7 h2.n x
  rcases errOf_cases N c with ⟨hN, he⟩ | ⟨hN, he⟩
  · have e : readD d (and7 x) = ((callD d).1, [], (callD d).2) := by
      unfold readD
      rw [if_pos (by rw [h1, he]; decide)]
    rw [e]
    exact ⟨h1, h2.more, fun _ => by show (callD d).1.since.length = _; rw [h3]⟩
  · have e : readD d (and7 x) = ((callD d).1, readF (callD d).1.since (and7 x) ((callD d).1.fast (and7 x)), 0) := by
      unfold readD
      rw [if_neg (by rw [h1, he]; decide), if_neg (by rw [ht]; decide)]
    rw [e]
    exact ⟨he.symm, h2.more, fun h' => absurd h' hN⟩
theorem pw_flush {N : Int} {c : Nat} {d : D} {k : Nat} (h : Pw N c d k) : Did N c d (flushD d).1 (flushD d).2 k := by
  obtain ⟨h1, h2, h3⟩ := pw_call h
  rcases errOf_cases N c with ⟨hN, he⟩ | ⟨hN, he⟩
  · have e : flushD d = callD d := by
      unfold flushD
      rw [if_neg (by rw [h1, he]; decide)]
    rw [e]
    exact ⟨h1, h2.more, fun _ => by rw [h3]⟩
  · have e : flushD d = (keepsD (callD d).1 (fun _ => true), 0) := by
      unfold flushD
      rw [if_pos (by rw [h1, he])]
    rw [e]
    exact ⟨he.symm, ⟨h2.n, Nat.le_succ_of_le h2.cnt, h2.alive, h2.gone⟩, fun h' => absurd h' hN⟩
theorem pw_start (N : Int) (h0 : 0 ≤ N) : Pw N 0 (armD (newD 8) N) 0 := by
  refine ⟨by show clampN 8 = 8; decide, Nat.le_refl _, fun _ => ⟨rfl, ?_⟩, fun h => by omega⟩
  show (if N < 0 then (0 : Int) else N) = _
  rw [if_neg (by omega)]; omega
theorem Pw.dead {N : Int} {c : Nat} {d : D} {k : Nat} (h : Pw N c d k) : d.dead = decide (N < (c : Int)) := by
  by_cases hc : N < (c : Int)
  · rw [h.gone hc, decide_eq_true hc]
  · rw [(h.alive (by omega)).1, decide_eq_false hc]
set_option maxHeartbeats 8000000 in
set_option maxRecDepth 100000 in
theorem power_calls (w : World) (N : Int) (hN0 : 0 ≤ N) (hN1 : N < 256) (A : Option Addr) (c : Nat) (l : List Act_) (h : actK.C w A l.length l) (ho : OkL l) (hb : l.length ≤ 9223372036854775807) :
    Calls Try.prog 6 #[.int .u8 N, .slice A l.length c] w fun e w' => e = .returned (.bool true) ∧ Below w.heap.size w w' := by
  have H := Aside0.mk h
  have O := Aside0.mk ho
  clear h ho
  obtain ⟨n, hn⟩ : ∃ n, n = l.length := ⟨_, rfl⟩
  rw [← hn] at hb ⊢
  have NL := Aside0.mk hn
  clear hn
  have hcv : IntKind.i64.wrap N = N := by rw [IntKind.wrap_i64]; omega
  go_enter Try.func6, Try.ntmps6
  go_wp2_with (first
    | (go_at_call 8; refine (new_calls 8 w).mono ?_; rintro e w1 ⟨g, rfl, h1, h2, h3⟩; have HD := Aside0.mk h1; have HB := Aside0.mk h3; clear h1 h2 h3)
    | (go_at_call 16; refine (arm_calls w.heap.size g (newD 8) N (by omega) w _ HD.out HB.out).mono ?_; rintro e w2 ⟨rfl, h1, h2, _⟩; have HD2 := Aside0.mk h1; have HB2 := Aside0.mk h2; clear HD HB h1 h2))
  go_loopw [6, 7] (fun y x wr => ∃ (k cc : Nat) (d : D), k ≤ n ∧ k ≤ 40 ∧ cc ≤ k ∧ x = .int .i64 k ∧ y = .int .i64 cc ∧ Aside0 (Pw N cc d k) ∧ Aside0 (IsD w.heap.size wr g d) ∧ Aside0 (Below w.heap.size w wr)) (fun _ x _ => n - (intOf x).toNat)
  case atStart => exact ⟨0, 0, _, Nat.zero_le _, by decide, Nat.le_refl _, rfl, rfl, ⟨pw_start N hN0⟩, HD2, HB2⟩
  case round =>
    obtain ⟨k, cc, d, hk, hk2, hcc, rfl, rfl, HPk, HDk, HBk⟩ := hrel
    by_cases hlt : k < n ∧ k < 40
    · obtain ⟨hx1, hx2⟩ := hlt
      have e1 : decide ((k : Int) < n) = true := decide_eq_true (by omega)
      have e2 : decide ((k : Int) < 40) = true := decide_eq_true (by omega)
      have hC := Kd.C_below H.out HBk.out
      have hat := act_at hC k (by rw [← NL.out]; exact hx1)
      have hat0 := act_at0 hC k (by rw [← NL.out]; exact hx1)
      obtain ⟨a, ha⟩ : ∃ a, a = l.getD k act0 := ⟨_, rfl⟩
      rw [← ha] at hat hat0
      obtain ⟨ad, AB, cB, hA, hc1, hc2, hle, hC'⟩ := hat
      obtain ⟨ad', hA', hc0⟩ := hat0
      subst hA
      obtain rfl : ad = ad' := by injection hA'
      have HA := Aside0.mk ha
      have HC := Aside0.mk hC'
      have HLE := Aside0.mk hle
      have HC0 := Aside0.mk hc0
      have HC1 := Aside0.mk hc1
      have HC2 := Aside0.mk hc2
      have HOK := Aside0.mk (show OkB a.2.2.1 by rw [HA.out]; exact okl_at O.out k (by rw [← NL.out]; exact hx1))
      clear hC hc0 hc1 hc2 hle hC' hA' ha
      go_upto_region 10 with (first
        | (go_at_call 17; refine (pending_calls w.heap.size g d _ HDk.out).mono ?_; rintro e w4 ⟨rfl, h4⟩; obtain rfl := h4.symm))
      by_cases hk0 : a.1 = 0
      · have c0 : wr.cell? (ad.add (k * 4)) = some (.int .i64 0) := by rw [HC0.out, hk0]
        go_upto_region 12 with fail
        refine start_ (n := 15) (S := fun w' => w'.cell? (ad.add (k * 4 + 1)) = some (.int .i64 a.2.1) ∧ w'.cell? (ad.add (k * 4 + 2)) = some (.slice AB a.2.2.1.length cB)) (ds := [13, 14]) #[false, false, false, false, false, false, false, false, false, false, false, false, false, false, false] (by kernel_rfl) rfl rfl ⟨HC1.out, HC2.out⟩ (fun hHeld => ?_)
        refine pure_ (i := 0) (N := some 36) (v := ?_) (a' := ?_) #[true, false, false, false, false, false, false, false, false, false, false, false, false, false, false] rfl rfl (by kernel_rfl) (fun _ _ _ h => h) (Or.inl ⟨by rfl, ?_⟩) ?_ ?_
        rotate_left
        · intro w'
          go_simp
          with_reducible rfl
        rotate_left
        · simp only [Act.put, List.setIfInBounds_toArray, List.set_cons_zero, List.set_cons_succ]
          rfl
        refine pure_ (i := 1) (N := some 37) (v := ?_) (a' := ?_) #[true, true, false, false, false, false, false, false, false, false, false, false, false, false, false] rfl rfl (by kernel_rfl) (fun _ _ _ h => h) (Or.inl ⟨by rfl, ?_⟩) ?_ ?_
        rotate_left
        · intro w'
          go_simp
          with_reducible rfl
        rotate_left
        · simp only [Act.put, List.setIfInBounds_toArray, List.set_cons_zero, List.set_cons_succ]
          rfl
        refine pure_ (i := 2) (N := some 38) (v := ?_) (a' := ?_) #[true, true, true, false, false, false, false, false, false, false, false, false, false, false, false] rfl rfl (by kernel_rfl) (fun _ _ _ h => h) (Or.inl ⟨by rfl, ?_⟩) ?_ ?_
        rotate_left
        · intro w'
          go_simp
          with_reducible rfl
        rotate_left
        · simp only [Act.put, List.setIfInBounds_toArray, List.set_cons_zero, List.set_cons_succ]
          rfl
        refine pure_ (i := 3) (N := some 39) (v := ?_) (a' := ?_) #[true, true, true, true, false, false, false, false, false, false, false, false, false, false, false] rfl rfl (by kernel_rfl) (fun _ _ _ h => h) (Or.inl ⟨by rfl, ?_⟩) ?_ ?_
        rotate_left
        · intro w'
          go_simp
          with_reducible rfl
        rotate_left
        · simp only [Act.put, List.setIfInBounds_toArray, List.set_cons_zero, List.set_cons_succ]
          rfl
        refine pure_ (i := 4) (N := some 40) (v := ?_) (a' := ?_) #[true, true, true, true, true, false, false, false, false, false, false, false, false, false, false] rfl rfl (by kernel_rfl) (fun _ _ _ h => h) (Or.inl ⟨by rfl, ?_⟩) ?_ ?_
        rotate_left
        · intro w'
          go_simp
          with_reducible rfl
        rotate_left
        · simp only [Act.put, List.setIfInBounds_toArray, List.set_cons_zero, List.set_cons_succ]
          rfl
        refine take_ (i := 5) (N := some 41) (v := ?_) (a' := ?_) #[true, true, true, true, true, true, false, false, false, false, false, false, false, false, false] rfl rfl (by kernel_rfl) (fun _ _ _ h => h) (Or.inl ⟨by rfl, ?_⟩) hHeld ?_ ?_
        rotate_left
        · rintro w' ⟨s0, s1⟩
          rw [add_off _ _ 1 (by decide)] at s0
          rw [add_off _ _ 2 (by decide)] at s1
          go_simp
          with_reducible rfl
        rotate_left
        · simp only [Act.put, List.setIfInBounds_toArray, List.set_cons_zero, List.set_cons_succ]
          rfl
        refine pure_ (i := 6) (N := some 42) (v := .int .i64 (and7 a.2.1)) (a' := ?_) #[true, true, true, true, true, true, true, false, false, false, false, false, false, false, false] rfl rfl (by kernel_rfl) (fun _ _ _ h => h) (Or.inl ⟨by rfl, ?_⟩) ?_ ?_
        · intro w'
          rfl
        rotate_left
        · simp only [Act.put, List.setIfInBounds_toArray, List.set_cons_zero, List.set_cons_succ]
          rfl
        refine pure_ (i := 7) (N := some 43) (v := ?_) (a' := ?_) #[true, true, true, true, true, true, true, true, false, false, false, false, false, false, false] rfl rfl (by kernel_rfl) (fun _ _ _ h => h) (Or.inl ⟨by rfl, ?_⟩) ?_ ?_
        rotate_left
        · intro w'
          go_simp
          with_reducible rfl
        rotate_left
        · simp only [Act.put, List.setIfInBounds_toArray, List.set_cons_zero, List.set_cons_succ]
          rfl
        refine pure_ (i := 8) (N := some 44) (v := ?_) (a' := ?_) #[true, true, true, true, true, true, true, true, true, false, false, false, false, false, false] rfl rfl (by kernel_rfl) (fun _ _ _ h => h) (Or.inl ⟨by rfl, ?_⟩) ?_ ?_
        rotate_left
        · intro w'
          go_simp
          with_reducible rfl
        rotate_left
        · simp only [Act.put, List.setIfInBounds_toArray, List.set_cons_zero, List.set_cons_succ]
          rfl
        refine pure_ (i := 9) (N := some 45) (v := ?_) (a' := ?_) #[true, true, true, true, true, true, true, true, true, true, false, false, false, false, false] rfl rfl (by kernel_rfl) (fun _ _ _ h => h) (Or.inl ⟨by rfl, ?_⟩) ?_ ?_
        rotate_left
        · intro w'
          go_simp
          with_reducible rfl
        rotate_left
        · simp only [Act.put, List.setIfInBounds_toArray, List.set_cons_zero, List.set_cons_succ]
          rfl
        refine pure_ (i := 10) (N := some 46) (v := ?_) (a' := ?_) #[true, true, true, true, true, true, true, true, true, true, true, false, false, false, false] rfl rfl (by kernel_rfl) (fun _ _ _ h => h) (Or.inl ⟨by rfl, ?_⟩) ?_ ?_
        rotate_left
        · intro w'
          go_simp
          with_reducible rfl
        rotate_left
        · simp only [Act.put, List.setIfInBounds_toArray, List.set_cons_zero, List.set_cons_succ]
          rfl
        refine take_ (i := 11) (N := some 47) (v := ?_) (a' := ?_) #[true, true, true, true, true, true, true, true, true, true, true, true, false, false, false] rfl rfl (by kernel_rfl) (fun _ _ _ h => h) (Or.inl ⟨by rfl, ?_⟩) hHeld ?_ ?_
        rotate_left
        · rintro w' ⟨s0, s1⟩
          rw [add_off _ _ 1 (by decide)] at s0
          rw [add_off _ _ 2 (by decide)] at s1
          go_simp
          with_reducible rfl
        rotate_left
        · simp only [Act.put, List.setIfInBounds_toArray, List.set_cons_zero, List.set_cons_succ]
          rfl
        refine one_ (i := 12) (N := some 48) #[true, true, true, true, true, true, true, true, true, true, true, true, true, false, false] rfl rfl (by kernel_rfl) (by decide) (fun K hK => ?_)
        refine goes_ Try.func10 (by kernel_rfl) rfl #[.slice AB a.2.2.1.length cB] (by rfl) rfl rfl (by (try simp only [List.map_toArray, List.map_cons, List.map_nil]); first | done | rfl) ?_
        refine (short_calls AB cB a.2.2.1 _ (Kd.C_drew HC.out) HLE.out).mono ?_
        rintro e w7 ⟨v7, rfl, h4, h5⟩
        refine ⟨v7, rfl, ?_⟩
        obtain ⟨A7, c7, rfl⟩ := Kd.R_slice h4
        have HR7 := Aside0.mk h4
        have HB7 := Aside0.mk ((below_drew (Below.refl _ _)).trans h5)
        clear h4 h5
        refine hK.out _ _ ⟨cell_on HC1.out HB7.out, cell_on HC2.out HB7.out⟩ (fun hHeld => ?_)
        clear hK K
        refine last_ (i := 13) (N := some 49) #[true, true, true, true, true, true, true, true, true, true, true, true, true, true, false] rfl rfl (by kernel_rfl) (by decide) (fun K hK => ?_)
        refine goes_ Try.func9 (by kernel_rfl) rfl #[.pointer (some ⟨g, 0, none⟩), .int .i64 (and7 a.2.1), .slice A7 (a.2.2.1.take 512).length c7] (by rfl) rfl rfl (by (try simp only [List.map_toArray, List.map_cons, List.map_nil]); first | done | rfl) ?_
        refine (write_calls w.heap.size g d (and7 a.2.1) A7 c7 (a.2.2.1.take 512) w _ (HDk.out.below HB7.out) (HBk.out.trans (HB7.out.mono HBk.out.size)) (lies_of_R HR7.out) (okb_take HOK.out 512) (by have := HPk.out.cnt; omega) (Nat.le_refl _)).mono ?_
        rintro e w8 ⟨rfl, h1, h2, _⟩
        obtain ⟨E, hE⟩ : ∃ E, E = (writeD d (and7 a.2.1) (a.2.2.1.take 512)).2 := ⟨_, rfl⟩
        obtain ⟨d', hd'⟩ : ∃ d', d' = (writeD d (and7 a.2.1) (a.2.2.1.take 512)).1 := ⟨_, rfl⟩
        have hdid := pw_write HPk.out a.2.1 a.2.2.1
        rw [← hE, ← hd'] at hdid
        rw [← hd'] at h1
        rw [← hE]
        have HDid := Aside0.mk hdid
        have HD8 := Aside0.mk h1
        have HB8 := Aside0.mk h2
        clear h1 h2 hE hd' hdid
        refine ⟨_, rfl, ?_⟩
        refine hK.out _ _ ?_
        clear hK K
        refine pure_ (i := 14) (N := some 9) (v := ?_) (a' := ?_) #[true, true, true, true, true, true, true, true, true, true, true, true, true, true, true] rfl rfl (by kernel_rfl) (fun _ _ _ h => h) (Or.inl ⟨by rfl, ?_⟩) ?_ ?_
        rotate_left
        · intro w'
          go_simp
          with_reducible rfl
        rotate_left
        · simp only [Act.put, List.setIfInBounds_toArray, List.set_cons_zero, List.set_cons_succ]
          rfl
        refine done_ (by kernel_rfl) ?_
        rcases errOf_cases N cc with ⟨hN, he⟩ | ⟨hN, he⟩
        · have hE := HDid.out.err.trans he
          subst hE
          have e5 : decide (N < (cc : Int) + 1) = true := decide_eq_true hN
          have hdd : d'.dead = true := by rw [HDid.out.pw.dead]; exact decide_eq_true (by push_cast; omega)
          have hss := HDid.out.same hN
          go_wp2_with (first
            | (go_at_call 18; refine (dead_calls w.heap.size g d' _ HD8.out).mono ?_; rintro e w9 ⟨rfl, h9⟩; obtain rfl := h9.symm; rw [hdd])
            | (go_at_call 17; refine (pending_calls w.heap.size g d' _ HD8.out).mono ?_; rintro e w9 ⟨rfl, h9⟩; obtain rfl := h9.symm; rw [hss]))
          go_roundw
          case rel => exact ⟨k + 1, cc + 1, d', by omega, by omega, by omega, by go_num, by go_num, ⟨HDid.out.pw⟩, HD8, HB8⟩
          case measure => simp [intOf]; omega
        · have hE := HDid.out.err.trans he
          subst hE
          have e5 : decide (N < (cc : Int) + 1) = false := decide_eq_false hN
          have hdd : d'.dead = false := by rw [HDid.out.pw.dead]; exact decide_eq_false (by push_cast; omega)
          have hss : True := trivial
          go_wp2_with (first
            | (go_at_call 18; refine (dead_calls w.heap.size g d' _ HD8.out).mono ?_; rintro e w9 ⟨rfl, h9⟩; obtain rfl := h9.symm; rw [hdd])
            | (go_at_call 17; refine (pending_calls w.heap.size g d' _ HD8.out).mono ?_; rintro e w9 ⟨rfl, h9⟩; obtain rfl := h9.symm; rw [hss]))
          go_roundw
          case rel => exact ⟨k + 1, cc + 1, d', by omega, by omega, by omega, by go_num, by go_num, ⟨HDid.out.pw⟩, HD8, HB8⟩
          case measure => simp [intOf]; omega
      · by_cases hk1 : a.1 = 1
        · have c0 : wr.cell? (ad.add (k * 4)) = some (.int .i64 1) := by rw [HC0.out, hk1]
          have c1 : wr.cell? ⟨(ad.add (k * 4)).block, (ad.add (k * 4)).off + 1, none⟩ = some (.int .i64 a.2.1) := by rw [← add_off ad (k * 4) 1 (by decide)]; exact HC1.out
          go_upto_region 17 with (first
            | (go_at_call 15; refine (read_calls w.heap.size g d (and7 a.2.1) ⟨by have := and7_ge a.2.1; omega, by have := and7_ge a.2.1; omega⟩ w _ HDk.out HBk.out (by have := HPk.out.cnt; omega)).mono ?_; rintro e w8 ⟨v8, rfl, h1, h2, _, _⟩; obtain ⟨E, hE⟩ : ∃ E, E = (readD d (and7 a.2.1)).2.2 := ⟨_, rfl⟩; obtain ⟨d', hd'⟩ : ∃ d', d' = (readD d (and7 a.2.1)).1 := ⟨_, rfl⟩; have hdid := pw_read HPk.out a.2.1; rw [← hE, ← hd'] at hdid; rw [← hd'] at h1; rw [← hE]; have HDid := Aside0.mk hdid; have HD8 := Aside0.mk h1; have HB8 := Aside0.mk h2; clear h1 h2 hE hd' hdid))
          rcases errOf_cases N cc with ⟨hN, he⟩ | ⟨hN, he⟩
          · have hE := HDid.out.err.trans he
            subst hE
            have e5 : decide (N < (cc : Int) + 1) = true := decide_eq_true hN
            have hdd : d'.dead = true := by rw [HDid.out.pw.dead]; exact decide_eq_true (by push_cast; omega)
            have hss := HDid.out.same hN
            go_wp2_with (first
              | (go_at_call 18; refine (dead_calls w.heap.size g d' _ HD8.out).mono ?_; rintro e w9 ⟨rfl, h9⟩; obtain rfl := h9.symm; rw [hdd])
              | (go_at_call 17; refine (pending_calls w.heap.size g d' _ HD8.out).mono ?_; rintro e w9 ⟨rfl, h9⟩; obtain rfl := h9.symm; rw [hss]))
            go_roundw
            case rel => exact ⟨k + 1, cc + 1, d', by omega, by omega, by omega, by go_num, by go_num, ⟨HDid.out.pw⟩, HD8, HB8⟩
            case measure => simp [intOf]; omega
          · have hE := HDid.out.err.trans he
            subst hE
            have e5 : decide (N < (cc : Int) + 1) = false := decide_eq_false hN
            have hdd : d'.dead = false := by rw [HDid.out.pw.dead]; exact decide_eq_false (by push_cast; omega)
            have hss : True := trivial
            go_wp2_with (first
              | (go_at_call 18; refine (dead_calls w.heap.size g d' _ HD8.out).mono ?_; rintro e w9 ⟨rfl, h9⟩; obtain rfl := h9.symm; rw [hdd])
              | (go_at_call 17; refine (pending_calls w.heap.size g d' _ HD8.out).mono ?_; rintro e w9 ⟨rfl, h9⟩; obtain rfl := h9.symm; rw [hss]))
            go_roundw
            case rel => exact ⟨k + 1, cc + 1, d', by omega, by omega, by omega, by go_num, by go_num, ⟨HDid.out.pw⟩, HD8, HB8⟩
            case measure => simp [intOf]; omega
        · by_cases hk2 : a.1 = 2
          · have c0 : wr.cell? (ad.add (k * 4)) = some (.int .i64 2) := by rw [HC0.out, hk2]
            have c1 : wr.cell? ⟨(ad.add (k * 4)).block, (ad.add (k * 4)).off + 1, none⟩ = some (.int .i64 a.2.1) := by rw [← add_off ad (k * 4) 1 (by decide)]; exact HC1.out
            go_upto_region 17 with (first
              | (go_at_call 11; refine (flush_calls w.heap.size g d w _ HDk.out HBk.out (Nat.le_refl _) (by have := HPk.out.cnt; omega)).mono ?_; rintro e w8 ⟨rfl, h1, h2, _⟩; obtain ⟨E, hE⟩ : ∃ E, E = (flushD d).2 := ⟨_, rfl⟩; obtain ⟨d', hd'⟩ : ∃ d', d' = (flushD d).1 := ⟨_, rfl⟩; have hdid := pw_flush HPk.out; rw [← hE, ← hd'] at hdid; rw [← hd'] at h1; rw [← hE]; have HDid := Aside0.mk hdid; have HD8 := Aside0.mk h1; have HB8 := Aside0.mk h2; clear h1 h2 hE hd' hdid))
            rcases errOf_cases N cc with ⟨hN, he⟩ | ⟨hN, he⟩
            · have hE := HDid.out.err.trans he
              subst hE
              have e5 : decide (N < (cc : Int) + 1) = true := decide_eq_true hN
              have hdd : d'.dead = true := by rw [HDid.out.pw.dead]; exact decide_eq_true (by push_cast; omega)
              have hss := HDid.out.same hN
              go_wp2_with (first
                | (go_at_call 18; refine (dead_calls w.heap.size g d' _ HD8.out).mono ?_; rintro e w9 ⟨rfl, h9⟩; obtain rfl := h9.symm; rw [hdd])
                | (go_at_call 17; refine (pending_calls w.heap.size g d' _ HD8.out).mono ?_; rintro e w9 ⟨rfl, h9⟩; obtain rfl := h9.symm; rw [hss]))
              go_roundw
              case rel => exact ⟨k + 1, cc + 1, d', by omega, by omega, by omega, by go_num, by go_num, ⟨HDid.out.pw⟩, HD8, HB8⟩
              case measure => simp [intOf]; omega
            · have hE := HDid.out.err.trans he
              subst hE
              have e5 : decide (N < (cc : Int) + 1) = false := decide_eq_false hN
              have hdd : d'.dead = false := by rw [HDid.out.pw.dead]; exact decide_eq_false (by push_cast; omega)
              have hss : True := trivial
              go_wp2_with (first
                | (go_at_call 18; refine (dead_calls w.heap.size g d' _ HD8.out).mono ?_; rintro e w9 ⟨rfl, h9⟩; obtain rfl := h9.symm; rw [hdd])
                | (go_at_call 17; refine (pending_calls w.heap.size g d' _ HD8.out).mono ?_; rintro e w9 ⟨rfl, h9⟩; obtain rfl := h9.symm; rw [hss]))
              go_roundw
              case rel => exact ⟨k + 1, cc + 1, d', by omega, by omega, by omega, by go_num, by go_num, ⟨HDid.out.pw⟩, HD8, HB8⟩
              case measure => simp [intOf]; omega
          · have b0 : (a.1 == 0) = false := by simp [hk0]
            have b1 : (a.1 == 1) = false := by simp [hk1]
            have b2 : (a.1 == 2) = false := by simp [hk2]
            have c0 := HC0.out
            go_wp2
            go_roundw
            case rel => exact ⟨k + 1, cc, d, by omega, by omega, by omega, by go_num, rfl, ⟨HPk.out.more⟩, HDk, HBk⟩
            case measure => simp [intOf]; omega
    · have e0 : True := trivial
      by_cases hlt1 : k < n
      · have e1 : decide ((k : Int) < n) = true := decide_eq_true (by omega)
        have e2 : decide ((k : Int) < 40) = false := decide_eq_false (by omega)
        go_wp2_with (first
          | (go_at_call 14; refine (lives_calls _).mono ?_; rintro e w8 ⟨rfl, h2⟩; have HB8 := Aside0.mk (HBk.out.trans (h2.mono HBk.out.size)); clear h2))
        go_ret
        exact ⟨rfl, HB8.out⟩
      · have e1 : decide ((k : Int) < n) = false := decide_eq_false (by omega)
        go_wp2_with (first
          | (go_at_call 14; refine (lives_calls _).mono ?_; rintro e w8 ⟨rfl, h2⟩; have HB8 := Aside0.mk (HBk.out.trans (h2.mono HBk.out.size)); clear h2))
        go_ret
        exact ⟨rfl, HB8.out⟩
end Go.Proofs.Ytnaegemldpfllaa.Dis
