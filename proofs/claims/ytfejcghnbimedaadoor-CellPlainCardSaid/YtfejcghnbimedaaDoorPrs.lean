/- The law on texts that numbers begin. -/
import Derived.Test.YtfejcghnbimedaaDoorScaC
import Derived.Test.YtfejcghnbimedaaDoorPCellx7
import Derived.Test.YtfejcghnbimedaaDoorGivQ
set_option linter.unusedVariables false
set_option linter.unusedSimpArgs false
namespace Go.Proofs.YtfejcghnbimedaaDoor.Prs
open Go.RowKit Go.Proofs.YtfejcghnbimedaaDoor.PCell Go.Proofs.YtfejcghnbimedaaDoorW.PrintWords Go.Proofs.YtfejcghnbimedaaDoorW.PrintLast
open Go.Proofs.YtfejcghnbimedaaDoor.Dig Go.Proofs.YtfejcghnbimedaaDoor.Div Go.Proofs.YtfejcghnbimedaaDoor.Giv

theorem dgCons {d : Int} {L : List Int} (h : Dg L) (h0 : 0 ≤ d) (h9 : d ≤ 9) : Dg (d :: L) := fun x hx => by
  rcases List.mem_cons.1 hx with h1 | h1
  · rw [h1]; exact ⟨h0, h9⟩
  · exact h x h1

/-- A size in a word stands for the number V. -/
def StOk (st : St) (V : Int) : Prop := 0 ≤ V ∧ 0 ≤ st.1 ∧ st.1 < 18446744073709551616 ∧ (st.2 = false → st.1 = V) ∧ (st.2 = true → 18446744073709551616 ≤ V)
theorem StOk.addw {st : St} {V x : Int} (h : StOk st V) (hx : 0 ≤ x) : StOk (addw st x) (V + x) := by
  obtain ⟨h0, h1, h2, h3, h4⟩ := h
  unfold StOk Giv.addw
  simp only
  refine ⟨by omega, by omega, by omega, fun h => ?_, fun h => ?_⟩
  · rw [Bool.or_eq_false_iff, decide_eq_false_iff_not] at h
    have := h3 h.1
    omega
  · rw [Bool.or_eq_true, decide_eq_true_eq] at h
    cases hs : st.2 with
    | true => have := h4 hs; omega
    | false =>
      have := h3 hs
      rcases h with h | h
      · rw [hs] at h; cases h
      · omega
theorem StOk.mulT {st : St} {V : Int} (h : StOk st V) : StOk (mulT st) (V * 10) := by
  obtain ⟨h0, h1, h2, h3, h4⟩ := h
  unfold StOk Giv.mulT
  simp only
  refine ⟨by omega, by omega, by omega, fun h => ?_, fun h => ?_⟩
  · rw [Bool.or_eq_false_iff, decide_eq_false_iff_not] at h
    have := h3 h.1
    omega
  · rw [Bool.or_eq_true, decide_eq_true_eq] at h
    cases hs : st.2 with
    | true => have := h4 hs; omega
    | false =>
      have := h3 hs
      rcases h with h | h
      · rw [hs] at h; cases h
      · omega

theorem num_by (s : ByteArray) (p : Nat) (h : p < s.size) : aukletref01_num.f (bt s (p : Int)) = some (isD s p) := by
  rw [bt_by h]
  unfold aukletref01_num.f isD
  by_cases h1 : (48 : Int) ≤ (by_ s p : Int)
  · rw [if_pos h1]
    congr 1
    rw [decide_eq_true h, decide_eq_true (show 48 ≤ by_ s p by omega), Bool.true_and, Bool.true_and]
    exact decide_eq_decide.2 ⟨fun h => by omega, fun h => by omega⟩
  · rw [if_neg h1, decide_eq_false (show ¬ 48 ≤ by_ s p by omega), Bool.and_false, Bool.false_and]

section
variable (s : ByteArray) (hs : s.size ≤ 300) (mi : Bool)

theorem l1_digit (p m : Nat) (d : List Int) (x8 : Int) (h : isD s p = true) (hs : s.size ≤ 300) (hl : d.length ≤ 1000) (hm : m ≤ 1000) (h0 : -1 ≤ x8) (h1 : x8 ≤ 1000) (k : Nat) :
    aukletref01_Parse.l1 (k + 2) s (p : Int) d x8 (m : Int) mi =
      if x8 < 6 then (if x8 ≥ 0 then aukletref01_Parse.l1 k s ((p + 1 : Nat) : Int) (dgt s p :: d) (x8 + 1) ((m + 1 : Nat) : Int) mi else aukletref01_Parse.l1 k s ((p + 1 : Nat) : Int) (dgt s p :: d) x8 ((m + 1 : Nat) : Int) mi)
      else aukletref01_Parse.l1 k s ((p + 1 : Nat) : Int) d (x8 + 1) ((m + 1 : Nat) : Int) mi := by
  obtain ⟨hp, h48, h57⟩ := isD_lt h
  simp only [aukletref01_Parse.l1]
  rw [if_pos (show (p : Int) < (s.size : Int) by omega), if_pos (show (0 : Int) ≤ (p : Int) by omega), num_by s p hp, h]
  simp only [Option.bind_some, if_true]
  simp only [aukletref01_Parse.j5]
  rw [if_pos trivial, if_pos (show (0 : Int) ≤ (p : Int) by omega), if_pos (show (p : Int) < (s.size : Int) by omega), bt_by hp, if_neg (by omega)]
  simp only [Option.bind_some]
  have e1 : wrap64 ((p : Int) + 1) = ((p + 1 : Nat) : Int) := (wrap_in (by omega) (by omega)).trans (by omega)
  have e2 : wrap64 ((m : Int) + 1) = ((m + 1 : Nat) : Int) := (wrap_in (by omega) (by omega)).trans (by omega)
  have e3 : wrap64 (x8 + 1) = x8 + 1 := wrap_in (by omega) (by omega)
  have e4 : ((by_ s p : Int) - 48) % 256 = dgt s p := by unfold dgt; omega
  rw [e1, e2, e3, e4]
  by_cases hx : x8 < 6
  · rw [if_pos hx, if_pos hx, if_pos (by simp; omega)]; rfl
  · rw [if_neg hx, if_neg hx, if_pos (by omega)]

theorem l1_end (p m : Nat) (d : List Int) (x8 : Int) (h : isD s p = false) (hd : isDot s p = false ∨ 0 ≤ x8) (k : Nat) :
    aukletref01_Parse.l1 (k + 2) s (p : Int) d x8 (m : Int) mi = if (m : Int) = 0 then some (0, 0, 0) else aukletref01_Parse.l2 k (p : Int) d x8 mi := by
  have hj : aukletref01_Parse.l1 (k + 2) s (p : Int) d x8 (m : Int) mi = aukletref01_Parse.j5 (k + 1) s (p : Int) d x8 (m : Int) false mi := by
    simp only [aukletref01_Parse.l1]
    by_cases hp : p < s.size
    · rw [if_pos (show (p : Int) < (s.size : Int) by omega), if_pos (show (0 : Int) ≤ (p : Int) by omega), num_by s p hp, h]
      simp only [Option.bind_some]
      rw [if_neg (by simp), bt_by hp]
      rcases hd with hd | hd
      · have : by_ s p ≠ 46 := fun e => by simp [isDot, hp, e] at hd
        rw [if_neg (by omega)]
      · have : decide (x8 < 0) = false := decide_eq_false (by omega)
        rw [this]; split <;> rfl
    · rw [if_neg (by omega)]
  rw [hj]
  simp only [aukletref01_Parse.j5]
  rw [if_neg (by simp)]

theorem l1_dot (p m : Nat) (d : List Int) (h : isDot s p = true) (hs : s.size ≤ 300) (hm : m ≤ 1000) (k : Nat) :
    aukletref01_Parse.l1 (k + 2) s (p : Int) d (-1) (m : Int) mi = if (decide (m ≠ 0) || isD s (p + 1)) = true then aukletref01_Parse.l1 k s ((p + 1 : Nat) : Int) d 0 (m : Int) mi else some (0, 0, 0) := by
  have hp : p < s.size ∧ by_ s p = 46 := by simpa [isDot] using h
  obtain ⟨hp, hb⟩ := hp
  have hnd : isD s p = false := by simp [isD, hb]
  simp only [aukletref01_Parse.l1]
  rw [if_pos (show (p : Int) < (s.size : Int) by omega), if_pos (show (0 : Int) ≤ (p : Int) by omega), num_by s p hp, hnd]
  simp only [Option.bind_some]
  rw [if_neg (by simp), bt_by hp, if_pos (by omega)]
  simp only [aukletref01_Parse.j5]
  rw [if_pos (by decide), if_pos (show (0 : Int) ≤ (p : Int) by omega), if_pos (show (p : Int) < (s.size : Int) by omega), bt_by hp, if_pos (by omega)]
  rw [(wrap_in (x := (p : Int) + 1) (by omega) (by omega)).trans (show (p : Int) + 1 = ((p + 1 : Nat) : Int) by omega)]
  by_cases hm0 : m = 0
  · subst hm0
    rw [if_pos (by rfl)]
    by_cases hp1 : p + 1 < s.size
    · rw [if_neg (by omega), if_pos (by omega), if_pos (by omega), num_by s (p + 1) hp1]
      simp only [Option.bind_some]
      simp
    · have : isD s (p + 1) = false := by
        unfold isD; rw [decide_eq_false hp1]; rfl
      rw [if_pos (by omega), this]; rfl
  · rw [if_neg (by omega), decide_eq_true hm0, Bool.true_or, if_pos rfl]

/-- The zeros behind, and what it comes to. -/
theorem l2_end (p : Nat) : ∀ (n : Nat) (d : List Int) (q : Nat), 6 - q ≤ n → Dg d → d.length + n ≤ 2000 → q ≤ 1000 →
    Ev (fun k => aukletref01_Parse.l2 k (p : Int) d (q : Int) mi) ((bk (if mi = true then -(val d * pw (6 - q)) else val d * pw (6 - q))).1, (p : Int), (bk (if mi = true then -(val d * pw (6 - q)) else val d * pw (6 - q))).2) := by
  intro n
  induction n with
  | zero =>
    intro d q hq hg hl hq2
    obtain ⟨T, t1, t2, t3, t4, _⟩ := trim_spec d (by omega)
    have hb := Back_spec mi (t2 hg) (by omega)
    have e : 6 - q = 0 := by omega
    rw [e]
    have ev : sv mi T = if mi = true then -(val d * pw 0) else val d * pw 0 := by unfold sv; rw [t3]; simp [pw]
    rw [ev] at hb
    refine Ev.step (f := fun k => (aukletref01_trim.f k d).bind fun t388 => (aukletref01_Back.f k mi t388).bind fun bt391 => some (bt391.1, (p : Int), bt391.2)) (fun k => ?_) (Ev.bind t1 (Ev.bind hb (Ev.now _)))
    simp only [aukletref01_Parse.l2]
    rw [if_neg (by omega)]
  | succ n ih =>
    intro d q hq hg hl hq2
    by_cases h6 : q < 6
    · have hr := ih (0 :: d) (q + 1) (by omega) (dgCons hg (by omega) (by omega)) (by simp; omega) (by omega)
      have ev : val (0 :: d) * pw (6 - (q + 1)) = val d * pw (6 - q) := by
        have : 6 - q = (6 - (q + 1)) + 1 := by omega
        rw [this]
        simp only [val, pw]
        rw [Int.zero_add, Int.mul_assoc, Int.mul_left_comm]
      rw [ev] at hr
      refine Ev.step (f := fun k => aukletref01_Parse.l2 k (p : Int) (0 :: d) ((q + 1 : Nat) : Int) mi) (fun k => ?_) hr
      simp only [aukletref01_Parse.l2]
      rw [if_pos (by omega)]
      simp only [Option.bind_some]
      rw [if_pos (by simp; omega), if_neg (by omega), (wrap_in (x := (q : Int) + 1) (by omega) (by omega)).trans (show (q : Int) + 1 = ((q + 1 : Nat) : Int) by omega)]
      rfl
    · exact ih d q (by omega) hg (by omega) hq2
theorem l2_none (p : Nat) (d : List Int) (hg : Dg d) (hl : d.length ≤ 1000) :
    Ev (fun k => aukletref01_Parse.l2 k (p : Int) d (-1) mi) ((bk (if mi = true then -(val d * 1000000) else val d * 1000000)).1, (p : Int), (bk (if mi = true then -(val d * 1000000) else val d * 1000000)).2) := by
  have hr := l2_end mi p 6 (0 :: d) 1 (by omega) (dgCons hg (by omega) (by omega)) (by simp; omega) (by omega)
  have ev : val (0 :: d) * pw (6 - 1) = val d * 1000000 := by
    have e5 : pw (6 - 1) = 100000 := by decide
    rw [e5]
    simp only [val]; omega
  rw [ev] at hr
  refine Ev.step (f := fun k => aukletref01_Parse.l2 k (p : Int) (0 :: d) ((1 : Nat) : Int) mi) (fun k => ?_) hr
  simp only [aukletref01_Parse.l2]
  rw [if_pos (by omega)]
  simp only [Option.bind_some]
  rw [if_pos (by simp; omega), if_pos (by omega)]
  rfl

theorem ahead_ref (hs : s.size ≤ 300) : ∀ (n p m : Nat) (d : List Int) (st : St), s.size - p ≤ n → Dg d → StOk st (val d * 1000000) → d.length ≤ p → m ≤ p →
    ∃ d', Dg d' ∧ StOk (Giv.ahead s p st).2 (val d' * 1000000) ∧ d'.length ≤ (Giv.ahead s p st).1 ∧ isD s (Giv.ahead s p st).1 = false ∧
      ∀ R, Ev (fun k => aukletref01_Parse.l1 k s ((Giv.ahead s p st).1 : Int) d' (-1) ((m + ((Giv.ahead s p st).1 - p) : Nat) : Int) mi) R → Ev (fun k => aukletref01_Parse.l1 k s (p : Int) d (-1) (m : Int) mi) R := by
  intro n
  induction n with
  | zero =>
    intro p m d st hn hg hst hl hm
    have hd : isD s p = false := by unfold isD; rw [decide_eq_false (by omega)]; rfl
    rw [ahead_no hd]
    exact ⟨d, hg, hst, hl, hd, fun R hR => by simpa using hR⟩
  | succ n ih =>
    intro p m d st hn hg hst hl hm
    cases hd : isD s p with
    | false =>
      rw [ahead_no hd]
      exact ⟨d, hg, hst, hl, hd, fun R hR => by simpa using hR⟩
    | true =>
      obtain ⟨hp, h48, h57⟩ := isD_lt hd
      have hg0 : 0 ≤ dgt s p ∧ dgt s p ≤ 9 := by unfold dgt; omega
      have hle := ahead_le s (s.size - (p + 1)) (p + 1) (addw (mulT st) (dgt s p * 1000000)) (Nat.le_refl _)
      rw [ahead_yes hd]
      have hst' : StOk (addw (mulT st) (dgt s p * 1000000)) (val (dgt s p :: d) * 1000000) := by
        have := hst.mulT.addw (x := dgt s p * 1000000) (by omega)
        have e : val d * 1000000 * 10 + dgt s p * 1000000 = val (dgt s p :: d) * 1000000 := by simp only [val]; omega
        rw [e] at this
        exact this
      obtain ⟨d', i1, i2, i3, i4, i5⟩ := ih (p + 1) (m + 1) (dgt s p :: d) _ (by omega) (dgCons hg hg0.1 hg0.2) hst' (by simp; omega) (by omega)
      refine ⟨d', i1, i2, i3, i4, fun R hR => ?_⟩
      have e : m + ((Giv.ahead s (p + 1) (addw (mulT st) (dgt s p * 1000000))).1 - p) = m + 1 + ((Giv.ahead s (p + 1) (addw (mulT st) (dgt s p * 1000000))).1 - (p + 1)) := by omega
      rw [e] at hR
      obtain ⟨K, hK⟩ := i5 R hR
      refine ⟨K + 2, fun k hk => ?_⟩
      obtain ⟨j, rfl⟩ : ∃ j, k = j + 2 := ⟨k - 2, by omega⟩
      simp only
      rw [l1_digit s mi p m d (-1) hd hs (by omega) (by omega) (by omega) (by omega), if_pos (by omega), if_neg (by omega)]
      exact hK j (by omega)

theorem behind_le : ∀ (n p : Nat) (w : Int) (st : St), s.size - p ≤ n → p ≤ (behind s p w st).1 ∧ (p ≤ s.size → (behind s p w st).1 ≤ s.size) := by
  intro n
  induction n with
  | zero =>
    intro p w st h
    cases hd : isD s p with
    | true => have := isD_lt hd; omega
    | false => rw [behind_no hd]; exact ⟨Nat.le_refl _, fun h => h⟩
  | succ n ih =>
    intro p w st h
    cases hd : isD s p with
    | true => have := isD_lt hd; rw [behind_yes hd]; have := ih (p + 1) (w / 10) (addw st (dgt s p * (w / 10))) (by omega); omega
    | false => rw [behind_no hd]; exact ⟨Nat.le_refl _, fun h => h⟩

/-- The weight of the digit at a place behind the point. -/
def wt (q : Nat) : Int := if q ≤ 6 then pw (6 - q) else 0
theorem wt_div (q : Nat) : wt q / 10 = wt (q + 1) := by
  unfold wt
  by_cases h : q < 6
  · rw [if_pos (by omega), if_pos (by omega)]
    have : 6 - q = (6 - (q + 1)) + 1 := by omega
    rw [this]
    simp only [pw]; omega
  · rw [if_neg (show ¬ q + 1 ≤ 6 by omega)]
    by_cases h6 : q = 6
    · subst h6; decide
    · rw [if_neg (by omega)]; rfl

theorem behind_ref (hs : s.size ≤ 300) : ∀ (n p m q : Nat) (d : List Int) (st : St), s.size - p ≤ n → Dg d → StOk st (val d * pw (6 - q)) → d.length ≤ p → m ≤ p → q ≤ p →
    ∃ d' q', Dg d' ∧ StOk (behind s p (wt q) st).2 (val d' * pw (6 - q')) ∧ d'.length ≤ (behind s p (wt q) st).1 ∧ q' ≤ (behind s p (wt q) st).1 ∧ isD s (behind s p (wt q) st).1 = false ∧
      ∀ R, Ev (fun k => aukletref01_Parse.l1 k s ((behind s p (wt q) st).1 : Int) d' (q' : Int) ((m + ((behind s p (wt q) st).1 - p) : Nat) : Int) mi) R → Ev (fun k => aukletref01_Parse.l1 k s (p : Int) d (q : Int) (m : Int) mi) R := by
  intro n
  induction n with
  | zero =>
    intro p m q d st hn hg hst hl hm hq
    have hd : isD s p = false := by unfold isD; rw [decide_eq_false (by omega)]; rfl
    rw [behind_no hd]
    exact ⟨d, q, hg, hst, hl, hq, hd, fun R hR => by simpa using hR⟩
  | succ n ih =>
    intro p m q d st hn hg hst hl hm hq
    cases hd : isD s p with
    | false =>
      rw [behind_no hd]
      exact ⟨d, q, hg, hst, hl, hq, hd, fun R hR => by simpa using hR⟩
    | true =>
      obtain ⟨hp, h48, h57⟩ := isD_lt hd
      have hg0 : 0 ≤ dgt s p ∧ dgt s p ≤ 9 := by unfold dgt; omega
      have hle := behind_le s (s.size - (p + 1)) (p + 1) (wt (q + 1)) (addw st (dgt s p * wt (q + 1))) (Nat.le_refl _)
      rw [behind_yes hd, wt_div]
      obtain ⟨dn, hdn⟩ : ∃ dn, dn = if q < 6 then dgt s p :: d else d := ⟨_, rfl⟩
      have hgn : Dg dn := by rw [hdn]; split; exact dgCons hg hg0.1 hg0.2; exact hg
      have hln : dn.length ≤ p + 1 := by
        rw [hdn]
        by_cases h6 : q < 6
        · rw [if_pos h6, List.length_cons]; omega
        · rw [if_neg h6]; omega
      have hst' : StOk (addw st (dgt s p * wt (q + 1))) (val dn * pw (6 - (q + 1))) := by
        by_cases h6 : q < 6
        · have hwt : wt (q + 1) = pw (6 - (q + 1)) := by unfold wt; rw [if_pos (by omega)]
          have hpp := pw_pos (6 - (q + 1))
          have := hst.addw (x := dgt s p * wt (q + 1)) (by rw [hwt]; exact Int.mul_nonneg hg0.1 (by omega))
          have e : val d * pw (6 - q) + dgt s p * wt (q + 1) = val dn * pw (6 - (q + 1)) := by
            rw [hdn, if_pos h6, hwt]
            have : 6 - q = (6 - (q + 1)) + 1 := by omega
            rw [this]
            simp only [val, pw]
            rw [Int.add_mul, Int.mul_assoc 10, Int.mul_left_comm (val d) 10]; omega
          rw [e] at this
          exact this
        · have hwt : wt (q + 1) = 0 := by unfold wt; rw [if_neg (by omega)]
          have := hst.addw (x := dgt s p * wt (q + 1)) (by rw [hwt]; omega)
          have e : val d * pw (6 - q) + dgt s p * wt (q + 1) = val dn * pw (6 - (q + 1)) := by
            rw [hdn, if_neg h6, hwt]
            have : 6 - q = 6 - (q + 1) := by omega
            rw [this]; omega
          rw [e] at this
          exact this
      obtain ⟨d', q', i1, i2, i3, i4, i5, i6⟩ := ih (p + 1) (m + 1) (q + 1) dn _ (by omega) hgn hst' hln (by omega) (by omega)
      refine ⟨d', q', i1, i2, i3, i4, i5, fun R hR => ?_⟩
      have e : m + ((behind s (p + 1) (wt (q + 1)) (addw st (dgt s p * wt (q + 1)))).1 - p) = m + 1 + ((behind s (p + 1) (wt (q + 1)) (addw st (dgt s p * wt (q + 1)))).1 - (p + 1)) := by omega
      rw [e] at hR
      obtain ⟨K, hK⟩ := i6 R hR
      refine ⟨K + 2, fun k hk => ?_⟩
      obtain ⟨j, rfl⟩ : ∃ j, k = j + 2 := ⟨k - 2, by omega⟩
      simp only
      have hK' := hK j (by omega)
      simp only at hK'
      have e2 : ((q + 1 : Nat) : Int) = (q : Int) + 1 := by omega
      rw [e2, hdn] at hK'
      rw [l1_digit s mi p m d (q : Int) hd hs (by omega) (by omega) (by omega) (by omega)]
      by_cases h6 : q < 6
      · rw [if_pos h6] at hK'
        rw [if_pos (by omega), if_pos (by omega)]; exact hK'
      · rw [if_neg h6] at hK'
        rw [if_neg (by omega)]; exact hK'

theorem sk_ref (hs : s.size ≤ 300) (R : Int × Int × Int) : ∀ (n p : Nat), s.size - p ≤ n → p ≤ 400 → Ev (fun k => aukletref01_Parse.j1 k s (sk s p : Int)) R → Ev (fun k => aukletref01_Parse.l0 k s (p : Int)) R := by
  intro n
  induction n with
  | zero =>
    intro p hn hp hR
    have hb : isB s p = false := by unfold isB; rw [decide_eq_false (by omega)]; rfl
    rw [sk_no hb] at hR
    refine Ev.step (f := fun k => aukletref01_Parse.j1 k s (p : Int)) (fun k => ?_) hR
    simp only [aukletref01_Parse.l0]
    rw [if_neg (by omega)]
  | succ n ih =>
    intro p hn hp hR
    cases hb : isB s p with
    | false =>
      rw [sk_no hb] at hR
      refine Ev.step (f := fun k => aukletref01_Parse.j1 k s (p : Int)) (fun k => ?_) hR
      simp only [aukletref01_Parse.l0]
      by_cases hps : p < s.size
      · have hb' : by_ s p ≠ 32 ∧ by_ s p ≠ 9 ∧ by_ s p ≠ 10 := by
          simp only [isB, decide_eq_true hps, Bool.true_and, Bool.or_eq_false_iff, beq_eq_false_iff_ne] at hb
          exact ⟨hb.1.1, hb.1.2, hb.2⟩
        rw [if_pos (by omega), if_pos (by omega), bt_by hps, if_neg (by omega), if_neg (by omega), if_neg (by omega)]
      · rw [if_neg (by omega)]
    | true =>
      have hps : p < s.size := by
        simp [isB] at hb; exact hb.1
      have hb' : by_ s p = 32 ∨ by_ s p = 9 ∨ by_ s p = 10 := by
        simp only [isB, decide_eq_true hps, Bool.true_and, Bool.or_eq_true, beq_iff_eq] at hb
        rcases hb with (h | h) | h
        · exact .inl h
        · exact .inr (.inl h)
        · exact .inr (.inr h)
      rw [sk_yes hb] at hR
      refine Ev.step (f := fun k => aukletref01_Parse.l0 k s ((p + 1 : Nat) : Int)) (fun k => ?_) (ih (p + 1) (by omega) (by omega) hR)
      simp only [aukletref01_Parse.l0]
      rw [if_pos (by omega), if_pos (by omega), bt_by hps, (wrap_in (x := (p : Int) + 1) (by omega) (by omega)).trans (show (p : Int) + 1 = ((p + 1 : Nat) : Int) by omega)]
      rcases hb' with h | h | h
      · rw [if_pos (by omega)]
      · rw [if_neg (by omega), if_pos (by omega)]
      · rw [if_neg (by omega), if_neg (by omega), if_pos (by omega)]
end

/-- The number that was read, with its sign, or the error; the place. -/
theorem sgn_st {st : St} {V : Int} (h : StOk st V) (m : Bool) (p : Int) : (if st.2 = true then ((0 : Int), p, (10 : Int)) else ((sgn st.1 m).1, p, (sgn st.1 m).2)) = ((bk (if m = true then -V else V)).1, p, (bk (if m = true then -V else V)).2) := by
  obtain ⟨h0, h1, h2, h3, h4⟩ := h
  cases hs : st.2 with
  | true =>
    have := h4 hs
    rw [if_pos rfl]
    unfold bk
    rw [if_neg (by split <;> omega)]
  | false =>
    rw [if_neg (by simp), h3 hs, sgn_bk V m h0]

theorem j1_ref (s : ByteArray) (hs : s.size ≤ 300) (R : Int × Int × Int) (h : Ev (fun k => aukletref01_Parse.l1 k s (from_ s : Int) [] (-1) 0 (isMinus s (sk s 0))) R) : Ev (fun k => aukletref01_Parse.j1 k s (sk s 0 : Int)) R := by
  obtain ⟨K, hK⟩ := h
  refine ⟨K + 3, fun k hk => ?_⟩
  obtain ⟨j, rfl⟩ : ∃ j, k = j + 3 := ⟨k - 3, by omega⟩
  have hk1 := hK j (by omega)
  simp only at hk1 ⊢
  rw [← hk1]
  unfold from_
  generalize sk s 0 = p
  simp only [aukletref01_Parse.j1]
  by_cases hp : p < s.size
  · have e1 : wrap64 ((p : Int) + 1) = ((p + 1 : Nat) : Int) := (wrap_in (by omega) (by omega)).trans (by omega)
    rw [if_pos (show (p : Int) < (s.size : Int) by omega), if_pos (show (0 : Int) ≤ (p : Int) by omega), bt_by hp]
    by_cases h1 : by_ s p = 45
    · have hm : isMinus s p = true := by simp [isMinus, hp, h1]
      rw [if_pos (show (by_ s p : Int) = 45 by rw [h1]; rfl)]
      simp only [aukletref01_Parse.j2]
      rw [if_pos trivial, if_pos (show (0 : Int) ≤ (p : Int) from Int.natCast_nonneg _), if_pos (show (p : Int) < (s.size : Int) from Int.ofNat_lt.2 hp), bt_by hp, e1]
      simp only [aukletref01_Parse.j3]
      rw [hm, Bool.true_or, if_pos rfl, h1]; rfl
    · have hm : isMinus s p = false := by simp [isMinus, h1]
      rw [if_neg (show ¬ (by_ s p : Int) = 45 from fun h => h1 (Int.ofNat_inj.1 h))]
      by_cases h2 : by_ s p = 43
      · have hpl : isPlus s p = true := by simp [isPlus, hp, h2]
        simp only [aukletref01_Parse.j2]
        rw [h2, if_pos (by decide), if_pos (show (0 : Int) ≤ (p : Int) from Int.natCast_nonneg _), if_pos (show (p : Int) < (s.size : Int) from Int.ofNat_lt.2 hp), bt_by hp, e1]
        simp only [aukletref01_Parse.j3]
        rw [hm, hpl, Bool.or_true, if_pos rfl, h2]; rfl
      · have hpl : isPlus s p = false := by simp [isPlus, h2]
        simp only [aukletref01_Parse.j2]
        have e2 : ((by_ s p : Int) == 43) = false := beq_eq_false_iff_ne.2 (fun h => h2 (Int.ofNat_inj.1 h))
        rw [e2, if_neg (by simp)]
        simp only [aukletref01_Parse.j3]
        rw [hm, hpl, Bool.or_false, if_neg (by simp)]
  · have hm : isMinus s p = false := by unfold isMinus; rw [decide_eq_false hp]; rfl
    have hpl : isPlus s p = false := by unfold isPlus; rw [decide_eq_false hp]; rfl
    rw [if_neg (by omega)]
    simp only [aukletref01_Parse.j2]
    rw [if_neg (by simp)]
    simp only [aukletref01_Parse.j3]
    rw [hm, hpl, Bool.or_false, if_neg (by simp)]

theorem parse_ref (s : ByteArray) (hs : s.size ≤ 300) : Ev (fun k => aukletref01_Parse.f k s) (parseV s) := by
  have hsk := sk_le s s.size 0 (by omega) (by omega)
  unfold aukletref01_Parse.f
  refine sk_ref s hs _ s.size 0 (by omega) (by omega) (j1_ref s hs _ ?_)
  have hfr : from_ s ≤ s.size := by
    unfold from_
    split
    · rename_i h
      have : sk s 0 < s.size := by
        apply Decidable.byContradiction
        intro hn
        simp [isMinus, isPlus, hn] at h
      omega
    · exact hsk
  generalize hmi : isMinus s (sk s 0) = mi
  obtain ⟨d', i1, i2, i3, i4, i5⟩ := ahead_ref s mi hs s.size (from_ s) 0 [] (0, false) (by omega) Dg.nil (by simp [StOk, val]) (by simp) (by omega)
  have hal := ahead_le s s.size (from_ s) (0, false) (by omega)
  refine i5 _ ?_
  rw [Nat.zero_add]
  unfold parseV digits
  simp only [hmi]
  generalize from_ s = f0 at *
  generalize Giv.ahead s f0 (0, false) = A at *
  obtain ⟨p, st⟩ := A
  simp only at *
  cases hdot : isDot s p with
  | false =>
    simp only [Bool.false_and, Bool.false_eq_true, if_false]
    by_cases hz : p - f0 = 0
    · rw [if_pos hz, hz]
      refine ⟨2, fun k hk => ?_⟩
      obtain ⟨j, rfl⟩ : ∃ j, k = j + 2 := ⟨k - 2, by omega⟩
      simp only
      rw [l1_end s mi p 0 d' (-1) i4 (.inl hdot), if_pos (by rfl)]
    · rw [if_neg hz, sgn_st i2]
      obtain ⟨K, hK⟩ := l2_none mi p d' i1 (by omega)
      refine ⟨K + 2, fun k hk => ?_⟩
      obtain ⟨j, rfl⟩ : ∃ j, k = j + 2 := ⟨k - 2, by omega⟩
      simp only
      rw [l1_end s mi p (p - f0) d' (-1) i4 (.inl hdot), if_neg (by omega)]
      exact hK j (by omega)
  | true =>
    have hps : p < s.size := by simp [isDot] at hdot; exact hdot.1
    have heq : decide (p ≠ f0) = decide (p - f0 ≠ 0) := decide_eq_decide.2 ⟨fun h => by omega, fun h => by omega⟩
    by_cases hc : (decide (p - f0 ≠ 0) || isD s (p + 1)) = true
    · rw [heq, hc]
      simp only [Bool.and_self, if_true]
      have i2' : StOk st (val d' * pw (6 - 0)) := by
        have e6 : pw (6 - 0) = 1000000 := by decide
        rw [e6]; exact i2
      obtain ⟨d2, q2, b1, b2, b3, b4, b5, b6⟩ := behind_ref s mi hs s.size (p + 1) (p - f0) 0 d' st (by omega) i1 i2' (by omega) (by omega) (by omega)
      have hbl := behind_le s s.size (p + 1) (wt 0) st (by omega)
      have ewt : wt 0 = 1000000 := by decide
      rw [ewt] at b2 b3 b4 b5 b6 hbl
      have hstep : ∀ R, Ev (fun k => aukletref01_Parse.l1 k s ((p + 1 : Nat) : Int) d' ((0 : Nat) : Int) ((p - f0 : Nat) : Int) mi) R → Ev (fun k => aukletref01_Parse.l1 k s (p : Int) d' (-1) ((p - f0 : Nat) : Int) mi) R := fun R hR => by
        obtain ⟨K, hK⟩ := hR
        refine ⟨K + 2, fun k hk => ?_⟩
        obtain ⟨j, rfl⟩ : ∃ j, k = j + 2 := ⟨k - 2, by omega⟩
        simp only
        rw [l1_dot s mi p (p - f0) d' hdot hs (by omega), if_pos hc]
        exact hK j (by omega)
      refine hstep _ (b6 _ ?_)
      have hcnt : p - f0 + ((behind s (p + 1) 1000000 st).1 - (p + 1)) = 0 → False := fun h => by
        rw [Bool.or_eq_true, decide_eq_true_eq] at hc
        rcases hc with hc | hc
        · omega
        · have h1 := behind_yes (w := 1000000) (st := st) hc
          have h2 := behind_le s s.size (p + 1 + 1) (1000000 / 10) (addw st (dgt s (p + 1) * (1000000 / 10))) (by omega)
          rw [← h1] at h2
          omega
      rw [if_neg (fun h => hcnt h), sgn_st b2]
      generalize behind s (p + 1) 1000000 st = B at *
      obtain ⟨p2, st2⟩ := B
      simp only at *
      obtain ⟨K, hK⟩ := l2_end mi p2 6 d2 q2 (by omega) b1 (by omega) (by omega)
      refine ⟨K + 2, fun k hk => ?_⟩
      obtain ⟨j, rfl⟩ : ∃ j, k = j + 2 := ⟨k - 2, by omega⟩
      simp only
      rw [l1_end s mi p2 _ d2 (q2 : Int) b5 (.inr (by omega)), if_neg (fun h => hcnt (by omega))]
      exact hK j (by omega)
    · have hc' : (decide (p - f0 ≠ 0) || isD s (p + 1)) = false := by simpa using hc
      rw [heq, hc']
      simp only [Bool.and_false, Bool.false_eq_true, if_false]
      have hz : p - f0 = 0 := by
        rw [Bool.or_eq_false_iff, decide_eq_false_iff_not] at hc'
        omega
      rw [if_pos hz]
      refine ⟨2, fun k hk => ?_⟩
      obtain ⟨j, rfl⟩ : ∃ j, k = j + 2 := ⟨k - 2, by omega⟩
      simp only
      rw [l1_dot s mi p (p - f0) d' hdot hs (by omega), if_neg hc]

end Go.Proofs.YtfejcghnbimedaaDoor.Prs
