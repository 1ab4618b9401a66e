/- Numbers as lists of digits: what the reference's functions on digits come to, as whole numbers. -/
import Derived.Test.YtfejcghnbimedaaDoorPCellx3
import Derived.Test.YtfejcghnbimedaaDoorPCellx6
set_option linter.unusedVariables false
set_option linter.unusedSimpArgs false
namespace Go.Proofs.YtfejcghnbimedaaDoor.Dig
open Go.RowKit Go.Proofs.YtfejcghnbimedaaDoor.PCell Go.Proofs.YtfejcghnbimedaaDoorW.PrintWords Go.Proofs.YtfejcghnbimedaaDoorW.PrintLast

theorem wrap_in {x : Int} (h0 : -9223372036854775808 ≤ x) (h1 : x ≤ 9223372036854775807) : wrap64 x = x := by unfold wrap64; omega

/-- 10 to the n. -/
def pw : Nat → Int
  | 0 => 1
  | n + 1 => 10 * pw n
theorem pw_pos : ∀ n, 1 ≤ pw n
  | 0 => by simp [pw]
  | n + 1 => by have := pw_pos n; simp only [pw]; omega

def val : List Int → Int
  | [] => 0
  | d :: L => d + 10 * val L
def Dg (L : List Int) : Prop := ∀ d, d ∈ L → 0 ≤ d ∧ d ≤ 9
/-- The last digit is not 0. -/
def Nm (L : List Int) : Prop := ∀ M d, L = M ++ [d] → d ≠ 0

theorem Dg.nil : Dg [] := fun d h => by cases h
theorem Dg.tail {d : Int} {L : List Int} (h : Dg (d :: L)) : Dg L := fun x hx => h x (List.mem_cons_of_mem _ hx)
theorem Dg.head {d : Int} {L : List Int} (h : Dg (d :: L)) : 0 ≤ d ∧ d ≤ 9 := h d List.mem_cons_self
theorem Dg.snoc {d : Int} {L : List Int} (h : Dg L) (h0 : 0 ≤ d) (h9 : d ≤ 9) : Dg (L ++ [d]) := fun x hx => by
  rcases List.mem_append.1 hx with h1 | h1
  · exact h x h1
  · rw [List.mem_singleton.1 h1]; exact ⟨h0, h9⟩
theorem Dg.take {L : List Int} (h : Dg L) (n : Nat) : Dg (L.take n) := fun x hx => h x (List.mem_of_mem_take hx)
theorem Dg.drop {L : List Int} (h : Dg L) (n : Nat) : Dg (L.drop n) := fun x hx => h x (List.mem_of_mem_drop hx)
theorem Dg.get {L : List Int} (h : Dg L) (i : Nat) : 0 ≤ L.getD i 0 ∧ L.getD i 0 ≤ 9 := by
  by_cases hi : i < L.length
  · have e : L.getD i 0 = L[i] := by simp [List.getD, hi]
    rw [e]
    exact h _ (List.getElem_mem hi)
  · have e : L.getD i 0 = 0 := by simp [List.getD, List.getElem?_eq_none (Nat.le_of_not_lt hi)]
    rw [e]; omega

theorem val_nonneg : ∀ {L : List Int}, Dg L → 0 ≤ val L
  | [], _ => by simp [val]
  | d :: L, h => by have := val_nonneg h.tail; have := h.head; simp only [val]; omega
theorem val_lt : ∀ {L : List Int}, Dg L → val L < pw L.length
  | [], _ => by simp [val, pw]
  | d :: L, h => by have := val_lt h.tail; have := h.head; simp only [val, List.length_cons, pw]; omega
theorem val_append : ∀ L M : List Int, val (L ++ M) = val L + pw L.length * val M
  | [], M => by simp [val, pw]
  | d :: L, M => by
    have := val_append L M
    simp only [List.cons_append, val, List.length_cons, pw]
    rw [this, Int.mul_add, Int.mul_assoc, Int.add_assoc]
theorem val_snoc (L : List Int) (d : Int) : val (L ++ [d]) = val L + pw L.length * d := by
  rw [val_append]; simp [val]
theorem val_drop (L : List Int) (i : Nat) : val (L.drop i) = L.getD i 0 + 10 * val (L.drop (i + 1)) := by
  by_cases hi : i < L.length
  · rw [List.drop_eq_getElem_cons hi]
    simp [val, List.getD, hi]
  · rw [List.drop_eq_nil_of_le (Nat.le_of_not_lt hi), List.drop_eq_nil_of_le (by omega)]
    simp [val, List.getD, List.getElem?_eq_none (Nat.le_of_not_lt hi)]
theorem val_take_succ (L : List Int) (n : Nat) : val (L.take (n + 1)) = val (L.take n) + pw n * L.getD n 0 := by
  by_cases hi : n < L.length
  · have e : L.take (n + 1) = L.take n ++ [L.getD n 0] := by
      rw [List.take_add_one]; simp [List.getD, hi]
    rw [e, val_snoc, List.length_take, Nat.min_eq_left (by omega)]
  · rw [List.take_of_length_le (by omega), List.take_of_length_le (by omega)]
    simp [List.getD, List.getElem?_eq_none (Nat.le_of_not_lt hi)]
theorem pw_le {m n : Nat} (h : m ≤ n) : pw m ≤ pw n := by
  induction h with
  | refl => exact Int.le_refl _
  | step _ ih => simp only [pw]; have := pw_pos m; omega

theorem digit_f (L : List Int) (i : Nat) : aukletref01_digit.f L (i : Int) = some (L.getD i 0) := by
  unfold aukletref01_digit.f
  by_cases hi : i < L.length
  · rw [if_pos (by omega), if_pos (by omega)]; rfl
  · rw [if_neg (by omega)]
    simp [List.getD, List.getElem?_eq_none (Nat.le_of_not_lt hi)]
theorem rd_nat (L : List Int) (i : Nat) : rd L (i : Int) = L.getD i 0 := rfl

theorem ev_of_le {α : Type} {g : Nat → Option α} {r : α} (K : Nat) (h : ∀ k, g (k + K) = some r) : Ev g r :=
  ⟨K, fun k hk => by obtain ⟨m, rfl⟩ : ∃ m, k = m + K := ⟨k - K, by omega⟩; exact h m⟩

/-! ### trim -/
theorem trim_ev : ∀ (n : Nat) (L : List Int), L.length = n → n ≤ 2000000 → ∃ T, Ev (fun k => aukletref01_trim.f k L) T ∧ (Dg L → Dg T) ∧ val T = val L ∧ T.length ≤ L.length ∧ Nm T := by
  intro n
  induction n with
  | zero =>
    intro L hL _
    have : L = [] := List.eq_nil_of_length_eq_zero hL
    subst this
    refine ⟨[], ev_of_le 1 (fun k => ?_), id, rfl, Nat.le_refl _, fun M d h => by simp at h⟩
    show aukletref01_trim.l0 (k + 1) [] = _
    simp only [aukletref01_trim.l0]
    rw [if_neg (by simp)]
  | succ n ih =>
    intro L hL hn
    have hw : wrap64 ((L.length : Int) - 1) = (n : Int) := by rw [hL]; exact (wrap_in (by omega) (by omega)).trans (by omega)
    have hstep : ∀ k, aukletref01_trim.l0 (k + 1) L = if L.getD n 0 = 0 then aukletref01_trim.l0 k (L.take n) else some L := fun k => by
      simp only [aukletref01_trim.l0]
      rw [hw, if_pos (by omega), if_pos (by omega), if_pos (by omega), rd_nat]
      by_cases h : L.getD n 0 = 0
      · rw [if_pos h, if_pos h, if_pos (by omega)]; rfl
      · rw [if_neg h, if_neg h]
    have hd : L = L.take n ++ [L.getD n 0] := by
      have : L.take (n + 1) = L.take n ++ [L.getD n 0] := by
        rw [List.take_add_one]; simp [List.getD, hL]
      rw [← this, List.take_of_length_le (by omega)]
    by_cases h : L.getD n 0 = 0
    · obtain ⟨T, h1, h2, h3, h4, h5⟩ := ih (L.take n) (by rw [List.length_take]; omega) (by omega)
      refine ⟨T, ?_, fun hg => h2 (hg.take n), ?_, by rw [List.length_take] at h4; omega, h5⟩
      · exact Ev.step (f := fun k => aukletref01_trim.l0 k (L.take n)) (fun k => by show aukletref01_trim.l0 (k + 1) L = _; rw [hstep, if_pos h]) h1
      · rw [h3]
        have hv : val L = val (L.take n ++ [L.getD n 0]) := by rw [← hd]
        rw [hv, h, val_snoc]; omega
    · refine ⟨L, ?_, id, rfl, Nat.le_refl _, fun M d hM => ?_⟩
      · exact ev_of_le 1 (fun k => by show aukletref01_trim.l0 (k + 1) L = _; rw [hstep, if_neg h])
      · rw [hM] at hd
        have := (List.append_inj' hd rfl).2
        injection this with this
        rw [this, ← hM]; exact h
theorem trim_spec (L : List Int) (hn : L.length ≤ 2000000) : ∃ T, Ev (fun k => aukletref01_trim.f k L) T ∧ (Dg L → Dg T) ∧ val T = val L ∧ T.length ≤ L.length ∧ Nm T := trim_ev L.length L rfl hn

/-! ### less -/
theorem less_loop (a b : List Int) (ha : Dg a) (hb : Dg b) : ∀ n : Nat, n ≤ 3000000 → Ev (fun k => aukletref01_less.l0 k a b ((n : Int) - 1)) (decide (val (a.take n) < val (b.take n))) := by
  intro n
  induction n with
  | zero =>
    intro _
    refine ev_of_le 1 (fun k => ?_)
    simp only [aukletref01_less.l0]
    rw [if_neg (by omega)]
    simp [val]
  | succ n ih =>
    intro hn
    have e : ((n + 1 : Nat) : Int) - 1 = (n : Int) := by omega
    have hw : wrap64 ((n : Int) - 1) = (n : Int) - 1 := wrap_in (by omega) (by omega)
    have hstep : ∀ k, aukletref01_less.l0 (k + 1) a b (((n + 1 : Nat) : Int) - 1) = if a.getD n 0 = b.getD n 0 then aukletref01_less.l0 k a b ((n : Int) - 1) else some (decide (a.getD n 0 < b.getD n 0)) := fun k => by
      rw [e]
      simp only [aukletref01_less.l0]
      rw [if_pos (by omega), digit_f, digit_f]
      simp only [Option.bind_some]
      rw [hw]
    rw [val_take_succ, val_take_succ]
    by_cases h : a.getD n 0 = b.getD n 0
    · refine Ev.step (f := fun k => aukletref01_less.l0 k a b ((n : Int) - 1)) (fun k => by rw [hstep, if_pos h]) ?_
      have e2 : (val (a.take n) + pw n * a.getD n 0 < val (b.take n) + pw n * b.getD n 0) = (val (a.take n) < val (b.take n)) := by rw [h]; exact propext ⟨fun _ => by omega, fun _ => by omega⟩
      simp only [e2]
      exact ih (by omega)
    · refine ev_of_le 1 (fun k => ?_)
      show aukletref01_less.l0 (k + 1) a b _ = _
      rw [hstep, if_neg h]
      congr 1
      have h1 := val_lt (ha.take n)
      have h2 := val_lt (hb.take n)
      have h3 := val_nonneg (ha.take n)
      have h4 := val_nonneg (hb.take n)
      have p1 : pw (a.take n).length ≤ pw n := pw_le (by rw [List.length_take]; omega)
      have p2 : pw (b.take n).length ≤ pw n := pw_le (by rw [List.length_take]; omega)
      have p0 := pw_pos n
      rw [Bool.eq_iff_iff, decide_eq_true_iff, decide_eq_true_iff]
      generalize a.getD n 0 = x at *
      generalize b.getD n 0 = y at *
      rcases Int.lt_or_lt_of_ne h with hlt | hlt
      · have := Int.mul_le_mul_of_nonneg_left (show x + 1 ≤ y by omega) (show 0 ≤ pw n by omega)
        rw [Int.mul_add] at this
        exact ⟨fun _ => by omega, fun _ => hlt⟩
      · have := Int.mul_le_mul_of_nonneg_left (show y + 1 ≤ x by omega) (show 0 ≤ pw n by omega)
        rw [Int.mul_add] at this
        exact ⟨fun h => by omega, fun _ => by omega⟩
theorem less_spec {a b : List Int} (ha : Dg a) (hb : Dg b) (la : a.length ≤ 1000000) (lb : b.length ≤ 1000000) : Ev (fun k => aukletref01_less.f k a b) (decide (val a < val b)) := by
  have h := less_loop a b ha hb (a.length + b.length + 1) (by omega)
  rw [List.take_of_length_le (by omega), List.take_of_length_le (by omega)] at h
  have e : wrap64 ((a.length : Int) + (b.length : Int)) = ((a.length + b.length + 1 : Nat) : Int) - 1 := (wrap_in (by omega) (by omega)).trans (by omega)
  unfold aukletref01_less.f
  rw [e]
  exact h

def sv (m : Bool) (L : List Int) : Int := if m = true then - val L else val L
def ab (x : Int) : Int := if x < 0 then -x else x
theorem of_loop (m : Bool) : ∀ (n : Nat) (x : Int) (out : List Int), ab x < pw n → -9223372036854775808 ≤ x → x ≤ 9223372036854775807 → Dg out → out.length + n ≤ 1000 → (x = 0 → Nm out) →
    ∃ L, Ev (fun k => aukletref01_Of.l0 k x m out) (m, L) ∧ Dg L ∧ Nm L ∧ val L = val out + pw out.length * ab x ∧ L.length ≤ out.length + n := by
  intro n
  induction n with
  | zero =>
    intro x out hx _ _ hg hl hn
    have h0 : x = 0 := by unfold ab at hx; simp only [pw] at hx; split at hx <;> omega
    subst h0
    refine ⟨out, ev_of_le 1 (fun k => ?_), hg, hn rfl, by simp [ab], by omega⟩
    simp only [aukletref01_Of.l0]
    rw [if_pos trivial]
  | succ n ih =>
    intro x out hx h1 h2 hg hl hn
    by_cases h0 : x = 0
    · subst h0
      refine ⟨out, ev_of_le 1 (fun k => ?_), hg, hn rfl, by simp [ab], by omega⟩
      simp only [aukletref01_Of.l0]
      rw [if_pos trivial]
    · have hll : out.length < 17592186044416 := by omega
      obtain ⟨y, hy⟩ : ∃ y, y = Int.tdiv x 10 := ⟨_, rfl⟩
      have hdm : ab x = ab y * 10 + ab (Int.tmod x 10) ∧ ab (Int.tmod x 10) ≤ 9 ∧ 0 ≤ ab (Int.tmod x 10) ∧ (x < 0 → Int.tmod x 10 ≤ 0) ∧ (0 ≤ x → 0 ≤ Int.tmod x 10) := by
        rw [hy]
        unfold ab
        by_cases hneg : x < 0
        · obtain ⟨z, rfl⟩ : ∃ z, x = -z := ⟨-x, by omega⟩
          rw [Int.neg_tdiv, Int.neg_tmod, Int.tdiv_eq_ediv_of_nonneg (by omega), Int.tmod_eq_emod_of_nonneg (by omega)]
          rw [if_pos hneg]
          refine ⟨?_, ?_, ?_, ?_, ?_⟩ <;> (repeat' split) <;> omega
        · rw [Int.tdiv_eq_ediv_of_nonneg (by omega), Int.tmod_eq_emod_of_nonneg (by omega)]
          rw [if_neg hneg]
          refine ⟨?_, ?_, ?_, ?_, ?_⟩ <;> (repeat' split) <;> omega
      have hyr : -9223372036854775808 ≤ y ∧ y ≤ 9223372036854775807 := by
        have := hdm.1
        unfold ab at this
        repeat' split at this
        all_goals omega
      have hstep : ∀ k, aukletref01_Of.l0 (k + 1) x m out = aukletref01_Of.l0 k y m (out ++ [ab (Int.tmod x 10)]) := fun k => by
        simp only [aukletref01_Of.l0]
        rw [if_neg h0, ← hy, wrap_in hyr.1 hyr.2]
        have h9 := hdm.2.1
        unfold ab at h9 ⊢
        by_cases hneg : Int.tmod x 10 < 0
        · rw [if_pos hneg] at h9
          rw [if_pos hneg, if_pos hneg, if_pos hll, wrap_in (by omega) (by omega)]
        · rw [if_neg hneg, if_neg hneg, if_pos hll]
      obtain ⟨L, e1, e2, e3, e4, e5⟩ := ih y (out ++ [ab (Int.tmod x 10)]) (by have := hdm.1; have := hdm.2.2.1; simp only [pw] at hx; omega) hyr.1 hyr.2 (hg.snoc hdm.2.2.1 hdm.2.1) (by simp; omega) (fun hy0 M d hM => by
        have := (List.append_inj' hM rfl).2
        injection this with this
        rw [← this]
        have h3 := hdm.1
        rw [hy0] at h3
        have : ab x ≠ 0 := by unfold ab; split <;> omega
        simp only [ab] at h3
        simp only [ab] at this ⊢
        omega)
      refine ⟨L, Ev.step (f := fun k => aukletref01_Of.l0 k y m (out ++ [ab (Int.tmod x 10)])) (fun k => hstep k) e1, e2, e3, ?_, by simp at e5; omega⟩
      rw [e4, val_snoc, hdm.1]
      simp only [List.length_append, List.length_cons, List.length_nil, Nat.zero_add, pw]
      rw [Int.mul_add, Int.mul_assoc, Int.mul_left_comm, Int.mul_comm (ab y) 10, Int.mul_left_comm (pw out.length) 10]
      omega
theorem Of_spec (x : Int) (h1 : -9223372036854775808 ≤ x) (h2 : x ≤ 9223372036854775807) : ∃ L, Ev (fun k => aukletref01_Of.f k x) (decide (x < 0), L) ∧ Dg L ∧ Nm L ∧ val L = ab x ∧ sv (decide (x < 0)) L = x ∧ L.length ≤ 19 := by
  obtain ⟨L, e1, e2, e3, e4, e5⟩ := of_loop (decide (x < 0)) 19 x [] (by simp only [pw]; unfold ab; split <;> omega) h1 h2 Dg.nil (by simp) (fun _ M d h => by simp at h)
  have hv : val L = ab x := by rw [e4]; simp [val, pw]
  refine ⟨L, e1, e2, e3, hv, ?_, by simpa using e5⟩
  unfold sv
  rw [hv]
  unfold ab
  by_cases h : x < 0
  · simp [h]
  · simp [h]

/-! ### Back -/
/-- What an int64 can hold, else the error. -/
def bk (x : Int) : Int × Int := if -9223372036854775808 ≤ x ∧ x ≤ 9223372036854775807 then (x, 0) else (0, 10)

theorem back_loop (m : Bool) (D : List Int) (hD : Dg D) (hl : D.length ≤ 1000000) (h1 : -9223372036854775808 ≤ sv m D) (h2 : sv m D ≤ 9223372036854775807) : ∀ n : Nat, n ≤ D.length → Ev (fun k => aukletref01_Back.l0 k (sv m (D.drop n)) ((n : Int) - 1) m D) (sv m D, 0) := by
  have hmono : ∀ n, val (D.drop n) ≤ val D := by
    intro n
    induction n with
    | zero => simp
    | succ n ih =>
      have := val_drop D n
      have := hD.get n
      have := val_nonneg (hD.drop (n + 1))
      omega
  intro n
  induction n with
  | zero =>
    intro _
    refine ev_of_le 1 (fun k => ?_)
    simp only [aukletref01_Back.l0]
    rw [if_neg (by omega)]
    simp
  | succ n ih =>
    intro hn
    have e : ((n + 1 : Nat) : Int) - 1 = (n : Int) := by omega
    have hd := val_drop D n
    have hg := hD.get n
    have hm := hmono n
    have hz := val_nonneg (hD.drop (n + 1))
    refine Ev.step (f := fun k => aukletref01_Back.l0 k (sv m (D.drop n)) ((n : Int) - 1) m D) (fun k => ?_) (ih (by omega))
    rw [e]
    simp only [aukletref01_Back.l0]
    rw [if_pos (by omega), wrap_in (x := (n : Int) - 1) (by omega) (by omega), rd_nat]
    cases m
    · simp only [sv, Bool.false_eq_true, if_false] at h1 h2 ⊢
      rw [if_pos (by omega), if_pos (by omega), wrap_in (x := val (D.drop (n + 1)) * 10) (by omega) (by omega), wrap_in (by omega) (by omega), hd, Int.mul_comm, Int.add_comm]
    · simp only [sv, if_true] at h1 h2 ⊢
      rw [if_pos (by omega), if_pos (by omega), wrap_in (x := -val (D.drop (n + 1)) * 10) (by omega) (by omega), wrap_in (by omega) (by omega), hd]
      congr 1
      omega
theorem Back_spec (m : Bool) {D : List Int} (hD : Dg D) (hl : D.length ≤ 1000000) : Ev (fun k => aukletref01_Back.f k m D) (bk (sv m D)) := by
  obtain ⟨L, e1, e2, e3, e4, e5, e6⟩ := Of_spec (-9223372036854775808) (by omega) (by omega)
  have hL : val L = 9223372036854775808 := by rw [e4]; rfl
  have l1 := less_spec e2 hD (by omega) hl
  have l2 := less_spec hD e2 hl (by omega)
  rw [hL] at l1 l2
  have hz := val_nonneg hD
  unfold aukletref01_Back.f
  refine Ev.bind (f := fun k bt136 => (aukletref01_less.f k bt136.2 D).bind fun t140 => if t140 = true then aukletref01_Back.j0 k true m D else if m = true then aukletref01_Back.j0 k false m D else (aukletref01_less.f k D bt136.2).bind fun t141 => aukletref01_Back.j0 k (!t141) m D) e1 ?_
  refine Ev.bind (f := fun k t140 => if t140 = true then aukletref01_Back.j0 k true m D else if m = true then aukletref01_Back.j0 k false m D else (aukletref01_less.f k D L).bind fun t141 => aukletref01_Back.j0 k (!t141) m D) l1 ?_
  have hloop : ∀ (h1 : -9223372036854775808 ≤ sv m D) (h2 : sv m D ≤ 9223372036854775807), Ev (fun k => aukletref01_Back.j0 k false m D) (sv m D, 0) := fun h1 h2 => by
    have := back_loop m D hD hl h1 h2 D.length (Nat.le_refl _)
    rw [List.drop_eq_nil_of_le (Nat.le_refl _)] at this
    have e0 : sv m [] = 0 := by unfold sv; split <;> simp [val]
    rw [e0] at this
    refine Ev.step (f := fun k => aukletref01_Back.l0 k 0 ((D.length : Int) - 1) m D) (fun k => ?_) this
    simp only [aukletref01_Back.j0]
    rw [if_neg (by simp), wrap_in (by omega) (by omega)]
  have hover : Ev (fun k => aukletref01_Back.j0 k true m D) (0, 10) := ev_of_le 1 (fun k => by simp only [aukletref01_Back.j0]; rw [if_pos trivial])
  by_cases h : 9223372036854775808 < val D
  · simp only [h, decide_true, if_true]
    have : bk (sv m D) = (0, 10) := by unfold bk; rw [if_neg]; unfold sv; split <;> omega
    rw [this]
    exact hover
  · simp only [h, decide_false, Bool.false_eq_true, if_false]
    cases m
    · simp only [Bool.false_eq_true, if_false]
      refine Ev.bind (f := fun k t141 => aukletref01_Back.j0 k (!t141) false D) l2 ?_
      by_cases h3 : val D < 9223372036854775808
      · simp only [h3, decide_true, Bool.not_true]
        have : bk (sv false D) = (sv false D, 0) := by unfold bk; rw [if_pos]; simp [sv]; omega
        rw [this]
        exact hloop (by simp [sv]; omega) (by simp [sv]; omega)
      · simp only [h3, decide_false, Bool.not_false]
        have : bk (sv false D) = (0, 10) := by unfold bk; rw [if_neg]; simp [sv]; omega
        rw [this]
        exact hover
    · simp only [if_true]
      have : bk (sv true D) = (sv true D, 0) := by unfold bk; rw [if_pos]; simp [sv]; omega
      rw [this]
      exact hloop (by simp [sv]; omega) (by simp [sv]; omega)

end Go.Proofs.YtfejcghnbimedaaDoor.Dig
