/- Numbers as lists of digits: the product and the quotient. -/
import Derived.Test.YtjbblmdpiapmbaaDigA
import Derived.Test.YtjbblmdpiapmbaaPDecx6
set_option linter.unusedVariables false
set_option linter.unusedSimpArgs false
namespace Go.Proofs.Ytjbblmdpiapmbaa.Dig
open Go.RowKit Go.Proofs.Ytjbblmdpiapmbaa.PDec Go.Proofs.YtjbblmdpiapmbaaW.PrintWords Go.Proofs.YtjbblmdpiapmbaaW.PrintLast

theorem Dg.zeros (n : Nat) : Dg (List.replicate n 0) := fun x hx => by rw [(List.mem_replicate.1 hx).2]; omega
theorem val_zeros : ∀ n, val (List.replicate n 0) = 0
  | 0 => rfl
  | n + 1 => by rw [List.replicate_succ]; simp only [val]; rw [val_zeros n]; rfl
theorem Dg.cons {d : Int} {L : List Int} (h : Dg L) (h0 : 0 ≤ d) (h9 : d ≤ 9) : Dg (d :: L) := fun x hx => by
  rcases List.mem_cons.1 hx with h1 | h1
  · rw [h1]; exact ⟨h0, h9⟩
  · exact h x h1

/-! ### Times -/
theorem times_l1 (out : List Int) (i : Nat) (am bm : Bool) (a b : List Int) (ha : Dg a) (hb : Dg b) (hi : i < a.length) (la : a.length ≤ 1000) (lb : b.length ≤ 1000) : ∃ row, Dg row ∧ val row = pw i * (a.getD i 0 * val b) ∧ row.length ≤ i + b.length + 1 ∧
    ∀ R, Ev (fun k => (aukletref01_plus.f k out row).bind fun t295 => aukletref01_Times.l0 k t295 ((i + 1 : Nat) : Int) am a bm b) R → Ev (fun k => aukletref01_Times.l1 k out (i : Int) (List.replicate i 0) 0 0 am a bm b) R := by
  have da := ha.get i
  have key : ∀ (d j : Nat) (row : List Int) (c : Int), 2 * (b.length - j) + (if 0 < c then 1 else 0) ≤ d → row.length = i + j → Dg row → 0 ≤ c → c ≤ 9 → (j : Int) + (if 0 < c then 1 else 0) ≤ b.length + 1 →
      ∃ row', Dg row' ∧ val row' = val row + pw (i + j) * (c + a.getD i 0 * val (b.drop j)) ∧ row'.length ≤ i + b.length + 1 ∧
      ∀ R, Ev (fun k => (aukletref01_plus.f k out row').bind fun t295 => aukletref01_Times.l0 k t295 ((i + 1 : Nat) : Int) am a bm b) R → Ev (fun k => aukletref01_Times.l1 k out (i : Int) row c (j : Int) am a bm b) R := by
    intro d
    induction d using Nat.strongRecOn with
    | _ d ih =>
    intro j row c hd hl hg c0 c9 hjc
    have db := hb.get j
    by_cases hgo : j < b.length ∨ 0 < c
    · have hm0 : 0 ≤ a.getD i 0 * b.getD j 0 := Int.mul_nonneg da.1 db.1
      have hm9 : a.getD i 0 * b.getD j 0 ≤ 9 * 9 := Int.mul_le_mul da.2 db.2 db.1 (by omega)
      have hstep : ∀ k, aukletref01_Times.l1 (k + 1) out (i : Int) row c (j : Int) am a bm b = aukletref01_Times.l1 k out (i : Int) (row ++ [(c + a.getD i 0 * b.getD j 0) % 10]) ((c + a.getD i 0 * b.getD j 0) / 10) ((j + 1 : Nat) : Int) am a bm b := fun k => by
        simp only [aukletref01_Times.l1]
        rw [digit_f, rd_nat]
        simp only [Option.bind_some]
        rw [if_pos (show (0 : Int) ≤ (i : Int) by omega), if_pos (show (i : Int) < (a.length : Int) by omega), if_pos (show row.length < 17592186044416 by omega)]
        rw [wrap_in (x := a.getD i 0 * b.getD j 0) (by omega) (by omega), wrap_in (x := c + a.getD i 0 * b.getD j 0) (by omega) (by omega), (wrap_in (x := (j : Int) + 1) (by omega) (by omega)).trans (show (j : Int) + 1 = ((j + 1 : Nat) : Int) by omega)]
        rw [Int.tdiv_eq_ediv_of_nonneg (by omega), Int.tmod_eq_emod_of_nonneg (by omega), wrap_in (x := (c + a.getD i 0 * b.getD j 0) / 10) (by omega) (by omega)]
        by_cases h1 : j < b.length
        · rw [if_pos (by omega)]
        · rw [if_neg (by omega), if_pos (by omega)]
      have hz : j < b.length ∨ b.getD j 0 = 0 := by
        by_cases hj : j < b.length
        · exact .inl hj
        · exact .inr (by simp [List.getD, List.getElem?_eq_none (show b.length ≤ j by omega)])
      have hc0 : 0 ≤ (c + a.getD i 0 * b.getD j 0) / 10 := by omega
      have hc9 : (c + a.getD i 0 * b.getD j 0) / 10 ≤ 9 := by omega
      have hnew : j < b.length ∨ (c + a.getD i 0 * b.getD j 0) / 10 = 0 := by
        rcases hz with h | h
        · exact .inl h
        · right; rw [h, Int.mul_zero]; omega
      obtain ⟨row', r1, r2, r3, r4⟩ := ih (2 * (b.length - (j + 1)) + (if 0 < (c + a.getD i 0 * b.getD j 0) / 10 then 1 else 0)) (by
          revert hd
          rcases hnew with h | h
          · split <;> split <;> omega
          · rw [h]; split <;> simp <;> omega) (j + 1) (row ++ [(c + a.getD i 0 * b.getD j 0) % 10]) _ (Nat.le_refl _) (by simp [hl]; omega) (hg.snoc (by omega) (by omega)) hc0 hc9 (by
          revert hjc
          rcases hnew with h | h
          · split <;> split <;> omega
          · rw [h]; split <;> simp <;> omega)
      refine ⟨row', r1, ?_, r3, fun R hR => Ev.step (f := fun k => aukletref01_Times.l1 k out (i : Int) (row ++ [(c + a.getD i 0 * b.getD j 0) % 10]) ((c + a.getD i 0 * b.getD j 0) / 10) ((j + 1 : Nat) : Int) am a bm b) hstep (r4 R hR)⟩
      rw [r2, val_snoc, hl, val_drop b j]
      have e1 : pw (i + (j + 1)) = 10 * pw (i + j) := rfl
      have e2 : a.getD i 0 * (b.getD j 0 + 10 * val (b.drop (j + 1))) = a.getD i 0 * b.getD j 0 + 10 * (a.getD i 0 * val (b.drop (j + 1))) := by rw [Int.mul_add, Int.mul_left_comm (a.getD i 0) 10]
      rw [e1, e2]
      generalize a.getD i 0 * val (b.drop (j + 1)) = u
      generalize a.getD i 0 * b.getD j 0 = v at *
      have e3 : c + (v + 10 * u) = (c + v) % 10 + 10 * ((c + v) / 10 + u) := by omega
      rw [e3, pd, Int.add_assoc]
    · refine ⟨row, hg, ?_, by omega, fun R hR => ?_⟩
      · have : c = 0 := by omega
        rw [this, List.drop_eq_nil_of_le (by omega)]; simp [val]
      · refine Ev.step (f := fun k => (aukletref01_plus.f k out row).bind fun t295 => aukletref01_Times.l0 k t295 ((i + 1 : Nat) : Int) am a bm b) (fun k => ?_) hR
        simp only [aukletref01_Times.l1]
        rw [if_neg (by omega), if_neg (by omega), (wrap_in (x := (i : Int) + 1) (by omega) (by omega)).trans (show (i : Int) + 1 = ((i + 1 : Nat) : Int) by omega)]
  obtain ⟨row, r1, r2, r3, r4⟩ := key _ 0 (List.replicate i 0) 0 (Nat.le_refl _) (by simp) (Dg.zeros i) (by omega) (by omega) (by simp; omega)
  refine ⟨row, r1, ?_, r3, r4⟩
  rw [r2, val_zeros]; simp

theorem Times_spec (am bm : Bool) {a b : List Int} (ha : Dg a) (hb : Dg b) (la : a.length ≤ 1000) (lb : b.length ≤ 1000) : ∃ R, Ev (fun k => aukletref01_Times.f k am a bm b) ((am != bm), R) ∧ Dg R ∧ val R = val a * val b ∧ R.length ≤ 2 * a.length + b.length + 2 := by
  have key : ∀ (d i : Nat) (out : List Int), a.length - i ≤ d → i ≤ a.length → Dg out → out.length ≤ 2 * i + b.length + 2 → ∃ R, Ev (fun k => aukletref01_Times.l0 k out (i : Int) am a bm b) ((am != bm), R) ∧ Dg R ∧ val R = val out + pw i * (val (a.drop i) * val b) ∧ R.length ≤ 2 * a.length + b.length + 2 := by
    intro d
    induction d with
    | zero =>
      intro i out hd hi hg hl
      obtain ⟨T, t1, t2, t3, t4, _⟩ := trim_spec out (by omega)
      refine ⟨T, ?_, t2 hg, ?_, by omega⟩
      · refine Ev.step (f := fun k => (aukletref01_trim.f k out).bind fun t279 => some ((am != bm), t279)) (fun k => ?_) (Ev.bind t1 (Ev.now _))
        simp only [aukletref01_Times.l0]
        rw [if_neg (by omega)]
      · rw [t3, List.drop_eq_nil_of_le (by omega)]; simp [val]
    | succ d ih =>
      intro i out hd hi hg hl
      by_cases hgo : i < a.length
      · obtain ⟨row, r1, r2, r3, r4⟩ := times_l1 out i am bm a b ha hb hgo la lb
        obtain ⟨S, s1, s2, s3, s4⟩ := plus_spec hg r1 (2 * i + b.length + 2) (by omega) hl (by omega)
        obtain ⟨R, q1, q2, q3, q4⟩ := ih (i + 1) S (by omega) (by omega) s2 (by omega)
        refine ⟨R, ?_, q2, ?_, q4⟩
        · refine Ev.step (f := fun k => aukletref01_Times.l1 k out (i : Int) (List.replicate i 0) 0 0 am a bm b) (fun k => ?_) (r4 _ (Ev.bind s1 q1))
          simp only [aukletref01_Times.l0]
          rw [if_pos (by omega), if_pos (by omega), Int.toNat_natCast, if_pos (by omega)]
        · rw [q3, s3, r2, val_drop a i, Int.add_mul, Int.mul_assoc 10, Int.mul_add, Int.add_assoc]
          simp only [pw]
          rw [Int.mul_assoc 10, Int.mul_left_comm (pw i) 10]
      · exact ih i out (by omega) hi hg hl
  obtain ⟨R, q1, q2, q3, q4⟩ := key _ 0 [] (Nat.le_refl _) (by omega) Dg.nil (by simp)
  refine ⟨R, q1, q2, ?_, q4⟩
  rw [q3]; simp [val, pw]

/-! ### Over -/
theorem set_mid (i : Nat) (x y : Int) (Q : List Int) : (List.replicate i 0 ++ x :: Q).set i y = List.replicate i 0 ++ y :: Q := by
  rw [List.set_append_right _ _ (by simp)]; simp
theorem getD_mid (i : Nat) (x : Int) (Q : List Int) : (List.replicate i (0 : Int) ++ x :: Q).getD i 0 = x := by
  simp [List.getD, List.getElem?_append_right]

theorem over_l1 (am bm : Bool) (a b Q : List Int) (hb : Dg b) (lb : b.length ≤ 1000) (i : Nat) (T : Int) (hT : T < 10 * val b) (n : Nat) (hn : n ≤ 1000) (hi : i ≤ 1000) (Good : List Int → Prop) :
    (∀ (rest : List Int) (x : Int), Dg rest → rest.length ≤ n → 0 ≤ x → x ≤ 9 → T = x * val b + val rest → val rest < val b → ∃ R, Ev (fun k => aukletref01_Over.l0 k (List.replicate i 0 ++ x :: Q) rest ((i : Int) - 1) am a bm b) ((am != bm), R) ∧ Good R) →
    ∀ (d : Nat) (x : Int) (rest : List Int), Dg rest → rest.length ≤ n → 0 ≤ x → x ≤ 9 → 9 - x ≤ d → T = x * val b + val rest → ∃ R, Ev (fun k => aukletref01_Over.l1 k (List.replicate i 0 ++ x :: Q) rest (i : Int) x am a bm b) ((am != bm), R) ∧ Good R := by
  intro hend d
  induction d with
  | zero =>
    intro x rest hg hl x0 x9 hd hv
    have hx : x = 9 := by omega
    have hlt : val rest < val b := by rw [hv, hx] at hT; omega
    have hl1 := less_spec hg hb (by omega) (by omega)
    rw [decide_eq_true hlt] at hl1
    obtain ⟨R, h1, h2⟩ := hend rest x hg hl x0 x9 hv hlt
    refine ⟨R, ?_, h2⟩
    refine Ev.step (f := fun k => (aukletref01_less.f k rest b).bind fun t267 => (if t267 = true then (aukletref01_Over.l0 k (List.replicate i 0 ++ x :: Q) rest (wrap64 ((i : Int) - 1)) am a bm b) else ((aukletref01_minus.f k rest b).bind fun t268 => (if 0 ≤ (i : Int) then (if (i : Int) < ((List.replicate i 0 ++ x :: Q).length : Int) then (aukletref01_Over.l1 k ((List.replicate i 0 ++ x :: Q).set (i : Int).toNat (wrap64 ((rd (List.replicate i 0 ++ x :: Q) (i : Int)) + 1))) t268 (i : Int) (wrap64 (x + 1)) am a bm b) else (none)) else (none))))) (fun k => ?_) (Ev.bind hl1 ?_)
    · simp only [aukletref01_Over.l1]
      rw [if_pos (by omega)]
    · simp only [if_true, wrap_in (x := (i : Int) - 1) (by omega) (by omega)]
      exact h1
  | succ d ih =>
    intro x rest hg hl x0 x9 hd hv
    have hl1 := less_spec hg hb (by omega) (by omega)
    have hs : ∀ k, aukletref01_Over.l1 (k + 1) (List.replicate i 0 ++ x :: Q) rest (i : Int) x am a bm b = (fun k => (aukletref01_less.f k rest b).bind fun t267 => (if t267 = true then (aukletref01_Over.l0 k (List.replicate i 0 ++ x :: Q) rest (wrap64 ((i : Int) - 1)) am a bm b) else ((aukletref01_minus.f k rest b).bind fun t268 => (if 0 ≤ (i : Int) then (if (i : Int) < ((List.replicate i 0 ++ x :: Q).length : Int) then (aukletref01_Over.l1 k ((List.replicate i 0 ++ x :: Q).set (i : Int).toNat (wrap64 ((rd (List.replicate i 0 ++ x :: Q) (i : Int)) + 1))) t268 (i : Int) (wrap64 (x + 1)) am a bm b) else (none)) else (none))))) k := fun k => by
      simp only [aukletref01_Over.l1]
      rw [if_pos (by omega)]
    by_cases hlt : val rest < val b
    · obtain ⟨R, h1, h2⟩ := hend rest x hg hl x0 x9 hv hlt
      refine ⟨R, Ev.step (f := _) hs (Ev.bind hl1 ?_), h2⟩
      simp only [hlt, decide_true, if_true, wrap_in (x := (i : Int) - 1) (by omega) (by omega)]
      exact h1
    · obtain ⟨M, m1, m2, m3, m4⟩ := minus_spec hg hb (by omega) (by omega) (by omega)
      have e : (x + 1) * val b = x * val b + val b := by rw [Int.add_mul, Int.one_mul]
      have hx8 : x + 1 ≤ 9 := by
        apply Decidable.byContradiction
        intro h
        have hx : x = 9 := by omega
        rw [hv, hx] at hT
        omega
      obtain ⟨R, h1, h2⟩ := ih (x + 1) M m2 (by omega) (by omega) hx8 (by omega) (by rw [hv, e, m3]; omega)
      refine ⟨R, Ev.step (f := _) hs (Ev.bind hl1 ?_), h2⟩
      simp only [hlt, decide_false, Bool.false_eq_true, if_false]
      refine Ev.bind m1 ?_
      have hlen : (i : Int) < ((List.replicate i (0 : Int) ++ x :: Q).length : Int) := by simp; omega
      simp only [rd_nat, getD_mid, Int.toNat_natCast, wrap_in (x := x + 1) (by omega) (by omega), set_mid]
      simp only [if_pos hlen, if_pos (show (0 : Int) ≤ (i : Int) by omega)]
      exact h1

theorem Over_spec (am bm : Bool) {a b : List Int} (ha : Dg a) (hb : Dg b) (la : a.length ≤ 500) (lb : b.length ≤ 500) (hpos : 0 < val b) : ∃ R, Ev (fun k => aukletref01_Over.f k am a bm b) ((am != bm), R) ∧ Dg R ∧ val R = val a / val b ∧ R.length ≤ a.length := by
  have key : ∀ (n : Nat) (Q rest : List Int), n ≤ a.length → Dg Q → Dg rest → Q.length = a.length - n → rest.length ≤ a.length - n → val (a.drop n) = val Q * val b + val rest → val rest < val b →
      ∃ R, Ev (fun k => aukletref01_Over.l0 k (List.replicate n 0 ++ Q) rest ((n : Int) - 1) am a bm b) ((am != bm), R) ∧ Dg R ∧ val R = val a / val b ∧ R.length ≤ a.length := by
    intro n
    induction n with
    | zero =>
      intro Q rest _ hQ hr lQ lr hv hlt
      obtain ⟨T, t1, t2, t3, t4, _⟩ := trim_spec Q (by omega)
      refine ⟨T, ?_, t2 hQ, ?_, by omega⟩
      · refine Ev.step (f := fun k => (aukletref01_trim.f k Q).bind fun t254 => some ((am != bm), t254)) (fun k => ?_) (Ev.bind t1 (Ev.now _))
        simp only [aukletref01_Over.l0]
        rw [if_neg (by omega)]; rfl
      · rw [t3]
        have hz := val_nonneg hr
        rw [List.drop_zero] at hv
        rw [hv, Int.add_comm, Int.add_mul_ediv_right _ _ (by omega), Int.ediv_eq_zero_of_lt hz hlt]; omega
    | succ n ih =>
      intro Q rest hn hQ hr lQ lr hv hlt
      have da := ha.get n
      have hz := val_nonneg hr
      obtain ⟨T, t1, t2, t3, t4, _⟩ := trim_spec ([a.getD n 0] ++ rest) (by simp; omega)
      have tg : Dg T := t2 (hr.cons da.1 da.2)
      have tv : val T = a.getD n 0 + 10 * val rest := t3
      have tl : T.length ≤ a.length - n := by simp at t4; omega
      have e1 : List.replicate (n + 1) (0 : Int) ++ Q = List.replicate n 0 ++ (0 :: Q) := by
        rw [List.replicate_succ']; simp
      -- the quotient's digit
      have hrec : ∀ (rest2 : List Int) (x : Int), Dg rest2 → rest2.length ≤ a.length - n → 0 ≤ x → x ≤ 9 → val T = x * val b + val rest2 → val rest2 < val b → ∃ R, Ev (fun k => aukletref01_Over.l0 k (List.replicate n 0 ++ x :: Q) rest2 ((n : Int) - 1) am a bm b) ((am != bm), R) ∧ Dg R ∧ val R = val a / val b ∧ R.length ≤ a.length := by
        intro rest2 x h1 h2 h3 h4 h5 h6
        refine ih (x :: Q) rest2 (by omega) (hQ.cons h3 h4) h1 (by simp; omega) h2 ?_ h6
        rw [val_drop, hv]
        simp only [val]
        rw [Int.add_mul, Int.mul_assoc 10]
        generalize val Q * val b = u at *
        generalize x * val b = v at *
        omega
      obtain ⟨R, h1, h2⟩ := over_l1 am bm a b Q hb (by omega) n (val T) (by omega) (a.length - n) (by omega) (by omega) (fun R => Dg R ∧ val R = val a / val b ∧ R.length ≤ a.length) (fun rest2 x g1 g2 g3 g4 g5 g6 => hrec rest2 x g1 g2 g3 g4 g5 g6) 9 0 T tg tl (by omega) (by omega) (by omega) (by omega)
      refine ⟨R, ?_, h2⟩
      have e2 : ((n + 1 : Nat) : Int) - 1 = (n : Int) := by omega
      rw [e1, e2]
      refine Ev.step (f := fun k => (aukletref01_trim.f k ([a.getD n 0] ++ rest)).bind fun t264 => aukletref01_Over.l1 k (List.replicate n 0 ++ 0 :: Q) t264 (n : Int) 0 am a bm b) (fun k => ?_) (Ev.bind t1 h1)
      simp only [aukletref01_Over.l0]
      rw [if_pos (by omega), if_pos (by omega), if_pos (by omega), rd_nat]
      simp only [Option.bind_some]
      rw [if_pos (by simp; omega)]
  obtain ⟨R, h1, h2⟩ := key a.length [] [] (Nat.le_refl _) Dg.nil Dg.nil (by simp) (by simp) (by simp [val]) (by simpa [val] using hpos)
  refine ⟨R, ?_, h2⟩
  refine Ev.congr (f := fun k => aukletref01_Over.l0 k (List.replicate a.length 0 ++ []) [] ((a.length : Int) - 1) am a bm b) (fun k => ?_) h1
  simp only [aukletref01_Over.f]
  rw [if_pos (by omega), Int.toNat_natCast, if_pos (by omega), wrap_in (by omega) (by omega), List.append_nil]

end Go.Proofs.Ytjbblmdpiapmbaa.Dig
