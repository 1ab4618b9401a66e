/- A number's text: what the reference writes is what the code writes. -/
import Derived.Test.YtfejcghnbimedaaDoorDigC
import Derived.Test.YtfejcghnbimedaaDoorGivS
import Derived.Test.YtfejcghnbimedaaDoorPCellx4
set_option linter.unusedVariables false
set_option linter.unusedSimpArgs false
namespace Go.Proofs.YtfejcghnbimedaaDoor.Shw
open Go.RowKit Go.Proofs.YtfejcghnbimedaaDoor.PCell Go.Proofs.YtfejcghnbimedaaDoorW.PrintWords Go.Proofs.YtfejcghnbimedaaDoorW.PrintLast
open Go.Proofs.YtfejcghnbimedaaDoor.Dig Go.Proofs.YtfejcghnbimedaaDoor.Giv

theorem str_cat (A B : List Int) : strOfNums A ++ strOfNums B = strOfNums (A ++ B) := by
  apply ByteArray.ext
  rw [ByteArray.data_append]
  simp [strOfNums]
theorem str_cons (c : Int) (L : List Int) : strOfNums [c] ++ strOfNums L = strOfNums (c :: L) := str_cat [c] L
theorem str_dot (L : List Int) : (⟨#[46]⟩ : ByteArray) ++ strOfNums L = strOfNums (46 :: L) := str_cat [46] L
theorem str_minus (L : List Int) : (⟨#[45]⟩ : ByteArray) ++ strOfNums L = strOfNums (45 :: L) := str_cat [45] L
theorem str_nil (L : List Int) : ((strOfNums L).toList = ([] : List UInt8)) ↔ L = [] := by
  rw [ByteArray.toList_eq, strOfNums_data]
  exact List.map_eq_nil_iff
theorem str_bne (L : List Int) : ((strOfNums L).toList != ([] : List UInt8)) = decide (L ≠ []) := by
  by_cases h : L = []
  · subst h
    rw [(str_nil []).2 rfl]; simp
  · rw [decide_eq_true h]
    exact bne_iff_ne.2 (fun h2 => h ((str_nil L).1 h2))

theorem dig_mod {d : List Int} (hd : Dg d) (i : Nat) : val (d.drop i) % 10 = d.getD i 0 ∧ val (d.drop i) / 10 = val (d.drop (i + 1)) := by
  have := val_drop d i
  have := hd.get i
  omega
theorem num48 {x : Int} (h0 : 0 ≤ x) (h9 : x ≤ 9) : (48 + x % 256) % 256 = 48 + x := by omega

section
variable (d DL : List Int) (m : Bool) (hd : Dg d) (hl : d.length ≤ 1000)

/-- One digit is put ahead. -/
theorem put_step (L : List Int) (hL : L.length ≤ 2000) (i : Nat) (hi : i < d.length) (hd : Dg d) (hl : d.length ≤ 1000) (k : Nat) (h : (6 < i) ∨ (i < 6 ∧ (L ≠ [] ∨ 0 < d.getD i 0)) ∨ (i = 6 ∧ L = [])) :
    aukletref01_Show.l1 (k + 2) (strOfNums L) d (i : Int) m DL = aukletref01_Show.l1 k (strOfNums ((48 + d.getD i 0) :: L)) d ((i + 1 : Nat) : Int) m DL := by
  have dg := hd.get i
  have hj : aukletref01_Show.l1 (k + 2) (strOfNums L) d (i : Int) m DL = aukletref01_Show.j2 (k + 1) (strOfNums L) d (i : Int) false m DL := by
    simp only [aukletref01_Show.l1]
    rw [if_pos (by omega)]
    by_cases h6 : (i : Int) = 6
    · have : L = [] := by
        rcases h with h | h | h
        · omega
        · omega
        · exact h.2
      rw [if_pos h6, str_bne, this]; simp
    · rw [if_neg h6]
  rw [hj]
  simp only [aukletref01_Show.j2]
  rw [if_neg (by simp), num48 (x := rd d (i : Int)) (by rw [rd_nat]; omega) (by rw [rd_nat]; omega), rd_nat]
  simp only [Option.bind_some]
  rw [str_cons, if_pos (show (0 : Int) ≤ (i : Int) by omega), if_pos (show (i : Int) < (d.length : Int) by omega)]
  have hsz : (strOfNums [48 + d.getD i 0]).size + (strOfNums L).size ≤ 9223372036854775807 := by rw [strOfNums_size, strOfNums_size]; simp; omega
  rw [if_pos hsz, (wrap_in (x := (i : Int) + 1) (by omega) (by omega)).trans (show (i : Int) + 1 = ((i + 1 : Nat) : Int) by omega)]
  by_cases h6 : (i : Int) ≥ 6
  · rw [if_pos h6]
  · rw [if_neg h6]
    by_cases hn : (strOfNums L).toList = ([] : List UInt8)
    · have hn' := (str_nil L).1 hn
      have hpos : d.getD i 0 > 0 := by
        rcases h with h | h | h
        · omega
        · rcases h.2 with h | h
          · exact absurd hn' h
          · exact h
        · omega
      rw [if_pos hn, if_pos (show (i : Int) < (d.length : Int) by omega), if_pos hpos, if_pos (show (0 : Int) ≤ (i : Int) by omega)]
    · rw [if_neg hn]

theorem skip_step (i : Nat) (hi : i < d.length) (hl : d.length ≤ 1000) (k : Nat) (h6 : i < 6) (h0 : ¬ 0 < d.getD i 0) :
    aukletref01_Show.l1 (k + 2) (strOfNums []) d (i : Int) m DL = aukletref01_Show.l1 k (strOfNums []) d ((i + 1 : Nat) : Int) m DL := by
  simp only [aukletref01_Show.l1]
  rw [if_pos (by omega), if_neg (by omega)]
  simp only [aukletref01_Show.j2]
  rw [if_neg (by simp), if_neg (by omega), if_pos ((str_nil []).2 rfl), if_pos (by omega), if_pos (by omega), rd_nat, if_neg (by omega), (wrap_in (x := (i : Int) + 1) (by omega) (by omega)).trans (show (i : Int) + 1 = ((i + 1 : Nat) : Int) by omega)]

theorem dot_step (L : List Int) (hL : L.length ≤ 2000) (hi : 6 < d.length) (hd : Dg d) (hl : d.length ≤ 1000) (k : Nat) (h : L ≠ []) :
    aukletref01_Show.l1 (k + 2) (strOfNums L) d ((6 : Nat) : Int) m DL = aukletref01_Show.l1 k (strOfNums ((48 + d.getD 6 0) :: 46 :: L)) d ((7 : Nat) : Int) m DL := by
  have dg := hd.get 6
  simp only [aukletref01_Show.l1]
  rw [if_pos (by omega), if_pos (by rfl), str_bne, decide_eq_true h]
  simp only [aukletref01_Show.j2]
  rw [if_pos trivial, if_pos (by rw [strOfNums_size]; omega), if_pos (by omega), if_pos (by omega), if_pos (by omega), rd_nat, num48 (by omega) (by omega)]
  simp only [Option.bind_some]
  rw [str_dot, if_pos (by rw [strOfNums_size, strOfNums_size]; simp; omega), str_cons, (wrap_in (x := ((6 : Nat) : Int) + 1) (by omega) (by omega)).trans (show ((6 : Nat) : Int) + 1 = ((7 : Nat) : Int) by omega)]

theorem frac_ref (hd : Dg d) (hl : d.length ≤ 1000) (h6 : 6 < d.length) (R : ByteArray) : ∀ (j i : Nat) (L : List Int), i + j = 6 → L.length ≤ i →
    Ev (fun k => aukletref01_Show.l1 k (strOfNums (fracGo j (val (d.drop i)) (decide (L ≠ [])) L).2.2) d ((6 : Nat) : Int) m DL) R → Ev (fun k => aukletref01_Show.l1 k (strOfNums L) d (i : Int) m DL) R := by
  intro j
  induction j with
  | zero =>
    intro i L hi hL h
    have : i = 6 := by omega
    subst this
    exact h
  | succ j ih =>
    intro i L hi hL h
    obtain ⟨e1, e2⟩ := dig_mod hd i
    by_cases hc : L ≠ [] ∨ 0 < d.getD i 0
    · have hh : fracGo (j + 1) (val (d.drop i)) (decide (L ≠ [])) L = fracGo j (val (d.drop (i + 1))) (decide ((48 + d.getD i 0) :: L ≠ [])) ((48 + d.getD i 0) :: L) := by
        simp only [fracGo]
        rw [e1, e2, if_pos (by rcases hc with hc | hc; exact .inl (decide_eq_true hc); exact .inr hc)]
        simp
      rw [hh] at h
      obtain ⟨K, hK⟩ := ih (i + 1) _ (by omega) (by simp; omega) h
      refine ⟨K + 2, fun k hk => ?_⟩
      obtain ⟨n, rfl⟩ : ∃ n, k = n + 2 := ⟨k - 2, by omega⟩
      simp only
      rw [put_step d DL m L (by omega) i (by omega) hd hl n (.inr (.inl ⟨by omega, hc⟩))]
      exact hK n (by omega)
    · have hL0 : L = [] := Decidable.byContradiction fun h => hc (.inl h)
      have hd0 : ¬ 0 < d.getD i 0 := fun h => hc (.inr h)
      subst hL0
      have hh : fracGo (j + 1) (val (d.drop i)) (decide (([] : List Int) ≠ [])) [] = fracGo j (val (d.drop (i + 1))) (decide (([] : List Int) ≠ [])) [] := by
        simp only [fracGo]
        rw [e1, e2, if_neg (by rintro (h | h); simp at h; exact hd0 h)]
        simp
      rw [hh] at h
      obtain ⟨K, hK⟩ := ih (i + 1) [] (by omega) (by simp) h
      refine ⟨K + 2, fun k hk => ?_⟩
      obtain ⟨n, rfl⟩ : ∃ n, k = n + 2 := ⟨k - 2, by omega⟩
      simp only
      rw [skip_step d DL m i (by omega) hl n (by omega) hd0]
      exact hK n (by omega)

theorem frac_flag : ∀ (j : Nat) (n : Int) (L : List Int), (fracGo j n (decide (L ≠ [])) L).2.1 = decide ((fracGo j n (decide (L ≠ [])) L).2.2 ≠ []) ∧ (fracGo j n (decide (L ≠ [])) L).2.2.length ≤ L.length + j := by
  intro j
  induction j with
  | zero => intro n L; exact ⟨rfl, by simp [fracGo]⟩
  | succ j ih =>
    intro n L
    simp only [fracGo]
    split
    · have := ih (n / 10) ((48 + n % 10) :: L)
      have e : decide ((48 + n % 10) :: L ≠ []) = true := by simp
      rw [e] at this
      refine ⟨this.1, ?_⟩
      have h2 := this.2
      simp at h2
      omega
    · rename_i h
      have hL0 : L = [] := Decidable.byContradiction fun h2 => h (.inl (decide_eq_true h2))
      subst hL0
      have := ih (n / 10) []
      have e : decide (([] : List Int) ≠ []) = false := by simp
      rw [e] at this
      refine ⟨this.1, ?_⟩
      have h2 := this.2
      simp at h2 ⊢
      omega
theorem frac_n {d : List Int} (hd : Dg d) : ∀ (j i : Nat) (b : Bool) (L : List Int), (fracGo j (val (d.drop i)) b L).1 = val (d.drop (i + j)) := by
  intro j
  induction j with
  | zero => intro i b L; rfl
  | succ j ih =>
    intro i b L
    obtain ⟨e1, e2⟩ := dig_mod hd i
    simp only [fracGo]
    rw [e2]
    have e : i + (j + 1) = i + 1 + j := by omega
    rw [e]
    split
    · exact ih (i + 1) true _
    · exact ih (i + 1) false _

/-- The end of the text. -/
def fin (L : List Int) : List Int := if m = true then 45 :: L else L

theorem int_ref (hd : Dg d) (hl : d.length ≤ 1000) (H : ∀ i, 7 ≤ i → i < d.length → 0 < val (d.drop i)) : ∀ (n i : Nat) (L : List Int), d.length - i ≤ n → 7 ≤ i → i ≤ d.length → L.length ≤ i + 1 →
    Ev (fun k => aukletref01_Show.l1 k (strOfNums L) d (i : Int) m DL) (strOfNums (fin m (if i < d.length then intGo (val (d.drop i)) L else L))) := by
  intro n
  induction n with
  | zero =>
    intro i L hn h7 hi hL
    rw [if_neg (by omega)]
    refine ⟨1, fun k hk => ?_⟩
    obtain ⟨j, rfl⟩ : ∃ j, k = j + 1 := ⟨k - 1, by omega⟩
    simp only [aukletref01_Show.l1]
    rw [if_neg (by omega)]
    unfold fin
    cases m
    · rw [if_neg (by simp), if_neg (by simp)]
    · rw [if_pos rfl, if_pos rfl, if_pos (by rw [strOfNums_size]; omega), str_minus]
  | succ n ih =>
    intro i L hn h7 hi hL
    by_cases hlt : i < d.length
    · rw [if_pos hlt]
      obtain ⟨e1, e2⟩ := dig_mod hd i
      have hr := ih (i + 1) ((48 + d.getD i 0) :: L) (by omega) (by omega) (by omega) (by simp; omega)
      have hh : intGo (val (d.drop i)) L = if i + 1 < d.length then intGo (val (d.drop (i + 1))) ((48 + d.getD i 0) :: L) else (48 + d.getD i 0) :: L := by
        by_cases h1 : i + 1 < d.length
        · have := H (i + 1) (by omega) h1
          rw [if_pos h1, intGo_go (by rw [e2]; omega), e1, e2]
        · have : d.drop (i + 1) = [] := List.drop_eq_nil_of_le (by omega)
          rw [this] at e2
          rw [if_neg h1, intGo_end (by rw [e2]; simp [val]), e1]
      rw [hh]
      obtain ⟨K, hK⟩ := hr
      refine ⟨K + 2, fun k hk => ?_⟩
      obtain ⟨j, rfl⟩ : ∃ j, k = j + 2 := ⟨k - 2, by omega⟩
      simp only
      rw [put_step d DL m L (by omega) i hlt hd hl j (.inl (by omega))]
      exact hK j (by omega)
    · exact ih i L (by omega) h7 hi hL
end

theorem show_ref {a : Int} (h0 : -9223372036854775808 ≤ a) (h1 : a ≤ 9223372036854775807) : Ev (fun k => aukletref01_Show.f k a) (showV a) := by
  obtain ⟨A, e1, e2, e3, e4, _, e6⟩ := Of_spec a h0 h1
  obtain ⟨d, hdd⟩ : ∃ d, d = A ++ List.replicate (7 - A.length) 0 := ⟨_, rfl⟩
  have hl7 : 7 ≤ d.length := by rw [hdd]; simp; omega
  have hl : d.length ≤ 1000 := by rw [hdd]; simp; omega
  have hz : ∀ n, val (List.replicate n (0 : Int)) = 0 := fun n => by
    induction n with
    | zero => rfl
    | succ n ih => rw [List.replicate_succ]; simp only [val]; rw [ih]; rfl
  have hv : val d = absV a := by rw [hdd, val_append, hz, e4]; simp; rfl
  have hg : Dg d := fun x hx => by
    rw [hdd] at hx
    rcases List.mem_append.1 hx with hx | hx
    · exact e2 x hx
    · rw [(List.mem_replicate.1 hx).2]; omega
  have H : ∀ i, 7 ≤ i → i < d.length → 0 < val (d.drop i) := fun i h7 hi => by
    have hA : 8 ≤ A.length := by
      apply Decidable.byContradiction
      intro h
      rw [hdd] at hi
      simp at hi
      omega
    have hdA : d = A := by rw [hdd]; have : 7 - A.length = 0 := by omega
                           rw [this]; simp
    subst hdA
    have hne : d.drop i ≠ [] := fun h => by rw [List.drop_eq_nil_iff] at h; omega
    obtain ⟨M, x, hM⟩ : ∃ M x, d.drop i = M ++ [x] := ⟨_, _, (List.dropLast_concat_getLast hne).symm⟩
    have hx : x ≠ 0 := e3 (d.take i ++ M) x (by rw [List.append_assoc, ← hM, List.take_append_drop])
    have hgx := hg.drop i x (by rw [hM]; simp)
    have hgM : Dg M := fun y hy => hg.drop i y (by rw [hM]; exact List.mem_append_left _ hy)
    rw [hM, val_snoc]
    have p1 := pw_pos M.length
    have p2 := val_nonneg hgM
    have p3 : 1 * 1 ≤ pw M.length * x := Int.mul_le_mul p1 (by omega) (by omega) (by omega)
    omega
  have hpad : ∀ (n : Nat) (X : List Int) (R : ByteArray), 7 - X.length ≤ n → n ≤ 7 → X.length ≤ 1000 → Ev (fun k => aukletref01_Show.l1 k (strOfNums []) (X ++ List.replicate (7 - X.length) 0) 0 (decide (a < 0)) A) R → Ev (fun k => aukletref01_Show.l0 k (strOfNums []) X (decide (a < 0)) A) R := by
    intro n
    induction n with
    | zero =>
      intro X R hn _ _ h
      have : 7 - X.length = 0 := by omega
      rw [this, List.replicate_zero, List.append_nil] at h
      refine Ev.step (f := fun k => aukletref01_Show.l1 k (strOfNums []) X 0 (decide (a < 0)) A) (fun k => ?_) h
      simp only [aukletref01_Show.l0]
      rw [if_neg (by omega)]
    | succ n ih =>
      intro X R hn hn7 hX h
      by_cases h7 : X.length < 7
      · refine Ev.step (f := fun k => aukletref01_Show.l0 k (strOfNums []) (X ++ [0]) (decide (a < 0)) A) (fun k => ?_) (ih (X ++ [0]) R (by simp; omega) (by omega) (by simp; omega) ?_)
        · simp only [aukletref01_Show.l0]
          rw [if_pos (by omega), if_pos (by omega)]
        · have e : X ++ [0] ++ List.replicate (7 - (X ++ [(0 : Int)]).length) 0 = X ++ List.replicate (7 - X.length) 0 := by
            have : 7 - X.length = (7 - (X ++ [(0 : Int)]).length) + 1 := by simp; omega
            rw [this, List.replicate_succ]; simp
          rw [e]; exact h
      · exact ih X R (by omega) (by omega) hX h
  unfold aukletref01_Show.f
  refine Ev.bind e1 ?_
  simp only [Option.bind_some, List.length_nil, List.nil_append]
  simp only [if_pos (show 0 + A.length < 17592186044416 by omega)]
  have hem : (⟨#[]⟩ : ByteArray) = strOfNums [] := rfl
  rw [hem]
  refine hpad 7 A _ (by omega) (by omega) (by omega) ?_
  rw [← hdd]
  have hfr := frac_ref d A (decide (a < 0)) hg hl (by omega) (showV a) 6 0 [] rfl (by simp)
  have hfl := frac_flag 6 (val d) []
  have hfn := frac_n hg 6 0 (decide (([] : List Int) ≠ [])) []
  rw [List.drop_zero] at hfr hfn
  have ed : decide (([] : List Int) ≠ []) = false := by simp
  rw [ed] at hfr hfl hfn
  refine hfr ?_
  have hsv : showV a = strOfNums (fin (decide (a < 0)) (intGo (val (d.drop 6)) (if (fracGo 6 (val d) false []).2.2 ≠ [] then 46 :: (fracGo 6 (val d) false []).2.2 else (fracGo 6 (val d) false []).2.2))) := by
    unfold showV showL fin
    rw [← hv]
    simp only [hfn, hfl.1, Nat.zero_add, decide_eq_true_eq]
    rfl
  rw [hsv]
  obtain ⟨F, hF⟩ : ∃ F, F = (fracGo 6 (val d) false []).2.2 := ⟨_, rfl⟩
  have hFl : F.length ≤ 6 := by rw [hF]; simpa using hfl.2
  rw [← hF]
  obtain ⟨x1, x2⟩ := dig_mod hg 6
  have x2 : val (d.drop 6) / 10 = val (d.drop 7) := x2
  have hint : ∀ G : List Int, intGo (val (d.drop 6)) G = if 7 < d.length then intGo (val (d.drop 7)) ((48 + d.getD 6 0) :: G) else (48 + d.getD 6 0) :: G := fun G => by
    by_cases h1 : 7 < d.length
    · have := H 7 (by omega) h1
      rw [if_pos h1, intGo_go (by rw [x2]; omega), x1, x2]
    · have : d.drop 7 = [] := List.drop_eq_nil_of_le (by omega)
      rw [this] at x2
      rw [if_neg h1, intGo_end (by rw [x2]; simp [val]), x1]
  by_cases hFn : F = []
  · rw [if_neg (by simp [hFn]), hint]
    obtain ⟨K, hK⟩ := int_ref d A (decide (a < 0)) hg hl H d.length 7 ((48 + d.getD 6 0) :: F) (by omega) (by omega) (by omega) (by simp; omega)
    refine ⟨K + 2, fun k hk => ?_⟩
    obtain ⟨j, rfl⟩ : ∃ j, k = j + 2 := ⟨k - 2, by omega⟩
    simp only
    rw [put_step d A (decide (a < 0)) F (by omega) 6 (by omega) hg hl j (.inr (.inr ⟨rfl, hFn⟩))]
    exact hK j (by omega)
  · rw [if_pos hFn, hint]
    obtain ⟨K, hK⟩ := int_ref d A (decide (a < 0)) hg hl H d.length 7 ((48 + d.getD 6 0) :: 46 :: F) (by omega) (by omega) (by omega) (by simp; omega)
    refine ⟨K + 2, fun k hk => ?_⟩
    obtain ⟨j, rfl⟩ : ∃ j, k = j + 2 := ⟨k - 2, by omega⟩
    simp only
    rw [dot_step d A (decide (a < 0)) F (by omega) (by omega) hg hl j hFn]
    exact hK j (by omega)

end Go.Proofs.YtfejcghnbimedaaDoor.Shw
