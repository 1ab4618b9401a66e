/- The law that a key stands where the document says, in plain Lean. -/
import Derived.Test.YtbpnkgaomobpkaaPNodx6
set_option linter.unusedVariables false
set_option linter.unusedSimpArgs false
namespace Go.Proofs.Ytbpnkgaomobpkaa.Pure
open Go.RowKit Go.Proofs.Ytbpnkgaomobpkaa.PNod Go.Proofs.YtbpnkgaomobpkaaW.PrintWords Go.Proofs.YtbpnkgaomobpkaaW.PrintLast Go.Proofs.Ytbpnkgaomobpkaa.Giv
theorem wrap_in {x : Int} (h0 : -9223372036854775808 ≤ x) (h1 : x ≤ 9223372036854775807) : wrap64 x = x := by unfold wrap64; omega
/-- More rounds tell the same: so it is told from some round on. -/
theorem ev_mono {α : Type} {g : Nat → Option α} {r : α} (hm : ∀ k, LeO (g k) (g (k + 1))) (K : Nat) (h : g K = some r) : Ev g r := by
  refine ⟨K, fun k hk => ?_⟩
  obtain ⟨j, rfl⟩ : ∃ j, k = K + j := ⟨k - K, by omega⟩
  clear hk
  induction j with
  | zero => exact h
  | succ j ih => exact hm _ _ ih
theorem node_lives : Ev (fun k => aukletlaw22_lives.f k) true := ev_mono (fun k => aukletlaw22_lives.mono k) 12 (by decide +kernel)

/-! ### The order of texts -/
theorem lt_irrefl : ∀ x : List UInt8, Op.bytesLess x x = false
  | [] => rfl
  | a :: x => by
    have := lt_irrefl x
    simp [Op.bytesLess, UInt8.lt_irrefl a, this]
theorem lt_trans : ∀ x y z : List UInt8, Op.bytesLess x y = true → Op.bytesLess y z = true → Op.bytesLess x z = true
  | _, [], _, h, _ => by cases ‹List UInt8› <;> simp [Op.bytesLess] at h
  | _, _ :: _, [], _, h => by simp [Op.bytesLess] at h
  | [], _ :: _, _ :: _, _, _ => rfl
  | a :: x, b :: y, c :: z, h1, h2 => by
    have ih := lt_trans x y z
    simp only [Op.bytesLess, Bool.or_eq_true, Bool.and_eq_true, decide_eq_true_eq, beq_iff_eq] at h1 h2 ⊢
    rcases h1 with h1 | ⟨rfl, h1⟩
    · rcases h2 with h2 | ⟨rfl, h2⟩
      · exact .inl (UInt8.lt_trans h1 h2)
      · exact .inl h1
    · rcases h2 with h2 | ⟨rfl, h2⟩
      · exact .inl h2
      · exact .inr ⟨rfl, ih h1 h2⟩
theorem not_both {x y : List UInt8} (h : Op.bytesLess x y = true) : Op.bytesLess y x = false := by
  cases e : Op.bytesLess y x with
  | false => rfl
  | true => have := lt_trans x y x h e; rw [lt_irrefl] at this; cases this
theorem same_of {x y : List UInt8} (h1 : Op.bytesLess x y = false) (h2 : Op.bytesLess y x = false) : x = y := by
  have h := leq_not x y
  rw [h1, h2] at h
  simp only [Bool.false_or, Bool.not_false, beq_iff_eq] at h
  exact h.symm

/-- The i-th key. -/
def ky (l : List ByteArray) (i : Nat) : List UInt8 := (l.getD i ByteArray.empty).toList
theorem rd_ky (l : List ByteArray) (i : Nat) : (rdOf ByteArray.empty l (i : Int)).toList = ky l i := rfl
/-- Keys rise. -/
def Asc (l : List ByteArray) : Prop := ∀ i, i + 1 < l.length → Op.bytesLess (ky l i) (ky l (i + 1)) = true
theorem Asc.lt {l : List ByteArray} (h : Asc l) : ∀ (d i : Nat), i + 1 + d < l.length → Op.bytesLess (ky l i) (ky l (i + 1 + d)) = true
  | 0, i, hi => h i hi
  | d + 1, i, hi => lt_trans _ _ _ (h.lt d i (by omega)) (h (i + 1 + d) (by omega))
theorem Asc.lt' {l : List ByteArray} (h : Asc l) {i j : Nat} (hij : i < j) (hj : j < l.length) : Op.bytesLess (ky l i) (ky l j) = true := by
  have := h.lt (j - i - 1) i (by omega)
  rw [show i + 1 + (j - i - 1) = j by omega] at this
  exact this

/-! ### few: some answer comes, and it is no where there are many keys -/
section
variable (b : Bool) (K V : List ByteArray) (D : List Int)
theorem few_l1 (hV : V.length ≤ 300) : ∀ (n i : Nat), V.length - i ≤ n → ∃ r, Ev (fun k => aukletlaw22_few.l1 k (i : Int) b K V D) r := by
  intro n
  induction n with
  | zero =>
    intro i hi
    refine ⟨true, Ev.step (f := fun k => some true) (fun k => ?_) (Ev.now _)⟩
    simp only [aukletlaw22_few.l1]
    rw [if_neg (by omega)]
  | succ n ih =>
    intro i hi
    by_cases h : i < V.length
    · by_cases h2 : ((rdOf ByteArray.empty V (i : Int)).size : Int) > 1000
      · refine ⟨false, Ev.step (f := fun k => some false) (fun k => ?_) (Ev.now _)⟩
        simp only [aukletlaw22_few.l1]
        rw [if_pos (by omega), if_pos (by omega), if_pos h2]
      · obtain ⟨r, hr⟩ := ih (i + 1) (by omega)
        refine ⟨r, Ev.step (f := fun k => aukletlaw22_few.l1 k ((i + 1 : Nat) : Int) b K V D) (fun k => ?_) hr⟩
        simp only [aukletlaw22_few.l1]
        rw [if_pos (by omega), if_pos (by omega), if_neg h2, (wrap_in (x := (i : Int) + 1) (by omega) (by omega)).trans (show (i : Int) + 1 = ((i + 1 : Nat) : Int) by omega)]
    · refine ⟨true, Ev.step (f := fun k => some true) (fun k => ?_) (Ev.now _)⟩
      simp only [aukletlaw22_few.l1]
      rw [if_neg (by omega)]
theorem few_l0 (hK : K.length ≤ 300) (hV : V.length ≤ 300) : ∀ (n i : Nat), K.length - i ≤ n → ∃ r, Ev (fun k => aukletlaw22_few.l0 k (i : Int) b K V D) r := by
  intro n
  have fin : ∀ i : Nat, K.length ≤ i → ∃ r, Ev (fun k => aukletlaw22_few.l0 k (i : Int) b K V D) r := fun i hi => by
    obtain ⟨r, hr⟩ := few_l1 b K V D hV V.length 0 (by omega)
    refine ⟨r, Ev.step (f := fun k => aukletlaw22_few.l1 k ((0 : Nat) : Int) b K V D) (fun k => ?_) hr⟩
    simp only [aukletlaw22_few.l0]
    rw [if_neg (by omega)]; rfl
  induction n with
  | zero => intro i hi; exact fin i (by omega)
  | succ n ih =>
    intro i hi
    by_cases h : i < K.length
    · by_cases h2 : ((rdOf ByteArray.empty K (i : Int)).size : Int) > 1000
      · refine ⟨false, Ev.step (f := fun k => some false) (fun k => ?_) (Ev.now _)⟩
        simp only [aukletlaw22_few.l0]
        rw [if_pos (by omega), if_pos (by omega), if_pos h2]
      · obtain ⟨r, hr⟩ := ih (i + 1) (by omega)
        refine ⟨r, Ev.step (f := fun k => aukletlaw22_few.l0 k ((i + 1 : Nat) : Int) b K V D) (fun k => ?_) hr⟩
        simp only [aukletlaw22_few.l0]
        rw [if_pos (by omega), if_pos (by omega), if_neg h2, (wrap_in (x := (i : Int) + 1) (by omega) (by omega)).trans (show (i : Int) + 1 = ((i + 1 : Nat) : Int) by omega)]
    · exact fin i (by omega)
theorem few_j0 (x : Bool) (hK : x = false → K.length ≤ 300 ∧ V.length ≤ 300) : ∃ r, Ev (fun k => aukletlaw22_few.j0 k x b K V D) r ∧ (r = true → x = false) := by
  cases x with
  | true =>
    refine ⟨false, Ev.step (f := fun k => some false) (fun k => ?_) (Ev.now _), fun h => by cases h⟩
    simp only [aukletlaw22_few.j0]
    rw [if_pos trivial]
  | false =>
    obtain ⟨r, hr⟩ := few_l0 b K V D (hK rfl).1 (hK rfl).2 K.length 0 (by omega)
    refine ⟨r, Ev.step (f := fun k => aukletlaw22_few.l0 k ((0 : Nat) : Int) b K V D) (fun k => ?_) hr, fun _ => rfl⟩
    simp only [aukletlaw22_few.j0]
    rw [if_neg (by simp)]; rfl
theorem few_ev : ∃ r, Ev (fun k => aukletlaw22_few.f k b K V D) r ∧ (r = true → K.length ≤ 300 ∧ V.length ≤ 300 ∧ D.length ≤ 300) := by
  unfold aukletlaw22_few.f
  by_cases h1 : (K.length : Int) > 300
  · simp only [if_pos h1]
    obtain ⟨r, hr, h⟩ := few_j0 b K V D true (fun h => by cases h)
    exact ⟨r, hr, fun e => by have := h e; cases this⟩
  · simp only [if_neg h1]
    by_cases h2 : (V.length : Int) > 300
    · simp only [if_pos h2]
      obtain ⟨r, hr, h⟩ := few_j0 b K V D true (fun h => by cases h)
      exact ⟨r, hr, fun e => by have := h e; cases this⟩
    · simp only [if_neg h2]
      obtain ⟨r, hr, h⟩ := few_j0 b K V D (decide ((D.length : Int) > 300)) (fun _ => ⟨by omega, by omega⟩)
      exact ⟨r, hr, fun e => ⟨by omega, by omega, by have := of_decide_eq_false (h e); omega⟩⟩

/-! ### ref.Can: some answer comes, and where it is yes keys rise -/
theorem can_l1 (n0 : Int) (hV : V.length ≤ 300) : ∀ (n i : Nat), V.length - i ≤ n → ∃ r, Ev (fun k => aukletref22_Can.l1 k n0 (i : Int) b K V D) r := by
  intro n
  have fin : ∀ i : Nat, V.length ≤ i → ∃ r, Ev (fun k => aukletref22_Can.l1 k n0 (i : Int) b K V D) r := fun i hi => by
    refine ⟨if (V.length : Int) = n0 then ((D.length : Int) == 0) else false, Ev.step (f := fun k => some (if (V.length : Int) = n0 then ((D.length : Int) == 0) else false)) (fun k => ?_) (Ev.now _)⟩
    simp only [aukletref22_Can.l1]
    rw [if_neg (by omega)]
    split <;> rfl
  induction n with
  | zero => intro i hi; exact fin i (by omega)
  | succ n ih =>
    intro i hi
    by_cases h : i < V.length
    · by_cases h2 : ((rdOf ByteArray.empty V (i : Int)).size : Int) > 40
      · refine ⟨false, Ev.step (f := fun k => some false) (fun k => ?_) (Ev.now _)⟩
        simp only [aukletref22_Can.l1]
        rw [if_pos (by omega), if_pos (by omega), if_pos h2]
      · obtain ⟨r, hr⟩ := ih (i + 1) (by omega)
        refine ⟨r, Ev.step (f := fun k => aukletref22_Can.l1 k n0 ((i + 1 : Nat) : Int) b K V D) (fun k => ?_) hr⟩
        simp only [aukletref22_Can.l1]
        rw [if_pos (by omega), if_pos (by omega), if_neg h2, (wrap_in (x := (i : Int) + 1) (by omega) (by omega)).trans (show (i : Int) + 1 = ((i + 1 : Nat) : Int) by omega)]
    · exact fin i (by omega)
theorem can_l2 (n0 : Int) (hD : D.length ≤ 300) : ∀ (n i : Nat), D.length - i ≤ n → ∃ r, Ev (fun k => aukletref22_Can.l2 k n0 (i : Int) b K V D) r := by
  intro n
  have fin : ∀ i : Nat, D.length ≤ i → ∃ r, Ev (fun k => aukletref22_Can.l2 k n0 (i : Int) b K V D) r := fun i hi => by
    refine ⟨if (D.length : Int) = wrap64 (n0 + 1) then ((V.length : Int) == 0) else false, Ev.step (f := fun k => some (if (D.length : Int) = wrap64 (n0 + 1) then ((V.length : Int) == 0) else false)) (fun k => ?_) (Ev.now _)⟩
    simp only [aukletref22_Can.l2]
    rw [if_neg (by omega)]
    split <;> rfl
  induction n with
  | zero => intro i hi; exact fin i (by omega)
  | succ n ih =>
    intro i hi
    by_cases h : i < D.length
    · by_cases h2 : rd D (i : Int) < 1
      · refine ⟨false, Ev.step (f := fun k => some false) (fun k => ?_) (Ev.now _)⟩
        simp only [aukletref22_Can.l2]
        rw [if_pos (by omega), if_pos (by omega), if_pos h2]
      · by_cases h3 : rd D (i : Int) > 2147483647
        · refine ⟨false, Ev.step (f := fun k => some false) (fun k => ?_) (Ev.now _)⟩
          simp only [aukletref22_Can.l2]
          rw [if_pos (by omega), if_pos (by omega), if_neg h2, if_pos h3]
        · obtain ⟨r, hr⟩ := ih (i + 1) (by omega)
          refine ⟨r, Ev.step (f := fun k => aukletref22_Can.l2 k n0 ((i + 1 : Nat) : Int) b K V D) (fun k => ?_) hr⟩
          simp only [aukletref22_Can.l2]
          rw [if_pos (by omega), if_pos (by omega), if_neg h2, if_neg h3, (wrap_in (x := (i : Int) + 1) (by omega) (by omega)).trans (show (i : Int) + 1 = ((i + 1 : Nat) : Int) by omega)]
    · exact fin i (by omega)
theorem can_l0 (hK : K.length ≤ 300) (hV : V.length ≤ 300) (hD : D.length ≤ 300) : ∀ (n i : Nat), K.length - i ≤ n → i ≤ K.length → (∀ j, j + 1 < i → Op.bytesLess (ky K j) (ky K (j + 1)) = true) →
    ∃ r, Ev (fun k => aukletref22_Can.l0 k (K.length : Int) (i : Int) b K V D) r ∧ (r = true → Asc K) := by
  intro n
  have fin : ∀ i : Nat, K.length ≤ i → (∀ j, j + 1 < i → Op.bytesLess (ky K j) (ky K (j + 1)) = true) → ∃ r, Ev (fun k => aukletref22_Can.l0 k (K.length : Int) (i : Int) b K V D) r ∧ (r = true → Asc K) := fun i hi ha => by
    have hasc : Asc K := fun j hj => ha j (by omega)
    cases b with
    | true =>
      obtain ⟨r, hr⟩ := can_l1 true K V D (K.length : Int) hV V.length 0 (by omega)
      refine ⟨r, Ev.step (f := fun k => aukletref22_Can.l1 k (K.length : Int) ((0 : Nat) : Int) true K V D) (fun k => ?_) hr, fun _ => hasc⟩
      simp only [aukletref22_Can.l0]
      rw [if_neg (by omega), if_pos trivial]; rfl
    | false =>
      obtain ⟨r, hr⟩ := can_l2 false K V D (K.length : Int) hD D.length 0 (by omega)
      refine ⟨r, Ev.step (f := fun k => aukletref22_Can.l2 k (K.length : Int) ((0 : Nat) : Int) false K V D) (fun k => ?_) hr, fun _ => hasc⟩
      simp only [aukletref22_Can.l0]
      rw [if_neg (by omega), if_neg (by simp)]; rfl
  induction n with
  | zero => intro i hi _ ha; exact fin i (by omega) ha
  | succ n ih =>
    intro i hi hik ha
    by_cases h : i < K.length
    · have no : (∀ k, aukletref22_Can.l0 (k + 1) (K.length : Int) (i : Int) b K V D = some false) → ∃ r, Ev (fun k => aukletref22_Can.l0 k (K.length : Int) (i : Int) b K V D) r ∧ (r = true → Asc K) := fun hk =>
        ⟨false, Ev.step (f := fun k => some false) hk (Ev.now _), fun h => by cases h⟩
      have yes : (∀ j, j + 1 < i + 1 → Op.bytesLess (ky K j) (ky K (j + 1)) = true) → (∀ k, aukletref22_Can.l0 (k + 1) (K.length : Int) (i : Int) b K V D = aukletref22_Can.l0 k (K.length : Int) ((i + 1 : Nat) : Int) b K V D) → ∃ r, Ev (fun k => aukletref22_Can.l0 k (K.length : Int) (i : Int) b K V D) r ∧ (r = true → Asc K) := fun ha2 hk => by
        obtain ⟨r, hr, h3⟩ := ih (i + 1) (by omega) (by omega) ha2
        exact ⟨r, Ev.step (f := fun k => aukletref22_Can.l0 k (K.length : Int) ((i + 1 : Nat) : Int) b K V D) hk hr, h3⟩
      have ew : wrap64 ((i : Int) + 1) = ((i + 1 : Nat) : Int) := (wrap_in (x := (i : Int) + 1) (by omega) (by omega)).trans (by omega)
      by_cases h2 : ((rdOf ByteArray.empty K (i : Int)).size : Int) > 200
      · refine no (fun k => ?_)
        simp only [aukletref22_Can.l0]
        rw [if_pos (by omega), if_pos (by omega), if_pos (by omega), if_pos h2]
      · cases i with
        | zero =>
          refine yes (fun j hj => by omega) (fun k => ?_)
          simp only [aukletref22_Can.l0]
          rw [if_pos (by omega), if_pos (by omega), if_pos (by omega), if_neg h2, if_neg (by omega), ew]
        | succ i =>
          have em : wrap64 (((i + 1 : Nat) : Int) - 1) = (i : Int) := (wrap_in (x := ((i + 1 : Nat) : Int) - 1) (by omega) (by omega)).trans (by omega)
          by_cases h3 : Op.bytesLess (ky K i) (ky K (i + 1)) = true
          · refine yes (fun j hj => ?_) (fun k => ?_)
            · by_cases hji : j = i
              · rw [hji]; exact h3
              · exact ha j (by omega)
            · simp only [aukletref22_Can.l0]
              rw [if_pos (by omega), if_pos (by omega), if_pos (by omega), if_neg h2, if_pos (by omega), em, if_pos (by omega), if_pos (by omega), rd_ky, rd_ky, if_pos h3, ew]
          · refine no (fun k => ?_)
            simp only [aukletref22_Can.l0]
            rw [if_pos (by omega), if_pos (by omega), if_pos (by omega), if_neg h2, if_pos (by omega), em, if_pos (by omega), if_pos (by omega), rd_ky, rd_ky, if_neg h3]
    · exact fin i (by omega) ha
theorem can_ev (hK : K.length ≤ 300) (hV : V.length ≤ 300) (hD : D.length ≤ 300) : ∃ r, Ev (fun k => aukletref22_Can.f k b K V D) r ∧ (r = true → Asc K) :=
  can_l0 b K V D hK hV hD K.length 0 (by omega) (by omega) (fun j hj => by omega)

/-! ### Find: both ways come to the first key that is not below -/
variable (x : ByteArray)
/-- i is the first place whose key is not below x. -/
def First (i : Nat) : Prop := i ≤ K.length ∧ (∀ j, j < i → Op.bytesLess (ky K j) x.toList = true) ∧ (∀ j, i ≤ j → j < K.length → Op.bytesLess (ky K j) x.toList = false)
theorem less_f (y : ByteArray) : cmp_Less_string.f y x = some (Op.bytesLess y.toList x.toList) := by
  unfold cmp_Less_string.f cmp_isNaN_string.f
  simp
theorem mid_wrap (lo hi m : Nat) (h : lo + hi ≤ 1000) (hm : m = (lo + hi) / 2) : wrap64 ((IntKind.u64.wrap (wrap64 ((lo : Int) + (hi : Int)))) / 2) = (m : Int) := by
  rw [wrap_in (x := (lo : Int) + (hi : Int)) (by omega) (by omega)]
  have e : IntKind.u64.wrap ((lo : Int) + (hi : Int)) = (lo : Int) + (hi : Int) := by
    show ((lo : Int) + (hi : Int)) % 18446744073709551616 = _
    omega
  rw [e, wrap_in (x := ((lo : Int) + (hi : Int)) / 2) (by omega) (by omega)]
  clear e
  omega
theorem search_step (hK : K.length ≤ 300) (lo hi m : Nat) (h : lo < hi) (h3 : hi ≤ K.length) (hm : m = (lo + hi) / 2) (k : Nat) :
    slices_BinarySearch_string_string.l0 (k + 1) K x (K.length : Int) (lo : Int) (hi : Int) = if Op.bytesLess (ky K m) x.toList = true then slices_BinarySearch_string_string.l0 k K x (K.length : Int) ((m + 1 : Nat) : Int) (hi : Int) else slices_BinarySearch_string_string.l0 k K x (K.length : Int) (lo : Int) (m : Int) := by
  simp only [slices_BinarySearch_string_string.l0]
  rw [if_pos (by omega), mid_wrap lo hi m (by omega) hm, if_pos (by omega), if_pos (by omega), less_f, rd_ky, (wrap_in (x := (m : Int) + 1) (by omega) (by omega)).trans (show (m : Int) + 1 = ((m + 1 : Nat) : Int) by omega)]
  rfl
theorem search (hK : K.length ≤ 300) (ha : Asc K) : ∀ (n lo hi : Nat), hi - lo ≤ n → lo ≤ hi → hi ≤ K.length → (∀ j, j < lo → Op.bytesLess (ky K j) x.toList = true) → (∀ j, hi ≤ j → j < K.length → Op.bytesLess (ky K j) x.toList = false) →
    ∃ i, First K x i ∧ Ev (fun k => slices_BinarySearch_string_string.l0 k K x (K.length : Int) (lo : Int) (hi : Int)) ((i : Int), decide (i < K.length ∧ ky K i = x.toList)) := by
  intro n
  have fin : ∀ i : Nat, First K x i → Ev (fun k => slices_BinarySearch_string_string.l0 k K x (K.length : Int) (i : Int) (i : Int)) ((i : Int), decide (i < K.length ∧ ky K i = x.toList)) := fun i hi => by
    refine Ev.step (f := fun k => some ((i : Int), decide (i < K.length ∧ ky K i = x.toList))) (fun k => ?_) (Ev.now _)
    simp only [slices_BinarySearch_string_string.l0]
    rw [if_neg (by omega)]
    by_cases h : i < K.length
    · rw [if_pos (by omega), if_pos (by omega), if_pos (by omega), rd_ky]
      by_cases h2 : ky K i = x.toList
      · rw [if_pos h2, decide_eq_true ⟨h, h2⟩]
      · rw [if_neg h2, decide_eq_false (fun hc => h2 hc.2)]
        simp [slices_isNaN_string.f]
    · rw [if_neg (by omega), decide_eq_false (fun hc => h hc.1)]
  induction n with
  | zero =>
    intro lo hi h1 h2 h3 h4 h5
    obtain rfl : lo = hi := by omega
    exact ⟨lo, ⟨h3, h4, h5⟩, fin lo ⟨h3, h4, h5⟩⟩
  | succ n ih =>
    intro lo hi h1 h2 h3 h4 h5
    by_cases h : lo < hi
    · obtain ⟨m, hm⟩ : ∃ m : Nat, m = (lo + hi) / 2 := ⟨_, rfl⟩
      have st := search_step K x hK lo hi m h h3 hm
      by_cases hc : Op.bytesLess (ky K m) x.toList = true
      · obtain ⟨i, i1, i2⟩ := ih (m + 1) hi (by omega) (by omega) h3 (fun j hj => by
          by_cases hjm : j = m
          · rw [hjm]; exact hc
          · exact lt_trans _ _ _ (ha.lt' (show j < m by omega) (by omega)) hc) h5
        exact ⟨i, i1, Ev.step (f := fun k => slices_BinarySearch_string_string.l0 k K x (K.length : Int) ((m + 1 : Nat) : Int) (hi : Int)) (fun k => by rw [st, if_pos hc]) i2⟩
      · have hcf : Op.bytesLess (ky K m) x.toList = false := by simpa using hc
        obtain ⟨i, i1, i2⟩ := ih lo m (by omega) (by omega) (by omega) h4 (fun j hj hl => by
          by_cases hjm : j = m
          · rw [hjm]; exact hcf
          · cases e : Op.bytesLess (ky K j) x.toList with
            | false => rfl
            | true => have := lt_trans _ _ _ (ha.lt' (show m < j by omega) hl) e; rw [this] at hcf; cases hcf)
        exact ⟨i, i1, Ev.step (f := fun k => slices_BinarySearch_string_string.l0 k K x (K.length : Int) (lo : Int) (m : Int)) (fun k => by rw [st, if_neg hc]) i2⟩
    · obtain rfl : lo = hi := by omega
      exact ⟨lo, ⟨h3, h4, h5⟩, fin lo ⟨h3, h4, h5⟩⟩
theorem ref_leaf (hK : K.length ≤ 300) (i0 : Nat) (hf : First K x i0) : ∀ (n i : Nat), i0 - i ≤ n → i ≤ i0 → Ev (fun k => aukletref22_Find.l0 k x (i : Int) true K V D) ((i0 : Int), decide (i0 < K.length ∧ ky K i0 = x.toList)) := by
  intro n
  have fin : Ev (fun k => aukletref22_Find.l0 k x (i0 : Int) true K V D) ((i0 : Int), decide (i0 < K.length ∧ ky K i0 = x.toList)) := by
    refine Ev.step (f := fun k => some ((i0 : Int), decide (i0 < K.length ∧ ky K i0 = x.toList))) (fun k => ?_) (Ev.now _)
    simp only [aukletref22_Find.l0]
    by_cases h : i0 < K.length
    · have h2 := hf.2.2 i0 (Nat.le_refl _) h
      rw [if_pos (by omega), if_pos (by omega), rd_ky, h2, if_neg (by simp), if_pos trivial]
      congr 2
      by_cases h3 : ky K i0 = x.toList
      · rw [decide_eq_true ⟨h, h3⟩]; exact beq_iff_eq.2 h3
      · rw [decide_eq_false (fun hc => h3 hc.2)]; exact beq_eq_false_iff_ne.2 h3
    · rw [if_neg (by omega), if_pos trivial, decide_eq_false (fun hc => h hc.1)]
  induction n with
  | zero => intro i h1 h2; obtain rfl : i = i0 := by omega
            exact fin
  | succ n ih =>
    intro i h1 h2
    by_cases h : i < i0
    · have hl := hf.1
      refine Ev.step (f := fun k => aukletref22_Find.l0 k x ((i + 1 : Nat) : Int) true K V D) (fun k => ?_) (ih (i + 1) (by omega) (by omega))
      simp only [aukletref22_Find.l0]
      rw [if_pos (by omega), if_pos (by omega), rd_ky, if_pos (hf.2.1 i h), (wrap_in (x := (i : Int) + 1) (by omega) (by omega)).trans (show (i : Int) + 1 = ((i + 1 : Nat) : Int) by omega)]
    · obtain rfl : i = i0 := by omega
      exact fin
theorem ref_branch (hK : K.length ≤ 300) (ha : Asc K) (i0 : Nat) (hf : First K x i0) : ∀ (n i : Nat), i0 - i ≤ n → i ≤ i0 →
    Ev (fun k => aukletref22_Find.l0 k x (i : Int) false K V D) (if i0 < K.length ∧ ky K i0 = x.toList then ((i0 + 1 : Nat) : Int) else (i0 : Int), false) := by
  intro n
  have stop : ∀ i : Nat, (i < K.length → Op.bytesLess (ky K i) x.toList = false ∧ ky K i ≠ x.toList) → Ev (fun k => aukletref22_Find.l0 k x (i : Int) false K V D) ((i : Int), false) := fun i hi => by
    refine Ev.step (f := fun k => some ((i : Int), false)) (fun k => ?_) (Ev.now _)
    simp only [aukletref22_Find.l0]
    by_cases h : i < K.length
    · obtain ⟨h1, h2⟩ := hi h
      rw [if_pos (by omega), if_pos (by omega), rd_ky, h1, if_neg (by simp), if_neg (by simp), if_neg h2]
    · rw [if_neg (by omega), if_neg (by simp)]
  have fin : Ev (fun k => aukletref22_Find.l0 k x (i0 : Int) false K V D) (if i0 < K.length ∧ ky K i0 = x.toList then ((i0 + 1 : Nat) : Int) else (i0 : Int), false) := by
    by_cases h : i0 < K.length ∧ ky K i0 = x.toList
    · rw [if_pos h]
      refine Ev.step (f := fun k => aukletref22_Find.l0 k x ((i0 + 1 : Nat) : Int) false K V D) (fun k => ?_) (stop (i0 + 1) (fun hl => ?_))
      · have h1 := hf.2.2 i0 (Nat.le_refl _) h.1
        have hl := h.1
        simp only [aukletref22_Find.l0]
        rw [if_pos (by omega), if_pos (by omega), rd_ky, h1, if_neg (by simp), if_neg (by simp), if_pos h.2, (wrap_in (x := (i0 : Int) + 1) (by omega) (by omega)).trans (show (i0 : Int) + 1 = ((i0 + 1 : Nat) : Int) by omega)]
      · refine ⟨hf.2.2 (i0 + 1) (by omega) hl, fun e => ?_⟩
        have := ha i0 hl
        rw [h.2, e, lt_irrefl] at this
        cases this
    · rw [if_neg h]
      exact stop i0 (fun hl => ⟨hf.2.2 i0 (Nat.le_refl _) hl, fun e => h ⟨hl, e⟩⟩)
  induction n with
  | zero => intro i h1 h2; obtain rfl : i = i0 := by omega
            exact fin
  | succ n ih =>
    intro i h1 h2
    by_cases h : i < i0
    · have hl := hf.1
      refine Ev.step (f := fun k => aukletref22_Find.l0 k x ((i + 1 : Nat) : Int) false K V D) (fun k => ?_) (ih (i + 1) (by omega) (by omega))
      simp only [aukletref22_Find.l0]
      rw [if_pos (by omega), if_pos (by omega), rd_ky, if_pos (hf.2.1 i h), (wrap_in (x := (i : Int) + 1) (by omega) (by omega)).trans (show (i : Int) + 1 = ((i + 1 : Nat) : Int) by omega)]
    · obtain rfl : i = i0 := by omega
      exact fin
theorem find_same (hK : K.length ≤ 300) (ha : Asc K) : ∃ r, Ev (fun k => node_Find.f k b K V D x) r ∧ Ev (fun k => aukletref22_Find.f k b K V D x) r := by
  obtain ⟨i, hf, hs⟩ := search K x hK ha K.length 0 K.length (by omega) (by omega) (by omega) (fun j hj => by omega) (fun j h1 h2 => by omega)
  have hs2 : Ev (fun k => slices_BinarySearch_string_string.f k K x) ((i : Int), decide (i < K.length ∧ ky K i = x.toList)) := hs
  cases b with
  | true =>
    refine ⟨_, ?_, ref_leaf K V D x hK i hf i 0 (by omega) (by omega)⟩
    unfold node_Find.f
    refine Ev.bind hs2 ?_
    simp only [if_true]
    exact Ev.now _
  | false =>
    refine ⟨_, ?_, ref_branch K V D x hK ha i hf i 0 (by omega) (by omega)⟩
    unfold node_Find.f
    refine Ev.bind hs2 ?_
    simp only [Bool.false_eq_true, if_false]
    have hl := hf.1
    by_cases h : i < K.length ∧ ky K i = x.toList
    · simp only [decide_eq_true h, if_true, if_pos h]
      rw [(wrap_in (x := (i : Int) + 1) (by omega) (by omega)).trans (show (i : Int) + 1 = ((i + 1 : Nat) : Int) by omega)]
      exact Ev.now _
    · simp only [decide_eq_false h, Bool.false_eq_true, if_false, if_neg h]
      exact Ev.now _
end

theorem NodeFinds (b : Bool) (K V : List ByteArray) (D : List Int) (x : ByteArray) : ∃ k, aukletlaw22_NodeFinds.f k b K V D x = some true := by
  suffices h : Ev (fun k => aukletlaw22_NodeFinds.f k b K V D x) true from h.rounds
  have hl : Ev (fun k => (aukletlaw22_lives.f k).bind fun t => some t) true := Ev.bind node_lives (Ev.now _)
  have ht : Ev (fun k => aukletlaw22_NodeFinds.j0 k x true b K V D) true := by
    refine Ev.step (f := fun k => (aukletlaw22_lives.f k).bind fun t => some t) (fun k => ?_) hl
    simp only [aukletlaw22_NodeFinds.j0]
    rw [if_pos trivial]
  unfold aukletlaw22_NodeFinds.f
  obtain ⟨r, hr, hr2⟩ := few_ev b K V D
  refine Ev.bind hr ?_
  cases r with
  | false => simp only [Bool.false_eq_true, if_false]; exact ht
  | true =>
    simp only [if_true]
    obtain ⟨h1, h2, h3⟩ := hr2 rfl
    obtain ⟨c, hc, hc2⟩ := can_ev b K V D h1 h2 h3
    refine Ev.bind hc ?_
    cases c with
    | false => exact ht
    | true =>
      obtain ⟨q, q1, q2⟩ := find_same b K V D x h1 (hc2 rfl)
      refine Ev.step (f := fun k => (node_Find.f k b K V D x).bind fun bt202 => ((aukletref22_Find.f k b K V D x).bind fun bt204 => (if bt202.1 = bt204.1 then (if (bt202.2 == bt204.2) = true then ((aukletlaw22_lives.f k).bind fun t206 => (some t206)) else (some false)) else (some false)))) (fun k => ?_) ?_
      · simp only [aukletlaw22_NodeFinds.j0]
        rw [if_neg (by simp)]
      · refine Ev.bind q1 (Ev.bind q2 ?_)
        simp only [if_true, beq_self_eq_true]
        exact hl
end Go.Proofs.Ytbpnkgaomobpkaa.Pure
