/- Blocks and their pages in plain Lean: what can be, how much it needs, its page; short facts on few, Same, lives. -/
import Derived.Test.YtbpnkgaomobpkaaPNxux3
import Derived.Test.YtbpnkgaomobpkaaPNxux5
import Derived.Test.YtbpnkgaomobpkaaPNxux6
import Derived.Test.YtbpnkgaomobpkaaQsm
import Derived.Test.YtbpnkgaomobpkaaQow
set_option linter.unusedVariables false
set_option linter.unusedSimpArgs false
namespace Go.Proofs.Ytbpnkgaomobpkaa.Pure
open Go.RowKit Go.Proofs.Ytbpnkgaomobpkaa.PNxu Go.Proofs.YtbpnkgaomobpkaaW.PrintWords Go.Proofs.YtbpnkgaomobpkaaW.PrintLast Go.Proofs.Ytbpnkgaomobpkaa.Giv
theorem wrap_in {x : Int} (h0 : -9223372036854775808 ≤ x) (h1 : x ≤ 9223372036854775807) : wrap64 x = x := by unfold wrap64; omega
theorem wrap_s (i : Nat) (h : i ≤ 1000000000) : wrap64 ((i : Int) + 1) = ((i + 1 : Nat) : Int) := (wrap_in (by omega) (by omega)).trans (by omega)
theorem ev_mono {α : Type} {g : Nat → Option α} {r : α} (hm : ∀ k, LeO (g k) (g (k + 1))) (K : Nat) (h : g K = some r) : Ev g r := Ev.of hm h
/-- A loop that stops with no at the first place where P fails. -/
theorem loop_all {g : Nat → Nat → Option Bool} (n : Nat) (P : Nat → Prop) (fin : Bool) (hs : ∀ i, i < n → P i → ∀ k, g (k + 1) i = g k (i + 1)) (hno : ∀ i, i < n → ¬ P i → ∀ k, g (k + 1) i = some false)
    (hf : Ev (fun k => g k n) fin) : ∀ d i, i + d = n → ∃ r, Ev (fun k => g k i) r ∧ (r = true ↔ (∀ j, i ≤ j → j < n → P j) ∧ fin = true) := by
  intro d
  induction d with
  | zero =>
    intro i hi
    obtain rfl : i = n := by omega
    exact ⟨fin, hf, ⟨fun h => ⟨fun j h1 h2 => by omega, h⟩, fun h => h.2⟩⟩
  | succ d ih =>
    intro i hi
    obtain ⟨r, hr, he⟩ := ih (i + 1) (by omega)
    by_cases hp : P i
    · refine ⟨r, Ev.step (hs i (by omega) hp) hr, he.trans ⟨fun h => ⟨fun j h1 h2 => ?_, h.2⟩, fun h => ⟨fun j h1 h2 => h.1 j (by omega) h2, h.2⟩⟩⟩
      by_cases e : j = i
      · rw [e]; exact hp
      · exact h.1 j (by omega) h2
    · exact ⟨false, Ev.step (f := fun _ => some false) (hno i (by omega) hp) (Ev.now _), ⟨fun h => (by cases h), fun h => absurd (h.1 i (Nat.le_refl _) (by omega)) hp⟩⟩
/-- A loop whose state is told by its place. -/
theorem loop_acc {τ : Type} {g : Nat → Nat → Option τ} (n : Nat) {r : τ} (hs : ∀ i, i < n → ∀ k, g (k + 1) i = g k (i + 1)) (hf : Ev (fun k => g k n) r) : ∀ d i, i + d = n → Ev (fun k => g k i) r := by
  intro d
  induction d with
  | zero =>
    intro i hi
    obtain rfl : i = n := by omega
    exact hf
  | succ d ih => intro i hi; exact Ev.step (hs i (by omega)) (ih (i + 1) (by omega))
/-- The same, with rounds within a round. -/
theorem loop_accE {τ : Type} {g : Nat → Nat → Option τ} (n : Nat) {r : τ} (hs : ∀ i, i < n → Ev (fun k => g k (i + 1)) r → Ev (fun k => g k i) r) (hf : Ev (fun k => g k n) r) : ∀ d i, i + d = n → Ev (fun k => g k i) r := by
  intro d
  induction d with
  | zero =>
    intro i hi
    obtain rfl : i = n := by omega
    exact hf
  | succ d ih => intro i hi; exact hs i (by omega) (ih (i + 1) (by omega))
theorem bool_of {a b : Bool} {p : Prop} (h1 : a = true ↔ p) (h2 : b = true ↔ p) : a = b := by
  cases a <;> cases b <;> simp_all
def sz (l : List ByteArray) (i : Nat) : Nat := (l.getD i ByteArray.empty).size
def kl (l : List ByteArray) (i : Nat) : List UInt8 := (l.getD i ByteArray.empty).toList
theorem rd_sz (l : List ByteArray) (i : Nat) : (rdOf ByteArray.empty l (i : Int)).size = sz l i := rfl
theorem rd_kl (l : List ByteArray) (i : Nat) : (rdOf ByteArray.empty l (i : Int)).toList = kl l i := rfl
def GoodK (K : List ByteArray) (i : Nat) : Prop := sz K i ≤ 200 ∧ (0 < i → Op.bytesLess (kl K (i - 1)) (kl K i) = true)
def Tail (b : Bool) (K V : List ByteArray) (D : List Int) : Prop :=
  if b = true then D.length = 0 ∧ V.length = K.length ∧ ∀ i, i < V.length → sz V i ≤ 40
  else V.length = 0 ∧ D.length = K.length + 1 ∧ ∀ i, i < D.length → 1 ≤ rd D (i : Int) ∧ rd D (i : Int) ≤ 2147483647
def CanP (b : Bool) (K V : List ByteArray) (D : List Int) : Prop := (∀ j, 0 ≤ j → j < K.length → GoodK K j) ∧ Tail b K V D
section
variable (b : Bool) (K V : List ByteArray) (D : List Int)
/-! ### ref.Can -/
theorem rcan_l1 (hV : V.length ≤ 1000000) : ∃ r, Ev (fun k => aukletref22_Can.l1 k (K.length : Int) 0 true K V D) r ∧ (r = true ↔ Tail true K V D) := by
  obtain ⟨r, hr, he⟩ := loop_all (g := fun k i => aukletref22_Can.l1 k (K.length : Int) (i : Int) true K V D) V.length (fun i => sz V i ≤ 40) (if (V.length : Int) = (K.length : Int) then ((D.length : Int) == 0) else false)
    (fun i hi hp k => by
      simp only [aukletref22_Can.l1]
      rw [if_pos (by omega), if_pos (by omega), if_neg (by rw [rd_sz]; omega), wrap_s i (by omega)])
    (fun i hi hp k => by
      simp only [aukletref22_Can.l1]
      rw [if_pos (by omega), if_pos (by omega), if_pos (by rw [rd_sz]; omega)])
    (Ev.step (f := fun _ => some _) (fun k => by
      simp only [aukletref22_Can.l1]
      rw [if_neg (by omega)]
      split <;> rfl) (Ev.now _)) V.length 0 (by omega)
  refine ⟨r, hr, he.trans ?_⟩
  unfold Tail
  rw [if_pos rfl]
  constructor
  · rintro ⟨h1, h2⟩
    by_cases c : (V.length : Int) = (K.length : Int)
    · rw [if_pos c] at h2
      exact ⟨by have := beq_iff_eq.1 h2; omega, by omega, fun i hi => h1 i (Nat.zero_le _) hi⟩
    · rw [if_neg c] at h2; cases h2
  · rintro ⟨h1, h2, h3⟩
    exact ⟨fun j _ hj => h3 j hj, by rw [if_pos (by omega)]; exact beq_iff_eq.2 (by omega)⟩
theorem rcan_l2 (hK : K.length ≤ 1000000) (hD : D.length ≤ 1000000) : ∃ r, Ev (fun k => aukletref22_Can.l2 k (K.length : Int) 0 false K V D) r ∧ (r = true ↔ Tail false K V D) := by
  obtain ⟨r, hr, he⟩ := loop_all (g := fun k i => aukletref22_Can.l2 k (K.length : Int) (i : Int) false K V D) D.length (fun i => 1 ≤ rd D (i : Int) ∧ rd D (i : Int) ≤ 2147483647) (if (D.length : Int) = (wrap64 ((K.length : Int) + 1)) then ((V.length : Int) == 0) else false)
    (fun i hi hp k => by
      simp only [aukletref22_Can.l2]
      rw [if_pos (by omega), if_pos (by omega), if_neg (by omega), if_neg (by omega), wrap_s i (by omega)])
    (fun i hi hp k => by
      simp only [aukletref22_Can.l2]
      rw [if_pos (by omega), if_pos (by omega)]
      by_cases c : rd D (i : Int) < 1
      · rw [if_pos c]
      · rw [if_neg c, if_pos (by omega)])
    (Ev.step (f := fun _ => some _) (fun k => by
      simp only [aukletref22_Can.l2]
      rw [if_neg (by omega)]
      split <;> rfl) (Ev.now _)) D.length 0 (by omega)
  rw [wrap_s K.length (by omega)] at he
  refine ⟨r, hr, he.trans ?_⟩
  unfold Tail
  rw [if_neg (show ¬ (false = true) by simp)]
  constructor
  · rintro ⟨h1, h2⟩
    by_cases c : (D.length : Int) = ((K.length + 1 : Nat) : Int)
    · rw [if_pos c] at h2
      exact ⟨by have := beq_iff_eq.1 h2; omega, by omega, fun i hi => h1 i (Nat.zero_le _) hi⟩
    · rw [if_neg c] at h2; cases h2
  · rintro ⟨h1, h2, h3⟩
    exact ⟨fun j _ hj => h3 j hj, by rw [if_pos (by omega)]; exact beq_iff_eq.2 (by omega)⟩
theorem wrap_p (i : Nat) (h : i ≤ 1000000000) (h0 : 0 < i) : wrap64 ((i : Int) - 1) = ((i - 1 : Nat) : Int) := (wrap_in (by omega) (by omega)).trans (by omega)
theorem rcan_ev (hK : K.length ≤ 1000000) (hV : V.length ≤ 1000000) (hD : D.length ≤ 1000000) : ∃ r, Ev (fun k => aukletref22_Can.f k b K V D) r ∧ (r = true ↔ CanP b K V D) := by
  obtain ⟨t, ht, hte⟩ : ∃ t, Ev (fun k => aukletref22_Can.l0 k (K.length : Int) (K.length : Int) b K V D) t ∧ (t = true ↔ Tail b K V D) := by
    cases b with
    | true =>
      obtain ⟨r, hr, he⟩ := rcan_l1 K V D hV
      exact ⟨r, Ev.step (fun k => by simp only [aukletref22_Can.l0]; rw [if_neg (by omega), if_pos trivial]) hr, he⟩
    | false =>
      obtain ⟨r, hr, he⟩ := rcan_l2 K V D hK hD
      exact ⟨r, Ev.step (fun k => by simp only [aukletref22_Can.l0]; rw [if_neg (by omega), if_neg (by simp)]) hr, he⟩
  obtain ⟨r, hr, he⟩ := loop_all (g := fun k i => aukletref22_Can.l0 k (K.length : Int) (i : Int) b K V D) K.length (GoodK K) t
    (fun i hi hp k => by
      simp only [aukletref22_Can.l0]
      rw [if_pos (by omega), if_pos (by omega), if_pos (by omega), if_neg (by rw [rd_sz]; have := hp.1; omega)]
      by_cases c : 0 < i
      · rw [if_pos (by omega), wrap_p i (by omega) c, if_pos (by omega), if_pos (by omega), rd_kl, rd_kl, if_pos (hp.2 c), wrap_s i (by omega)]
      · rw [if_neg (by omega), wrap_s i (by omega)])
    (fun i hi hp k => by
      simp only [aukletref22_Can.l0]
      rw [if_pos (by omega), if_pos (by omega), if_pos (by omega)]
      by_cases c1 : sz K i ≤ 200
      · rw [if_neg (by rw [rd_sz]; omega)]
        by_cases c : 0 < i
        · rw [if_pos (by omega), wrap_p i (by omega) c, if_pos (by omega), if_pos (by omega), rd_kl, rd_kl, if_neg (fun h => hp ⟨c1, fun _ => h⟩)]
        · exact absurd ⟨c1, fun h => absurd h c⟩ hp
      · rw [if_pos (by rw [rd_sz]; omega)])
    ht K.length 0 (by omega)
  refine ⟨r, hr, he.trans ?_⟩
  exact ⟨fun h => ⟨h.1, hte.1 h.2⟩, fun h => ⟨h.1, hte.2 h.2⟩⟩
/-! ### node.can -/
theorem idx_s (hV : V.length ≤ 1000000) : ∃ r, Ev (fun k => slices_ContainsFunc_string_string.f k V 0) r ∧ (r = false ↔ ∀ i, i < V.length → sz V i ≤ 40) := by
  have h : ∀ d i, i + d = V.length → ∃ r, Ev (fun k => slices_IndexFunc_string_string.l0 k V (V.length : Int) (i : Int)) r ∧ (r < 0 ↔ ∀ j, i ≤ j → j < V.length → sz V j ≤ 40) := by
    intro d
    induction d with
    | zero =>
      intro i hi
      refine ⟨-1, Ev.step (f := fun _ => some (-1)) (fun k => by simp only [slices_IndexFunc_string_string.l0]; rw [if_neg (by omega)]) (Ev.now _), ⟨fun _ j h1 h2 => by omega, fun _ => by decide⟩⟩
    | succ d ih =>
      intro i hi
      by_cases c : sz V i ≤ 40
      · obtain ⟨r, hr, he⟩ := ih (i + 1) (by omega)
        refine ⟨r, Ev.step (fun k => ?_) hr, he.trans ⟨fun h j h1 h2 => ?_, fun h j h1 h2 => h j (by omega) h2⟩⟩
        · simp only [slices_IndexFunc_string_string.l0, node_can1.f, Option.bind_some]
          rw [if_pos (by omega), if_pos (by omega), if_pos (by omega), if_neg (by rw [rd_sz]; simp; omega), wrap_s i (by omega)]
        · by_cases e : j = i
          · rw [e]; exact c
          · exact h j (by omega) h2
      · refine ⟨(i : Int), Ev.step (f := fun _ => some (i : Int)) (fun k => ?_) (Ev.now _), ⟨fun h => by omega, fun h => absurd (h i (Nat.le_refl _) (by omega)) c⟩⟩
        simp only [slices_IndexFunc_string_string.l0, node_can1.f, Option.bind_some]
        rw [if_pos (by omega), if_pos (by omega), if_pos (by omega), if_pos (by rw [rd_sz]; simp; omega)]
  obtain ⟨r, hr, he⟩ := h V.length 0 (by omega)
  refine ⟨decide (r ≥ 0), ?_, ?_⟩
  · unfold slices_ContainsFunc_string_string.f slices_IndexFunc_string_string.f
    exact Ev.bind (f := fun _ t => some (decide (t ≥ 0))) hr (Ev.now _)
  · rw [decide_eq_false_iff_not]
    constructor
    · intro h i hi; exact he.1 (by omega) i (Nat.zero_le _) hi
    · intro h h2; have := he.2 (fun j _ hj => h j hj); omega
theorem idx_i (hD : D.length ≤ 1000000) : ∃ r, Ev (fun k => slices_ContainsFunc_int_int.f k D 0) r ∧ (r = false ↔ ∀ i, i < D.length → 1 ≤ rd D (i : Int) ∧ rd D (i : Int) ≤ 2147483647) := by
  have h : ∀ d i, i + d = D.length → ∃ r, Ev (fun k => slices_IndexFunc_int_int.l0 k D (D.length : Int) (i : Int)) r ∧ (r < 0 ↔ ∀ j, i ≤ j → j < D.length → 1 ≤ rd D (j : Int) ∧ rd D (j : Int) ≤ 2147483647) := by
    intro d
    induction d with
    | zero =>
      intro i hi
      refine ⟨-1, Ev.step (f := fun _ => some (-1)) (fun k => by simp only [slices_IndexFunc_int_int.l0]; rw [if_neg (by omega)]) (Ev.now _), ⟨fun _ j h1 h2 => by omega, fun _ => by decide⟩⟩
    | succ d ih =>
      intro i hi
      by_cases c : 1 ≤ rd D (i : Int) ∧ rd D (i : Int) ≤ 2147483647
      · obtain ⟨r, hr, he⟩ := ih (i + 1) (by omega)
        refine ⟨r, Ev.step (fun k => ?_) hr, he.trans ⟨fun h j h1 h2 => ?_, fun h j h1 h2 => h j (by omega) h2⟩⟩
        · simp only [slices_IndexFunc_int_int.l0, node_can2.f, Option.bind_some]
          rw [if_pos (by omega), if_pos (by omega), if_pos (by omega), if_neg (by simp; omega), wrap_s i (by omega)]
        · by_cases e : j = i
          · rw [e]; exact c
          · exact h j (by omega) h2
      · refine ⟨(i : Int), Ev.step (f := fun _ => some (i : Int)) (fun k => ?_) (Ev.now _), ⟨fun h => by omega, fun h => absurd (h i (Nat.le_refl _) (by omega)) c⟩⟩
        simp only [slices_IndexFunc_int_int.l0, node_can2.f, Option.bind_some]
        rw [if_pos (by omega), if_pos (by omega), if_pos (by omega), if_pos (by simp; omega)]
  obtain ⟨r, hr, he⟩ := h D.length 0 (by omega)
  refine ⟨decide (r ≥ 0), ?_, ?_⟩
  · unfold slices_ContainsFunc_int_int.f slices_IndexFunc_int_int.f
    exact Ev.bind (f := fun _ t => some (decide (t ≥ 0))) hr (Ev.now _)
  · rw [decide_eq_false_iff_not]
    constructor
    · intro h i hi; exact he.1 (by omega) i (Nat.zero_le _) hi
    · intro h h2; have := he.2 (fun j _ hj => h j hj); omega
theorem ncan_ev (hK : K.length ≤ 1000000) (hV : V.length ≤ 1000000) (hD : D.length ≤ 1000000) : ∃ r, Ev (fun k => node_can.f k b K V D) r ∧ (r = true ↔ CanP b K V D) := by
  obtain ⟨t, ht, hte⟩ : ∃ t, Ev (fun k => node_can.l0 k K (K.length : Int) (K.length : Int) b K V D) t ∧ (t = true ↔ Tail b K V D) := by
    cases b with
    | true =>
      obtain ⟨r, hr, he⟩ := idx_s V hV
      by_cases c : D.length = 0 ∧ V.length = K.length
      · refine ⟨!r, Ev.step (f := fun k => (slices_ContainsFunc_string_string.f k V 0).bind fun t => some (!t)) (fun k => by simp only [node_can.l0]; rw [if_neg (by omega), if_pos trivial, if_pos (by omega), if_pos (by omega)]) (Ev.bind (f := fun _ t => some (!t)) hr (Ev.now _)), ?_⟩
        unfold Tail; rw [if_pos rfl, Bool.not_eq_true', he]
        exact ⟨fun h => ⟨c.1, c.2, h⟩, fun h => h.2.2⟩
      · refine ⟨false, Ev.step (f := fun _ => some false) (fun k => ?_) (Ev.now _), ⟨fun h => (by cases h), fun h => ?_⟩⟩
        · simp only [node_can.l0]; rw [if_neg (by omega), if_pos trivial]
          by_cases c1 : (D.length : Int) = 0
          · rw [if_pos c1, if_neg (by omega)]
          · rw [if_neg c1]
        · unfold Tail at h; rw [if_pos rfl] at h; exact absurd ⟨h.1, h.2.1⟩ c
    | false =>
      obtain ⟨r, hr, he⟩ := idx_i D hD
      by_cases c : V.length = 0 ∧ D.length = K.length + 1
      · refine ⟨!r, Ev.step (f := fun k => (slices_ContainsFunc_int_int.f k D 0).bind fun t => some (!t)) (fun k => by simp only [node_can.l0]; rw [if_neg (by omega), if_neg (by simp), if_pos (by omega), wrap_s K.length (by omega), if_pos (by omega)]) (Ev.bind (f := fun _ t => some (!t)) hr (Ev.now _)), ?_⟩
        unfold Tail; rw [if_neg (by simp), Bool.not_eq_true', he]
        exact ⟨fun h => ⟨c.1, c.2, h⟩, fun h => h.2.2⟩
      · refine ⟨false, Ev.step (f := fun _ => some false) (fun k => ?_) (Ev.now _), ⟨fun h => (by cases h), fun h => ?_⟩⟩
        · simp only [node_can.l0]; rw [if_neg (by omega), if_neg (by simp)]
          by_cases c1 : (V.length : Int) = 0
          · rw [if_pos c1, wrap_s K.length (by omega), if_neg (by omega)]
          · rw [if_neg c1]
        · unfold Tail at h; rw [if_neg (by simp)] at h; exact absurd ⟨h.1, h.2.1⟩ c
  obtain ⟨r, hr, he⟩ := loop_all (g := fun k i => node_can.l0 k K (K.length : Int) (i : Int) b K V D) K.length (GoodK K) t
    (fun i hi hp k => by
      simp only [node_can.l0]
      rw [if_pos (by omega), if_pos (by omega), if_pos (by omega), if_neg (by rw [rd_sz]; have := hp.1; omega)]
      by_cases c : 0 < i
      · rw [if_pos (by omega), wrap_p i (by omega) c, if_pos (by omega), if_pos (by omega), rd_kl, rd_kl, if_pos (hp.2 c), wrap_s i (by omega)]
      · rw [if_neg (by omega), wrap_s i (by omega)])
    (fun i hi hp k => by
      simp only [node_can.l0]
      rw [if_pos (by omega), if_pos (by omega), if_pos (by omega)]
      by_cases c1 : sz K i ≤ 200
      · rw [if_neg (by rw [rd_sz]; omega)]
        by_cases c : 0 < i
        · rw [if_pos (by omega), wrap_p i (by omega) c, if_pos (by omega), if_pos (by omega), rd_kl, rd_kl, if_neg (fun h => hp ⟨c1, fun _ => h⟩)]
        · exact absurd ⟨c1, fun h => absurd h c⟩ hp
      · rw [if_pos (by rw [rd_sz]; omega)])
    ht K.length 0 (by omega)
  refine ⟨r, hr, he.trans ?_⟩
  exact ⟨fun h => ⟨h.1, hte.1 h.2⟩, fun h => ⟨h.1, hte.2 h.2⟩⟩
/-! ### how much a block needs -/
/-- what key i needs, and what lies beside it (a value that is not there: none) -/
def item (i : Nat) : Int := if b = true then 2 + sz K i + sz V i else 5 + sz K i
def needTo : Nat → Int
  | 0 => if b = true then 0 else 4
  | i + 1 => needTo i + item b K V i
def Small (l : List ByteArray) : Prop := l.length ≤ 100000 ∧ ∀ i, sz l i ≤ 1000
theorem item_bd (hK : Small K) (hV : Small V) (i : Nat) : 0 ≤ item b K V i ∧ item b K V i ≤ 2010 := by
  unfold item
  have := hK.2 i
  have := hV.2 i
  cases b <;> simp <;> omega
theorem need_bd (hK : Small K) (hV : Small V) (i : Nat) : 0 ≤ needTo b K V i ∧ needTo b K V i ≤ 4 + 2010 * (i : Int) := by
  induction i with
  | zero => unfold needTo; cases b <;> simp
  | succ i ih =>
    have := item_bd b K V hK hV i
    show 0 ≤ needTo b K V i + item b K V i ∧ needTo b K V i + item b K V i ≤ _
    omega
theorem need_mono (hK : Small K) (hV : Small V) {i j : Nat} (h : i ≤ j) : needTo b K V i ≤ needTo b K V j := by
  induction j with
  | zero => obtain rfl : i = 0 := by omega
            exact Int.le_refl _
  | succ j ih =>
    by_cases e : i = j + 1
    · rw [e]; exact Int.le_refl _
    · have := ih (by omega)
      have := item_bd b K V hK hV j
      show _ ≤ needTo b K V j + item b K V j
      omega
theorem sz_out {l : List ByteArray} {i : Nat} (h : l.length ≤ i) : sz l i = 0 := by
  unfold sz
  rw [List.getD_eq_getElem?_getD, List.getElem?_eq_none h]; rfl
theorem rneed_ev (hK : Small K) (hV : Small V) (n : Nat) (hn : n ≤ K.length) : Ev (fun k => aukletref22_Need.f k b K V D (n : Int)) (needTo b K V n) := by
  have hKl := hK.1
  have main : Ev (fun k => aukletref22_Need.l0 k (n : Int) (needTo b K V 0) ((0 : Nat) : Int) b K V D) (needTo b K V n) := by
    refine loop_acc (g := fun k i => aukletref22_Need.l0 k (n : Int) (needTo b K V i) (i : Int) b K V D) n (fun i hi k => ?_) (Ev.step (f := fun _ => some _) (fun k => ?_) (Ev.now _)) n 0 (by omega)
    · have h1 := need_bd b K V hK hV i
      have h2 := item_bd b K V hK hV i
      have hk := hK.2 i
      have hv := hV.2 i
      have hs : needTo b K V (i + 1) = needTo b K V i + item b K V i := rfl
      simp only [aukletref22_Need.l0]
      rw [if_pos (by omega)]
      cases b with
      | true =>
        have he : item true K V i = 2 + sz K i + sz V i := by simp [item]
        rw [if_pos rfl, if_pos (by omega), if_pos (by omega), rd_sz, wrap_s i (by omega), hs, he]
        by_cases c : i < V.length
        · rw [if_pos (by omega), rd_sz, wrap_in (x := needTo true K V i + 2) (by omega) (by omega), wrap_in (x := needTo true K V i + 2 + (sz K i : Int)) (by omega) (by omega), wrap_in (by omega) (by omega)]
          congr 1; omega
        · have h0 := sz_out (l := V) (i := i) (by omega)
          rw [if_neg (by omega), wrap_in (x := needTo true K V i + 2) (by omega) (by omega), wrap_in (by omega) (by omega), h0]
          congr 1; omega
      | false =>
        have he : item false K V i = 5 + sz K i := by simp [item]
        rw [if_neg (by simp), if_pos (by omega), if_pos (by omega), rd_sz, wrap_s i (by omega), hs, he, wrap_in (x := needTo false K V i + 5) (by omega) (by omega), wrap_in (by omega) (by omega)]
        congr 1; omega
    · simp only [aukletref22_Need.l0]
      rw [if_neg (by omega)]
  unfold aukletref22_Need.f
  cases b with
  | true =>
    simp only [if_true]
    exact Ev.step (fun k => by simp only [aukletref22_Need.j0]; rfl) main
  | false =>
    simp only [Bool.false_eq_true, if_false]
    exact Ev.step (fun k => by simp only [aukletref22_Need.j0]; rfl) main
theorem nneed_ev (hK : Small K) (hV : Small V) (n : Nat) (hn : n ≤ K.length) (hb : b = true → n ≤ V.length) : Ev (fun k => node_need.f k b K V D (n : Int)) (needTo b K V n) := by
  have hKl := hK.1
  have htl : (K.take n).length = n := by rw [List.length_take]; omega
  have hts : ∀ i, i < n → (rdOf ByteArray.empty (K.take n) (i : Int)).size = sz K i := fun i hi => by
    unfold rdOf sz
    simp only [Int.toNat_natCast]
    rw [List.getD_eq_getElem?_getD, List.getD_eq_getElem?_getD, List.getElem?_take_of_lt hi]
  have main : Ev (fun k => node_need.l0 k (needTo b K V 0) (K.take n) (n : Int) ((0 : Nat) : Int) b K V D) (needTo b K V n) := by
    refine loop_acc (g := fun k i => node_need.l0 k (needTo b K V i) (K.take n) (n : Int) (i : Int) b K V D) n (fun i hi k => ?_) (Ev.step (f := fun _ => some _) (fun k => ?_) (Ev.now _)) n 0 (by omega)
    · have h1 := need_bd b K V hK hV i
      have h2 := item_bd b K V hK hV i
      have hk := hK.2 i
      have hv := hV.2 i
      have hs : needTo b K V (i + 1) = needTo b K V i + item b K V i := rfl
      simp only [node_need.l0]
      rw [if_pos (by omega), if_pos (by omega), if_pos (by omega), hts i hi]
      cases b with
      | true =>
        have he : item true K V i = 2 + sz K i + sz V i := by simp [item]
        have hl := hb rfl
        rw [if_pos rfl, if_pos (by omega), wrap_s i (by omega), hs, he, rd_sz, wrap_in (x := 2 + (sz K i : Int)) (by omega) (by omega), wrap_in (x := 2 + (sz K i : Int) + (sz V i : Int)) (by omega) (by omega), wrap_in (by omega) (by omega)]
      | false =>
        have he : item false K V i = 5 + sz K i := by simp [item]
        rw [if_neg (by simp), wrap_s i (by omega), hs, he, wrap_in (x := 5 + (sz K i : Int)) (by omega) (by omega), wrap_in (by omega) (by omega)]
    · simp only [node_need.l0]
      rw [if_neg (by omega)]
  have step : ∀ k, node_need.j0 (k + 1) (n : Int) (needTo b K V 0) b K V D = node_need.l0 k (needTo b K V 0) (K.take n) (n : Int) ((0 : Nat) : Int) b K V D := fun k => by
    simp only [node_need.j0]
    rw [if_pos (by omega), if_pos (by omega)]
    simp only [Int.toNat_natCast]
    rw [htl]; rfl
  unfold node_need.f
  cases b with
  | true =>
    simp only [if_true]
    exact Ev.step step main
  | false =>
    simp only [Bool.false_eq_true, if_false]
    exact Ev.step step main
theorem tail_v {K V : List ByteArray} {D : List Int} (h : Tail true K V D) : D.length = 0 ∧ V.length = K.length ∧ ∀ i, i < V.length → sz V i ≤ 40 := by unfold Tail at h; rwa [if_pos rfl] at h
theorem tail_d {K V : List ByteArray} {D : List Int} (h : Tail false K V D) : V.length = 0 ∧ D.length = K.length + 1 ∧ ∀ i, i < D.length → 1 ≤ rd D (i : Int) ∧ rd D (i : Int) ≤ 2147483647 := by unfold Tail at h; rwa [if_neg (by simp)] at h
end
theorem node_lives : Ev (fun k => aukletlaw22_lives.f k) true := ev_mono (fun k => aukletlaw22_lives.mono k) 12 (by decide +kernel)
theorem same_s (l : List ByteArray) (hl : l.length ≤ 1000000) : Ev (fun k => aukletref02_Same.f k l l) true := by
  unfold aukletref02_Same.f
  simp only [if_true]
  refine loop_acc (g := fun k i => aukletref02_Same.l0 k l l (i : Int)) l.length (fun i hi k => ?_) (Ev.step (f := fun _ => some true) (fun k => ?_) (Ev.now _)) l.length 0 (by omega)
  · simp only [aukletref02_Same.l0, if_true]
    rw [if_pos (by omega), if_pos (by omega), wrap_s i (by omega), if_pos (by omega)]
  · simp only [aukletref02_Same.l0]
    rw [if_neg (by omega)]
theorem same_i (l : List Int) (hl : l.length ≤ 1000000) : Ev (fun k => aukletref06_Same.f k l l) true := by
  unfold aukletref06_Same.f
  simp only [if_true]
  refine loop_acc (g := fun k i => aukletref06_Same.l0 k l l (i : Int)) l.length (fun i hi k => ?_) (Ev.step (f := fun _ => some true) (fun k => ?_) (Ev.now _)) l.length 0 (by omega)
  · simp only [aukletref06_Same.l0, if_true]
    rw [if_pos (by omega), if_pos (by omega), wrap_s i (by omega), if_pos (by omega)]
  · simp only [aukletref06_Same.l0]
    rw [if_neg (by omega)]
theorem same_b (b : Bool) (K V : List ByteArray) (D : List Int) (hK : K.length ≤ 1000000) (hV : V.length ≤ 1000000) (hD : D.length ≤ 1000000) : Ev (fun k => aukletref22_Same.f k b K V D b K V D) true := by
  unfold aukletref22_Same.f
  simp only [beq_self_eq_true, if_true]
  refine Ev.bind (same_s K hK) (Ev.congr (fun k => by rw [if_pos rfl]) (Ev.bind (same_s V hV) (Ev.congr (fun k => by rw [if_pos rfl]) (Ev.bind (f := fun _ t => some t) (same_i D hD) (Ev.now _)))))
/-! ### few -/
section
variable (b : Bool) (K V : List ByteArray) (D : List Int)
theorem few_l1 (hV : V.length ≤ 300) : ∃ r, Ev (fun k => aukletlaw22_few.l1 k 0 b K V D) r ∧ (r = true ↔ ∀ j, 0 ≤ j → j < V.length → sz V j ≤ 1000) := by
  obtain ⟨r, hr, he⟩ := loop_all (g := fun k i => aukletlaw22_few.l1 k (i : Int) b K V D) V.length (fun i => sz V i ≤ 1000) true
    (fun i hi hp k => by
      simp only [aukletlaw22_few.l1]
      rw [if_pos (by omega), if_pos (by omega), if_neg (by rw [rd_sz]; omega), wrap_s i (by omega)])
    (fun i hi hp k => by
      simp only [aukletlaw22_few.l1]
      rw [if_pos (by omega), if_pos (by omega), if_pos (by rw [rd_sz]; omega)])
    (Ev.step (f := fun _ => some true) (fun k => by
      simp only [aukletlaw22_few.l1]
      rw [if_neg (by omega)]) (Ev.now _)) V.length 0 (by omega)
  exact ⟨r, hr, he.trans ⟨fun h => h.1, fun h => ⟨h, rfl⟩⟩⟩
theorem few_l0 (hK : K.length ≤ 300) (hV : V.length ≤ 300) : ∃ r, Ev (fun k => aukletlaw22_few.l0 k 0 b K V D) r ∧ (r = true → (∀ j, j < K.length → sz K j ≤ 1000) ∧ ∀ j, j < V.length → sz V j ≤ 1000) := by
  obtain ⟨t, ht, hte⟩ := few_l1 b K V D hV
  obtain ⟨r, hr, he⟩ := loop_all (g := fun k i => aukletlaw22_few.l0 k (i : Int) b K V D) K.length (fun i => sz K i ≤ 1000) t
    (fun i hi hp k => by
      simp only [aukletlaw22_few.l0]
      rw [if_pos (by omega), if_pos (by omega), if_neg (by rw [rd_sz]; omega), wrap_s i (by omega)])
    (fun i hi hp k => by
      simp only [aukletlaw22_few.l0]
      rw [if_pos (by omega), if_pos (by omega), if_pos (by rw [rd_sz]; omega)])
    (Ev.step (fun k => by
      simp only [aukletlaw22_few.l0]
      rw [if_neg (by omega)]) ht) K.length 0 (by omega)
  exact ⟨r, hr, fun h => ⟨fun j hj => (he.1 h).1 j (Nat.zero_le _) hj, fun j hj => hte.1 (he.1 h).2 j (Nat.zero_le _) hj⟩⟩
theorem few_ev : ∃ r, Ev (fun k => aukletlaw22_few.f k b K V D) r ∧ (r = true → Small K ∧ Small V ∧ D.length ≤ 300 ∧ K.length ≤ 300 ∧ V.length ≤ 300) := by
  have no : Ev (fun k => aukletlaw22_few.j0 k true b K V D) false := Ev.step (f := fun _ => some false) (fun k => by simp only [aukletlaw22_few.j0, if_true]) (Ev.now _)
  unfold aukletlaw22_few.f
  by_cases h1 : (K.length : Int) > 300
  · simp only [if_pos h1]
    exact ⟨false, no, fun e => by cases e⟩
  · simp only [if_neg h1]
    by_cases h2 : (V.length : Int) > 300
    · simp only [if_pos h2]
      exact ⟨false, no, fun e => by cases e⟩
    · simp only [if_neg h2]
      by_cases h3 : (D.length : Int) > 300
      · rw [decide_eq_true h3]
        exact ⟨false, no, fun e => by cases e⟩
      · rw [decide_eq_false h3]
        obtain ⟨r, hr, he⟩ := few_l0 b K V D (by omega) (by omega)
        have all : ∀ l : List ByteArray, (∀ j, j < l.length → sz l j ≤ 1000) → ∀ i, sz l i ≤ 1000 := fun l h i => by
          by_cases c : i < l.length
          · exact h i c
          · rw [sz_out (by omega)]; omega
        exact ⟨r, Ev.step (fun k => by simp only [aukletlaw22_few.j0, Bool.false_eq_true, if_false]) hr, fun h => ⟨⟨by omega, all K (he h).1⟩, ⟨by omega, all V (he h).2⟩, by omega, by omega, by omega⟩⟩
end
end Go.Proofs.Ytbpnkgaomobpkaa.Pure
