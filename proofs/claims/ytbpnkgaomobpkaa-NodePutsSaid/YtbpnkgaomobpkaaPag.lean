/- Blocks and their pages in plain Lean: what can be, how much it needs, its page; both texts of it tell the same. -/
import Derived.Test.YtbpnkgaomobpkaaPNxux3
import Derived.Test.YtbpnkgaomobpkaaPNxux7
set_option linter.unusedVariables false
set_option linter.unusedSimpArgs false
namespace Go.Proofs.Ytbpnkgaomobpkaa.Pure
open Go.RowKit Go.Proofs.Ytbpnkgaomobpkaa.PNxu Go.Proofs.YtbpnkgaomobpkaaW.PrintWords Go.Proofs.YtbpnkgaomobpkaaW.PrintLast Go.Proofs.Ytbpnkgaomobpkaa.Giv
theorem wrap_in {x : Int} (h0 : -9223372036854775808 ≤ x) (h1 : x ≤ 9223372036854775807) : wrap64 x = x := by unfold wrap64; omega
theorem wrap_s (i : Nat) (h : i ≤ 1000000000) : wrap64 ((i : Int) + 1) = ((i + 1 : Nat) : Int) := (wrap_in (by omega) (by omega)).trans (by omega)
theorem ev_mono {α : Type} {g : Nat → Option α} {r : α} (hm : ∀ k, LeO (g k) (g (k + 1))) (K : Nat) (h : g K = some r) : Ev g r := Ev.of hm h
/-- A loop that stops with no at the first place where P fails. -/
theorem loop_all {g : Nat → Nat → Option Bool} (n : Nat) (P : Nat → Prop) (fin : Bool) (hs : ∀ i, i < n → P i → ∀ k, g (k + 1) i = g k (i + 1)) (hno : ∀ i, i < n → ¬ P i → ∀ k, g (k + 1) i = some false)
    (hf : Ev (fun k => g k n) fin) : ∀ d i, i + d = n → ∃ r, Ev (fun k => g k i) r ∧ (r = true ↔ (∀ j, i ≤ j → j < n → P j) ∧ fin = true) := by
  intro d
  induction d with
  | zero =>
    intro i hi
    obtain rfl : i = n := by omega
    exact ⟨fin, hf, ⟨fun h => ⟨fun j h1 h2 => by omega, h⟩, fun h => h.2⟩⟩
  | succ d ih =>
    intro i hi
    obtain ⟨r, hr, he⟩ := ih (i + 1) (by omega)
    by_cases hp : P i
    · refine ⟨r, Ev.step (hs i (by omega) hp) hr, he.trans ⟨fun h => ⟨fun j h1 h2 => ?_, h.2⟩, fun h => ⟨fun j h1 h2 => h.1 j (by omega) h2, h.2⟩⟩⟩
      by_cases e : j = i
      · rw [e]; exact hp
      · exact h.1 j (by omega) h2
    · exact ⟨false, Ev.step (f := fun _ => some false) (hno i (by omega) hp) (Ev.now _), ⟨fun h => (by cases h), fun h => absurd (h.1 i (Nat.le_refl _) (by omega)) hp⟩⟩
/-- A loop whose state is told by its place. -/
theorem loop_acc {τ : Type} {g : Nat → Nat → Option τ} (n : Nat) {r : τ} (hs : ∀ i, i < n → ∀ k, g (k + 1) i = g k (i + 1)) (hf : Ev (fun k => g k n) r) : ∀ d i, i + d = n → Ev (fun k => g k i) r := by
  intro d
  induction d with
  | zero =>
    intro i hi
    obtain rfl : i = n := by omega
    exact hf
  | succ d ih => intro i hi; exact Ev.step (hs i (by omega)) (ih (i + 1) (by omega))
/-- The same, with rounds within a round. -/
theorem loop_accE {τ : Type} {g : Nat → Nat → Option τ} (n : Nat) {r : τ} (hs : ∀ i, i < n → Ev (fun k => g k (i + 1)) r → Ev (fun k => g k i) r) (hf : Ev (fun k => g k n) r) : ∀ d i, i + d = n → Ev (fun k => g k i) r := by
  intro d
  induction d with
  | zero =>
    intro i hi
    obtain rfl : i = n := by omega
    exact hf
  | succ d ih => intro i hi; exact hs i (by omega) (ih (i + 1) (by omega))
theorem bool_of {a b : Bool} {p : Prop} (h1 : a = true ↔ p) (h2 : b = true ↔ p) : a = b := by
  cases a <;> cases b <;> simp_all
def sz (l : List ByteArray) (i : Nat) : Nat := (l.getD i ByteArray.empty).size
def kl (l : List ByteArray) (i : Nat) : List UInt8 := (l.getD i ByteArray.empty).toList
theorem rd_sz (l : List ByteArray) (i : Nat) : (rdOf ByteArray.empty l (i : Int)).size = sz l i := rfl
theorem rd_kl (l : List ByteArray) (i : Nat) : (rdOf ByteArray.empty l (i : Int)).toList = kl l i := rfl
def GoodK (K : List ByteArray) (i : Nat) : Prop := sz K i ≤ 200 ∧ (0 < i → Op.bytesLess (kl K (i - 1)) (kl K i) = true)
def Tail (b : Bool) (K V : List ByteArray) (D : List Int) : Prop :=
  if b = true then D.length = 0 ∧ V.length = K.length ∧ ∀ i, i < V.length → sz V i ≤ 40
  else V.length = 0 ∧ D.length = K.length + 1 ∧ ∀ i, i < D.length → 1 ≤ rd D (i : Int) ∧ rd D (i : Int) ≤ 2147483647
def CanP (b : Bool) (K V : List ByteArray) (D : List Int) : Prop := (∀ j, 0 ≤ j → j < K.length → GoodK K j) ∧ Tail b K V D
section
variable (b : Bool) (K V : List ByteArray) (D : List Int)
/-! ### ref.Can -/
theorem rcan_l1 (hV : V.length ≤ 1000000) : ∃ r, Ev (fun k => aukletref22_Can.l1 k (K.length : Int) 0 true K V D) r ∧ (r = true ↔ Tail true K V D) := by
  obtain ⟨r, hr, he⟩ := loop_all (g := fun k i => aukletref22_Can.l1 k (K.length : Int) (i : Int) true K V D) V.length (fun i => sz V i ≤ 40) (if (V.length : Int) = (K.length : Int) then ((D.length : Int) == 0) else false)
    (fun i hi hp k => by
      simp only [aukletref22_Can.l1]
      rw [if_pos (by omega), if_pos (by omega), if_neg (by rw [rd_sz]; omega), wrap_s i (by omega)])
    (fun i hi hp k => by
      simp only [aukletref22_Can.l1]
      rw [if_pos (by omega), if_pos (by omega), if_pos (by rw [rd_sz]; omega)])
    (Ev.step (f := fun _ => some _) (fun k => by
      simp only [aukletref22_Can.l1]
      rw [if_neg (by omega)]
      split <;> rfl) (Ev.now _)) V.length 0 (by omega)
  refine ⟨r, hr, he.trans ?_⟩
  unfold Tail
  rw [if_pos rfl]
  constructor
  · rintro ⟨h1, h2⟩
    by_cases c : (V.length : Int) = (K.length : Int)
    · rw [if_pos c] at h2
      exact ⟨by have := beq_iff_eq.1 h2; omega, by omega, fun i hi => h1 i (Nat.zero_le _) hi⟩
    · rw [if_neg c] at h2; cases h2
  · rintro ⟨h1, h2, h3⟩
    exact ⟨fun j _ hj => h3 j hj, by rw [if_pos (by omega)]; exact beq_iff_eq.2 (by omega)⟩
theorem rcan_l2 (hK : K.length ≤ 1000000) (hD : D.length ≤ 1000000) : ∃ r, Ev (fun k => aukletref22_Can.l2 k (K.length : Int) 0 false K V D) r ∧ (r = true ↔ Tail false K V D) := by
  obtain ⟨r, hr, he⟩ := loop_all (g := fun k i => aukletref22_Can.l2 k (K.length : Int) (i : Int) false K V D) D.length (fun i => 1 ≤ rd D (i : Int) ∧ rd D (i : Int) ≤ 2147483647) (if (D.length : Int) = (wrap64 ((K.length : Int) + 1)) then ((V.length : Int) == 0) else false)
    (fun i hi hp k => by
      simp only [aukletref22_Can.l2]
      rw [if_pos (by omega), if_pos (by omega), if_neg (by omega), if_neg (by omega), wrap_s i (by omega)])
    (fun i hi hp k => by
      simp only [aukletref22_Can.l2]
      rw [if_pos (by omega), if_pos (by omega)]
      by_cases c : rd D (i : Int) < 1
      · rw [if_pos c]
      · rw [if_neg c, if_pos (by omega)])
    (Ev.step (f := fun _ => some _) (fun k => by
      simp only [aukletref22_Can.l2]
      rw [if_neg (by omega)]
      split <;> rfl) (Ev.now _)) D.length 0 (by omega)
  rw [wrap_s K.length (by omega)] at he
  refine ⟨r, hr, he.trans ?_⟩
  unfold Tail
  rw [if_neg (show ¬ (false = true) by simp)]
  constructor
  · rintro ⟨h1, h2⟩
    by_cases c : (D.length : Int) = ((K.length + 1 : Nat) : Int)
    · rw [if_pos c] at h2
      exact ⟨by have := beq_iff_eq.1 h2; omega, by omega, fun i hi => h1 i (Nat.zero_le _) hi⟩
    · rw [if_neg c] at h2; cases h2
  · rintro ⟨h1, h2, h3⟩
    exact ⟨fun j _ hj => h3 j hj, by rw [if_pos (by omega)]; exact beq_iff_eq.2 (by omega)⟩
theorem wrap_p (i : Nat) (h : i ≤ 1000000000) (h0 : 0 < i) : wrap64 ((i : Int) - 1) = ((i - 1 : Nat) : Int) := (wrap_in (by omega) (by omega)).trans (by omega)
theorem rcan_ev (hK : K.length ≤ 1000000) (hV : V.length ≤ 1000000) (hD : D.length ≤ 1000000) : ∃ r, Ev (fun k => aukletref22_Can.f k b K V D) r ∧ (r = true ↔ CanP b K V D) := by
  obtain ⟨t, ht, hte⟩ : ∃ t, Ev (fun k => aukletref22_Can.l0 k (K.length : Int) (K.length : Int) b K V D) t ∧ (t = true ↔ Tail b K V D) := by
    cases b with
    | true =>
      obtain ⟨r, hr, he⟩ := rcan_l1 K V D hV
      exact ⟨r, Ev.step (fun k => by simp only [aukletref22_Can.l0]; rw [if_neg (by omega), if_pos trivial]) hr, he⟩
    | false =>
      obtain ⟨r, hr, he⟩ := rcan_l2 K V D hK hD
      exact ⟨r, Ev.step (fun k => by simp only [aukletref22_Can.l0]; rw [if_neg (by omega), if_neg (by simp)]) hr, he⟩
  obtain ⟨r, hr, he⟩ := loop_all (g := fun k i => aukletref22_Can.l0 k (K.length : Int) (i : Int) b K V D) K.length (GoodK K) t
    (fun i hi hp k => by
      simp only [aukletref22_Can.l0]
      rw [if_pos (by omega), if_pos (by omega), if_pos (by omega), if_neg (by rw [rd_sz]; have := hp.1; omega)]
      by_cases c : 0 < i
      · rw [if_pos (by omega), wrap_p i (by omega) c, if_pos (by omega), if_pos (by omega), rd_kl, rd_kl, if_pos (hp.2 c), wrap_s i (by omega)]
      · rw [if_neg (by omega), wrap_s i (by omega)])
    (fun i hi hp k => by
      simp only [aukletref22_Can.l0]
      rw [if_pos (by omega), if_pos (by omega), if_pos (by omega)]
      by_cases c1 : sz K i ≤ 200
      · rw [if_neg (by rw [rd_sz]; omega)]
        by_cases c : 0 < i
        · rw [if_pos (by omega), wrap_p i (by omega) c, if_pos (by omega), if_pos (by omega), rd_kl, rd_kl, if_neg (fun h => hp ⟨c1, fun _ => h⟩)]
        · exact absurd ⟨c1, fun h => absurd h c⟩ hp
      · rw [if_pos (by rw [rd_sz]; omega)])
    ht K.length 0 (by omega)
  refine ⟨r, hr, he.trans ?_⟩
  exact ⟨fun h => ⟨h.1, hte.1 h.2⟩, fun h => ⟨h.1, hte.2 h.2⟩⟩
/-! ### node.can -/
theorem idx_s (hV : V.length ≤ 1000000) : ∃ r, Ev (fun k => slices_ContainsFunc_string_string.f k V 0) r ∧ (r = false ↔ ∀ i, i < V.length → sz V i ≤ 40) := by
  have h : ∀ d i, i + d = V.length → ∃ r, Ev (fun k => slices_IndexFunc_string_string.l0 k V (V.length : Int) (i : Int)) r ∧ (r < 0 ↔ ∀ j, i ≤ j → j < V.length → sz V j ≤ 40) := by
    intro d
    induction d with
    | zero =>
      intro i hi
      refine ⟨-1, Ev.step (f := fun _ => some (-1)) (fun k => by simp only [slices_IndexFunc_string_string.l0]; rw [if_neg (by omega)]) (Ev.now _), ⟨fun _ j h1 h2 => by omega, fun _ => by decide⟩⟩
    | succ d ih =>
      intro i hi
      by_cases c : sz V i ≤ 40
      · obtain ⟨r, hr, he⟩ := ih (i + 1) (by omega)
        refine ⟨r, Ev.step (fun k => ?_) hr, he.trans ⟨fun h j h1 h2 => ?_, fun h j h1 h2 => h j (by omega) h2⟩⟩
        · simp only [slices_IndexFunc_string_string.l0, node_can1.f, Option.bind_some]
          rw [if_pos (by omega), if_pos (by omega), if_pos (by omega), if_neg (by rw [rd_sz]; simp; omega), wrap_s i (by omega)]
        · by_cases e : j = i
          · rw [e]; exact c
          · exact h j (by omega) h2
      · refine ⟨(i : Int), Ev.step (f := fun _ => some (i : Int)) (fun k => ?_) (Ev.now _), ⟨fun h => by omega, fun h => absurd (h i (Nat.le_refl _) (by omega)) c⟩⟩
        simp only [slices_IndexFunc_string_string.l0, node_can1.f, Option.bind_some]
        rw [if_pos (by omega), if_pos (by omega), if_pos (by omega), if_pos (by rw [rd_sz]; simp; omega)]
  obtain ⟨r, hr, he⟩ := h V.length 0 (by omega)
  refine ⟨decide (r ≥ 0), ?_, ?_⟩
  · unfold slices_ContainsFunc_string_string.f slices_IndexFunc_string_string.f
    exact Ev.bind (f := fun _ t => some (decide (t ≥ 0))) hr (Ev.now _)
  · rw [decide_eq_false_iff_not]
    constructor
    · intro h i hi; exact he.1 (by omega) i (Nat.zero_le _) hi
    · intro h h2; have := he.2 (fun j _ hj => h j hj); omega
theorem idx_i (hD : D.length ≤ 1000000) : ∃ r, Ev (fun k => slices_ContainsFunc_int_int.f k D 0) r ∧ (r = false ↔ ∀ i, i < D.length → 1 ≤ rd D (i : Int) ∧ rd D (i : Int) ≤ 2147483647) := by
  have h : ∀ d i, i + d = D.length → ∃ r, Ev (fun k => slices_IndexFunc_int_int.l0 k D (D.length : Int) (i : Int)) r ∧ (r < 0 ↔ ∀ j, i ≤ j → j < D.length → 1 ≤ rd D (j : Int) ∧ rd D (j : Int) ≤ 2147483647) := by
    intro d
    induction d with
    | zero =>
      intro i hi
      refine ⟨-1, Ev.step (f := fun _ => some (-1)) (fun k => by simp only [slices_IndexFunc_int_int.l0]; rw [if_neg (by omega)]) (Ev.now _), ⟨fun _ j h1 h2 => by omega, fun _ => by decide⟩⟩
    | succ d ih =>
      intro i hi
      by_cases c : 1 ≤ rd D (i : Int) ∧ rd D (i : Int) ≤ 2147483647
      · obtain ⟨r, hr, he⟩ := ih (i + 1) (by omega)
        refine ⟨r, Ev.step (fun k => ?_) hr, he.trans ⟨fun h j h1 h2 => ?_, fun h j h1 h2 => h j (by omega) h2⟩⟩
        · simp only [slices_IndexFunc_int_int.l0, node_can2.f, Option.bind_some]
          rw [if_pos (by omega), if_pos (by omega), if_pos (by omega), if_neg (by simp; omega), wrap_s i (by omega)]
        · by_cases e : j = i
          · rw [e]; exact c
          · exact h j (by omega) h2
      · refine ⟨(i : Int), Ev.step (f := fun _ => some (i : Int)) (fun k => ?_) (Ev.now _), ⟨fun h => by omega, fun h => absurd (h i (Nat.le_refl _) (by omega)) c⟩⟩
        simp only [slices_IndexFunc_int_int.l0, node_can2.f, Option.bind_some]
        rw [if_pos (by omega), if_pos (by omega), if_pos (by omega), if_pos (by simp; omega)]
  obtain ⟨r, hr, he⟩ := h D.length 0 (by omega)
  refine ⟨decide (r ≥ 0), ?_, ?_⟩
  · unfold slices_ContainsFunc_int_int.f slices_IndexFunc_int_int.f
    exact Ev.bind (f := fun _ t => some (decide (t ≥ 0))) hr (Ev.now _)
  · rw [decide_eq_false_iff_not]
    constructor
    · intro h i hi; exact he.1 (by omega) i (Nat.zero_le _) hi
    · intro h h2; have := he.2 (fun j _ hj => h j hj); omega
theorem ncan_ev (hK : K.length ≤ 1000000) (hV : V.length ≤ 1000000) (hD : D.length ≤ 1000000) : ∃ r, Ev (fun k => node_can.f k b K V D) r ∧ (r = true ↔ CanP b K V D) := by
  obtain ⟨t, ht, hte⟩ : ∃ t, Ev (fun k => node_can.l0 k K (K.length : Int) (K.length : Int) b K V D) t ∧ (t = true ↔ Tail b K V D) := by
    cases b with
    | true =>
      obtain ⟨r, hr, he⟩ := idx_s V hV
      by_cases c : D.length = 0 ∧ V.length = K.length
      · refine ⟨!r, Ev.step (f := fun k => (slices_ContainsFunc_string_string.f k V 0).bind fun t => some (!t)) (fun k => by simp only [node_can.l0]; rw [if_neg (by omega), if_pos trivial, if_pos (by omega), if_pos (by omega)]) (Ev.bind (f := fun _ t => some (!t)) hr (Ev.now _)), ?_⟩
        unfold Tail; rw [if_pos rfl, Bool.not_eq_true', he]
        exact ⟨fun h => ⟨c.1, c.2, h⟩, fun h => h.2.2⟩
      · refine ⟨false, Ev.step (f := fun _ => some false) (fun k => ?_) (Ev.now _), ⟨fun h => (by cases h), fun h => ?_⟩⟩
        · simp only [node_can.l0]; rw [if_neg (by omega), if_pos trivial]
          by_cases c1 : (D.length : Int) = 0
          · rw [if_pos c1, if_neg (by omega)]
          · rw [if_neg c1]
        · unfold Tail at h; rw [if_pos rfl] at h; exact absurd ⟨h.1, h.2.1⟩ c
    | false =>
      obtain ⟨r, hr, he⟩ := idx_i D hD
      by_cases c : V.length = 0 ∧ D.length = K.length + 1
      · refine ⟨!r, Ev.step (f := fun k => (slices_ContainsFunc_int_int.f k D 0).bind fun t => some (!t)) (fun k => by simp only [node_can.l0]; rw [if_neg (by omega), if_neg (by simp), if_pos (by omega), wrap_s K.length (by omega), if_pos (by omega)]) (Ev.bind (f := fun _ t => some (!t)) hr (Ev.now _)), ?_⟩
        unfold Tail; rw [if_neg (by simp), Bool.not_eq_true', he]
        exact ⟨fun h => ⟨c.1, c.2, h⟩, fun h => h.2.2⟩
      · refine ⟨false, Ev.step (f := fun _ => some false) (fun k => ?_) (Ev.now _), ⟨fun h => (by cases h), fun h => ?_⟩⟩
        · simp only [node_can.l0]; rw [if_neg (by omega), if_neg (by simp)]
          by_cases c1 : (V.length : Int) = 0
          · rw [if_pos c1, wrap_s K.length (by omega), if_neg (by omega)]
          · rw [if_neg c1]
        · unfold Tail at h; rw [if_neg (by simp)] at h; exact absurd ⟨h.1, h.2.1⟩ c
  obtain ⟨r, hr, he⟩ := loop_all (g := fun k i => node_can.l0 k K (K.length : Int) (i : Int) b K V D) K.length (GoodK K) t
    (fun i hi hp k => by
      simp only [node_can.l0]
      rw [if_pos (by omega), if_pos (by omega), if_pos (by omega), if_neg (by rw [rd_sz]; have := hp.1; omega)]
      by_cases c : 0 < i
      · rw [if_pos (by omega), wrap_p i (by omega) c, if_pos (by omega), if_pos (by omega), rd_kl, rd_kl, if_pos (hp.2 c), wrap_s i (by omega)]
      · rw [if_neg (by omega), wrap_s i (by omega)])
    (fun i hi hp k => by
      simp only [node_can.l0]
      rw [if_pos (by omega), if_pos (by omega), if_pos (by omega)]
      by_cases c1 : sz K i ≤ 200
      · rw [if_neg (by rw [rd_sz]; omega)]
        by_cases c : 0 < i
        · rw [if_pos (by omega), wrap_p i (by omega) c, if_pos (by omega), if_pos (by omega), rd_kl, rd_kl, if_neg (fun h => hp ⟨c1, fun _ => h⟩)]
        · exact absurd ⟨c1, fun h => absurd h c⟩ hp
      · rw [if_pos (by rw [rd_sz]; omega)])
    ht K.length 0 (by omega)
  refine ⟨r, hr, he.trans ?_⟩
  exact ⟨fun h => ⟨h.1, hte.1 h.2⟩, fun h => ⟨h.1, hte.2 h.2⟩⟩
/-! ### how much a block needs -/
/-- what key i needs, and what lies beside it (a value that is not there: none) -/
def item (i : Nat) : Int := if b = true then 2 + sz K i + sz V i else 5 + sz K i
def needTo : Nat → Int
  | 0 => if b = true then 0 else 4
  | i + 1 => needTo i + item b K V i
def Small (l : List ByteArray) : Prop := l.length ≤ 100000 ∧ ∀ i, sz l i ≤ 1000
theorem item_bd (hK : Small K) (hV : Small V) (i : Nat) : 0 ≤ item b K V i ∧ item b K V i ≤ 2010 := by
  unfold item
  have := hK.2 i
  have := hV.2 i
  cases b <;> simp <;> omega
theorem need_bd (hK : Small K) (hV : Small V) (i : Nat) : 0 ≤ needTo b K V i ∧ needTo b K V i ≤ 4 + 2010 * (i : Int) := by
  induction i with
  | zero => unfold needTo; cases b <;> simp
  | succ i ih =>
    have := item_bd b K V hK hV i
    show 0 ≤ needTo b K V i + item b K V i ∧ needTo b K V i + item b K V i ≤ _
    omega
theorem need_mono (hK : Small K) (hV : Small V) {i j : Nat} (h : i ≤ j) : needTo b K V i ≤ needTo b K V j := by
  induction j with
  | zero => obtain rfl : i = 0 := by omega
            exact Int.le_refl _
  | succ j ih =>
    by_cases e : i = j + 1
    · rw [e]; exact Int.le_refl _
    · have := ih (by omega)
      have := item_bd b K V hK hV j
      show _ ≤ needTo b K V j + item b K V j
      omega
theorem sz_out {l : List ByteArray} {i : Nat} (h : l.length ≤ i) : sz l i = 0 := by
  unfold sz
  rw [List.getD_eq_getElem?_getD, List.getElem?_eq_none h]; rfl
theorem rneed_ev (hK : Small K) (hV : Small V) (n : Nat) (hn : n ≤ K.length) : Ev (fun k => aukletref22_Need.f k b K V D (n : Int)) (needTo b K V n) := by
  have hKl := hK.1
  have main : Ev (fun k => aukletref22_Need.l0 k (n : Int) (needTo b K V 0) ((0 : Nat) : Int) b K V D) (needTo b K V n) := by
    refine loop_acc (g := fun k i => aukletref22_Need.l0 k (n : Int) (needTo b K V i) (i : Int) b K V D) n (fun i hi k => ?_) (Ev.step (f := fun _ => some _) (fun k => ?_) (Ev.now _)) n 0 (by omega)
    · have h1 := need_bd b K V hK hV i
      have h2 := item_bd b K V hK hV i
      have hk := hK.2 i
      have hv := hV.2 i
      have hs : needTo b K V (i + 1) = needTo b K V i + item b K V i := rfl
      simp only [aukletref22_Need.l0]
      rw [if_pos (by omega)]
      cases b with
      | true =>
        have he : item true K V i = 2 + sz K i + sz V i := by simp [item]
        rw [if_pos rfl, if_pos (by omega), if_pos (by omega), rd_sz, wrap_s i (by omega), hs, he]
        by_cases c : i < V.length
        · rw [if_pos (by omega), rd_sz, wrap_in (x := needTo true K V i + 2) (by omega) (by omega), wrap_in (x := needTo true K V i + 2 + (sz K i : Int)) (by omega) (by omega), wrap_in (by omega) (by omega)]
          congr 1; omega
        · have h0 := sz_out (l := V) (i := i) (by omega)
          rw [if_neg (by omega), wrap_in (x := needTo true K V i + 2) (by omega) (by omega), wrap_in (by omega) (by omega), h0]
          congr 1; omega
      | false =>
        have he : item false K V i = 5 + sz K i := by simp [item]
        rw [if_neg (by simp), if_pos (by omega), if_pos (by omega), rd_sz, wrap_s i (by omega), hs, he, wrap_in (x := needTo false K V i + 5) (by omega) (by omega), wrap_in (by omega) (by omega)]
        congr 1; omega
    · simp only [aukletref22_Need.l0]
      rw [if_neg (by omega)]
  unfold aukletref22_Need.f
  cases b with
  | true =>
    simp only [if_true]
    exact Ev.step (fun k => by simp only [aukletref22_Need.j0]; rfl) main
  | false =>
    simp only [Bool.false_eq_true, if_false]
    exact Ev.step (fun k => by simp only [aukletref22_Need.j0]; rfl) main
theorem nneed_ev (hK : Small K) (hV : Small V) (n : Nat) (hn : n ≤ K.length) (hb : b = true → n ≤ V.length) : Ev (fun k => node_need.f k b K V D (n : Int)) (needTo b K V n) := by
  have hKl := hK.1
  have htl : (K.take n).length = n := by rw [List.length_take]; omega
  have hts : ∀ i, i < n → (rdOf ByteArray.empty (K.take n) (i : Int)).size = sz K i := fun i hi => by
    unfold rdOf sz
    simp only [Int.toNat_natCast]
    rw [List.getD_eq_getElem?_getD, List.getD_eq_getElem?_getD, List.getElem?_take_of_lt hi]
  have main : Ev (fun k => node_need.l0 k (needTo b K V 0) (K.take n) (n : Int) ((0 : Nat) : Int) b K V D) (needTo b K V n) := by
    refine loop_acc (g := fun k i => node_need.l0 k (needTo b K V i) (K.take n) (n : Int) (i : Int) b K V D) n (fun i hi k => ?_) (Ev.step (f := fun _ => some _) (fun k => ?_) (Ev.now _)) n 0 (by omega)
    · have h1 := need_bd b K V hK hV i
      have h2 := item_bd b K V hK hV i
      have hk := hK.2 i
      have hv := hV.2 i
      have hs : needTo b K V (i + 1) = needTo b K V i + item b K V i := rfl
      simp only [node_need.l0]
      rw [if_pos (by omega), if_pos (by omega), if_pos (by omega), hts i hi]
      cases b with
      | true =>
        have he : item true K V i = 2 + sz K i + sz V i := by simp [item]
        have hl := hb rfl
        rw [if_pos rfl, if_pos (by omega), wrap_s i (by omega), hs, he, rd_sz, wrap_in (x := 2 + (sz K i : Int)) (by omega) (by omega), wrap_in (x := 2 + (sz K i : Int) + (sz V i : Int)) (by omega) (by omega), wrap_in (by omega) (by omega)]
      | false =>
        have he : item false K V i = 5 + sz K i := by simp [item]
        rw [if_neg (by simp), wrap_s i (by omega), hs, he, wrap_in (x := 5 + (sz K i : Int)) (by omega) (by omega), wrap_in (by omega) (by omega)]
    · simp only [node_need.l0]
      rw [if_neg (by omega)]
  have step : ∀ k, node_need.j0 (k + 1) (n : Int) (needTo b K V 0) b K V D = node_need.l0 k (needTo b K V 0) (K.take n) (n : Int) ((0 : Nat) : Int) b K V D := fun k => by
    simp only [node_need.j0]
    rw [if_pos (by omega), if_pos (by omega)]
    simp only [Int.toNat_natCast]
    rw [htl]; rfl
  unfold node_need.f
  cases b with
  | true =>
    simp only [if_true]
    exact Ev.step step main
  | false =>
    simp only [Bool.false_eq_true, if_false]
    exact Ev.step step main
/-! ### the page -/
def be4 (d : Int) : List Int := [(d / 16777216) % 256, (d / 65536) % 256, (d / 256) % 256, d % 256]
def tx (l : List ByteArray) (i : Nat) : List Int := ((sz l i : Int) % 256) :: bytesOf (l.getD i ByteArray.empty)
def putTo : Nat → List Int
  | 0 => if b = true then [1, ((K.length : Int) / 256) % 256, (K.length : Int) % 256] else [2, ((K.length : Int) / 256) % 256, (K.length : Int) % 256] ++ be4 (rd D 0)
  | i + 1 => putTo i ++ (tx K i ++ if b = true then tx V i else be4 (rd D ((i + 1 : Nat) : Int)))
def page : List Int := putTo b K V D K.length ++ List.replicate (512 - (putTo b K V D K.length).length) 0
theorem tx_len (l : List ByteArray) (i : Nat) : (tx l i).length = 1 + sz l i := by
  unfold tx sz
  rw [List.length_cons, bytesOf_length]; omega
theorem put_len (hK : Small K) (hV : Small V) (i : Nat) : ((putTo b K V D i).length : Int) = 3 + needTo b K V i := by
  induction i with
  | zero => cases b <;> simp [putTo, needTo, be4]
  | succ i ih =>
    show ((putTo b K V D i ++ _).length : Int) = 3 + (needTo b K V i + item b K V i)
    rw [List.length_append, List.length_append, tx_len]
    cases b with
    | true => simp only [if_true, tx_len, item]; omega
    | false => simp only [Bool.false_eq_true, if_false, item, be4, List.length_cons, List.length_nil]; omega
theorem big_step (d : Int) (l : List Int) (j : Nat) (k : Nat) (h0 : 0 ≤ d) (h1 : d < 18446744073709551616) (hj : j < l.length) (hl : l.length ≤ 8) :
    aukletref20_Big.l0 (k + 1) d l (j : Int) = aukletref20_Big.l0 k (d / 256) (l.set j (d % 256)) ((j : Int) - 1) := by
  have e1 : IntKind.u64.wrap (Int.tdiv d 256) = d / 256 := by
    rw [Int.tdiv_eq_ediv_of_nonneg h0]
    simp [IntKind.wrap, IntKind.bits, IntKind.signed]
    omega
  have e2 : Int.tmod d 256 % 256 = d % 256 := by
    rw [Int.tmod_eq_emod_of_nonneg h0]; omega
  simp only [aukletref20_Big.l0]
  rw [if_pos (by omega), if_pos (by omega), if_pos (by omega), e1, e2, wrap_in (by omega) (by omega)]
  rfl
theorem big_end (d : Int) (l : List Int) (k : Nat) : aukletref20_Big.l0 (k + 1) d l (-1) = some l := by
  simp only [aukletref20_Big.l0]
  rw [if_neg (by decide)]
theorem big4 (d : Int) (h0 : 0 ≤ d) (h1 : d < 4294967296) : Ev (fun k => aukletref20_Big.f k d 4) (be4 d) := by
  refine ev_mono (fun k => aukletref20_Big.mono _ _ k) 5 ?_
  unfold aukletref20_Big.f
  rw [if_pos (by decide), if_pos (by decide)]
  rw [show (wrap64 (4 - 1)) = ((3 : Nat) : Int) from (wrap_in (by decide) (by decide)).trans rfl, big_step d _ 3 4 h0 (by omega) (by simp) (by simp)]
  rw [show ((3 : Nat) : Int) - 1 = ((2 : Nat) : Int) from rfl, big_step _ _ 2 3 (by omega) (by omega) (by simp) (by simp)]
  rw [show ((2 : Nat) : Int) - 1 = ((1 : Nat) : Int) from rfl, big_step _ _ 1 2 (by omega) (by omega) (by simp) (by simp)]
  rw [show ((1 : Nat) : Int) - 1 = ((0 : Nat) : Int) from rfl, big_step _ _ 0 1 (by omega) (by omega) (by simp) (by simp)]
  rw [show ((0 : Nat) : Int) - 1 = -1 from rfl, big_end]
  have e1 : d / 256 / 256 = d / 65536 := by omega
  have e2 : d / 65536 / 256 = d / 16777216 := by omega
  simp only [be4, e1, e2]
  rfl
theorem big2 (d : Int) (h0 : 0 ≤ d) (h1 : d < 4294967296) : Ev (fun k => aukletref20_Big.f k d 2) [d / 256 % 256, d % 256] := by
  refine ev_mono (fun k => aukletref20_Big.mono _ _ k) 3 ?_
  unfold aukletref20_Big.f
  rw [if_pos (by decide), if_pos (by decide)]
  rw [show (wrap64 (2 - 1)) = ((1 : Nat) : Int) from (wrap_in (by decide) (by decide)).trans rfl, big_step _ _ 1 2 (by omega) (by omega) (by simp) (by simp)]
  rw [show ((1 : Nat) : Int) - 1 = ((0 : Nat) : Int) from rfl, big_step _ _ 0 1 (by omega) (by omega) (by simp) (by simp)]
  rw [show ((0 : Nat) : Int) - 1 = -1 from rfl, big_end]
  rfl
theorem ntext_some (l : List Int) (s : ByteArray) (hl : l.length ≤ 100000) (hs : s.size ≤ 1000) : node_text.f l s = some (l ++ (((s.size : Int) % 256) :: bytesOf s)) := by
  unfold node_text.f
  rw [if_pos (by omega)]
  simp only [Option.bind_some]
  rw [if_pos (by rw [List.length_append, List.length_singleton]; omega), List.append_assoc]; rfl
theorem rtext_some (l : List Int) (s : ByteArray) (hl : l.length ≤ 100000) (hs : s.size ≤ 1000) : aukletref22_put.f l s = some (l ++ (((s.size : Int) % 256) :: bytesOf s)) := by
  unfold aukletref22_put.f
  rw [if_pos (by omega)]
  simp only [Option.bind_some]
  rw [if_pos (by rw [List.length_append, List.length_singleton]; omega), List.append_assoc]; rfl
theorem nnum_some (l : List Int) (d : Int) (hl : l.length ≤ 100000) : node_number.f l d = some (l ++ be4 d) := by
  unfold node_number.f
  simp only [Option.bind_some]
  rw [if_pos (by simp only [List.length_cons, List.length_nil]; omega)]; rfl
theorem put_bd (hK : Small K) (hV : Small V) (hn : needTo b K V K.length ≤ 509) {i : Nat} (hi : i ≤ K.length) : (putTo b K V D i).length ≤ 512 := by
  have h1 := put_len b K V D hK hV i
  have h2 := need_mono b K V hK hV hi
  omega
theorem be4_len (d : Int) : (be4 d).length = 4 := rfl
theorem tail_v {K V : List ByteArray} {D : List Int} (h : Tail true K V D) : D.length = 0 ∧ V.length = K.length ∧ ∀ i, i < V.length → sz V i ≤ 40 := by unfold Tail at h; rwa [if_pos rfl] at h
theorem tail_d {K V : List ByteArray} {D : List Int} (h : Tail false K V D) : V.length = 0 ∧ D.length = K.length + 1 ∧ ∀ i, i < D.length → 1 ≤ rd D (i : Int) ∧ rd D (i : Int) ≤ 2147483647 := by unfold Tail at h; rwa [if_neg (by simp)] at h
theorem u64_of (d : Int) (h : 1 ≤ d ∧ d ≤ 2147483647) : IntKind.u64.wrap d = d := by
  simp [IntKind.wrap, IntKind.bits, IntKind.signed]; omega
theorem fin_put (l : List Int) (hl : l.length ≤ 512) : (if 0 ≤ (wrap64 (512 - (l.length : Int))) then (if l.length + (wrap64 (512 - (l.length : Int)) : Int).toNat < 140737488355328 then (some ((l ++ List.replicate (wrap64 (512 - (l.length : Int)) : Int).toNat 0), (0 : Int))) else (none)) else (none)) = some (l ++ List.replicate (512 - l.length) 0, 0) := by
  rw [wrap_in (x := 512 - (l.length : Int)) (by omega) (by omega), if_pos (by omega), if_pos (by omega), show ((512 : Int) - (l.length : Int)).toNat = 512 - l.length by omega]
theorem nput_l0 (hK : Small K) (hV : Small V) (ht : Tail b K V D) (hn : needTo b K V K.length ≤ 509) : Ev (fun k => node_put.l0 k (putTo b K V D 0) K (K.length : Int) ((0 : Nat) : Int) b K V D) (page b K V D, 0) := by
  have hKl := hK.1
  refine loop_acc (g := fun k i => node_put.l0 k (putTo b K V D i) K (K.length : Int) (i : Int) b K V D) K.length (fun i hi k => ?_) (Ev.step (f := fun _ => some _) (fun k => ?_) (Ev.now _)) K.length 0 (by omega)
  · have h1 := put_bd b K V D hK hV hn (i := i) (by omega)
    have h2 := hK.2 i
    have e1 : (rdOf ByteArray.empty K (i : Int)) = K.getD i ByteArray.empty := rfl
    simp only [node_put.l0]
    rw [if_pos (by omega), if_pos (by omega), if_pos (by omega), e1, ntext_some _ _ (by omega) h2, Option.bind_some]
    cases b with
    | true =>
      obtain ⟨t1, t2, t3⟩ := tail_v ht
      have h3 := hV.2 i
      have e2 : (rdOf ByteArray.empty V (i : Int)) = V.getD i ByteArray.empty := rfl
      rw [if_pos rfl, if_pos (by omega), e2, ntext_some _ _ (by rw [List.length_append, List.length_cons, bytesOf_length]; have : (K.getD i ByteArray.empty).size ≤ 1000 := h2; omega) h3, Option.bind_some, wrap_s i (by omega), List.append_assoc]
      rfl
    | false =>
      obtain ⟨t1, t2, t3⟩ := tail_d ht
      rw [if_neg (by simp), wrap_s i (by omega), if_pos (by omega), if_pos (by omega), nnum_some _ _ (by rw [List.length_append, List.length_cons, bytesOf_length]; have : (K.getD i ByteArray.empty).size ≤ 1000 := h2; omega), Option.bind_some, List.append_assoc]
      rfl
  · have h1 := put_bd b K V D hK hV hn (i := K.length) (by omega)
    simp only [node_put.l0]
    rw [if_neg (by omega)]
    exact fin_put _ h1
theorem rput_l0 (hK : Small K) (hV : Small V) (ht : Tail b K V D) (hn : needTo b K V K.length ≤ 509) : Ev (fun k => aukletref22_Put.l0 k (K.length : Int) (putTo b K V D 0) ((0 : Nat) : Int) b K V D) (page b K V D, 0) := by
  have hKl := hK.1
  refine loop_accE (g := fun k i => aukletref22_Put.l0 k (K.length : Int) (putTo b K V D i) (i : Int) b K V D) K.length (fun i hi ih => ?_) (Ev.step (f := fun _ => some _) (fun k => ?_) (Ev.now _)) K.length 0 (by omega)
  · have h1 := put_bd b K V D hK hV hn (i := i) (by omega)
    have h2 := hK.2 i
    have e1 : (rdOf ByteArray.empty K (i : Int)) = K.getD i ByteArray.empty := rfl
    cases b with
    | true =>
      obtain ⟨t1, t2, t3⟩ := tail_v ht
      have h3 := hV.2 i
      have e2 : (rdOf ByteArray.empty V (i : Int)) = V.getD i ByteArray.empty := rfl
      refine Ev.step (fun k => ?_) ih
      simp only [aukletref22_Put.l0]
      rw [if_pos (by omega), if_pos (by omega), if_pos (by omega), e1, rtext_some _ _ (by omega) h2, Option.bind_some]
      rw [if_pos trivial, if_pos (by omega), e2, rtext_some _ _ (by rw [List.length_append, List.length_cons, bytesOf_length]; have : (K.getD i ByteArray.empty).size ≤ 1000 := h2; omega) h3, Option.bind_some, wrap_s i (by omega), List.append_assoc]
      rfl
    | false =>
      obtain ⟨t1, t2, t3⟩ := tail_d ht
      have hd := t3 (i + 1) (by omega)
      refine Ev.step (f := fun k => (aukletref20_Big.f k (rd D ((i + 1 : Nat) : Int)) 4).bind fun t => if (putTo false K V D i ++ tx K i).length + t.length < 140737488355328 then aukletref22_Put.l0 k (K.length : Int) (putTo false K V D i ++ tx K i ++ t) ((i + 1 : Nat) : Int) false K V D else none) (fun k => ?_) (Ev.bind (f := fun k t => if (putTo false K V D i ++ tx K i).length + t.length < 140737488355328 then aukletref22_Put.l0 k (K.length : Int) (putTo false K V D i ++ tx K i ++ t) ((i + 1 : Nat) : Int) false K V D else none) (big4 _ (by omega) (by omega)) ?_)
      · simp only [aukletref22_Put.l0]
        rw [if_pos (by omega), if_pos (by omega), if_pos (by omega), e1, rtext_some _ _ (by omega) h2, Option.bind_some]
        rw [if_neg (by simp), wrap_s i (by omega), if_pos (by omega), if_pos (by omega), u64_of _ hd]
        rfl
      · refine Ev.congr (fun k => ?_) ih
        rw [if_pos (by rw [List.length_append, tx_len, be4_len]; have := h2; omega), List.append_assoc]
        rfl
  · have h1 := put_bd b K V D hK hV hn (i := K.length) (by omega)
    simp only [aukletref22_Put.l0]
    rw [if_neg (by omega)]
    exact fin_put _ h1
/-- What put tells. -/
def PutR (r : List Int × Int) : Prop := (r = (page b K V D, 0) ∧ CanP b K V D ∧ needTo b K V K.length ≤ 509) ∨ (r = ([], 1) ∧ ¬ CanP b K V D) ∨ (r = ([], 2) ∧ CanP b K V D ∧ 509 < needTo b K V K.length)
theorem nput_ev (hK : Small K) (hV : Small V) (hD : D.length ≤ 100000) : ∃ r, Ev (fun k => node_put.f k b K V D) r ∧ PutR b K V D r := by
  obtain ⟨c, hc, hce⟩ := ncan_ev b K V D (by have := hK.1; omega) (by have := hV.1; omega) (by omega)
  have hKl := hK.1
  unfold node_put.f
  cases c with
  | false =>
    refine ⟨([], 1), Ev.bind hc (Ev.congr (f := fun _ => some (([], 1) : List Int × Int)) (fun k => by rw [if_neg (by simp)]) (Ev.now _)), .inr (.inl ⟨rfl, fun h => ?_⟩)⟩
    have := hce.2 h
    cases this
  | true =>
    have hcan := hce.1 rfl
    have hne := nneed_ev b K V D hK hV K.length (Nat.le_refl _) (fun e => by subst e; have := (tail_v hcan.2).2.1; omega)
    by_cases hn : needTo b K V K.length ≤ 509
    · refine ⟨(page b K V D, 0), Ev.bind hc (Ev.congr (fun k => by rw [if_pos rfl]) (Ev.bind hne (Ev.congr (fun k => by rw [if_neg (by omega)]) ?_))), .inl ⟨rfl, hcan, hn⟩⟩
      simp only [Option.bind_some]
      have hl := nput_l0 b K V D hK hV hcan.2 hn
      cases b with
      | true =>
        simp only [if_true]
        refine Ev.congr (fun k => by rw [if_pos (by simp)]) (Ev.step (fun k => ?_) hl)
        simp only [node_put.j0]
        rfl
      | false =>
        obtain ⟨t1, t2, t3⟩ := tail_d hcan.2
        simp only [Bool.false_eq_true, if_false]
        refine Ev.congr (f := fun k => node_put.j0 k ([2, ((K.length : Int) / 256) % 256, ((K.length : Int)) % 256] ++ be4 (rd D 0)) false K V D) (fun k => by rw [if_pos (by omega), nnum_some _ _ (by simp), Option.bind_some]) (Ev.step (fun k => ?_) hl)
        simp only [node_put.j0]
        rfl
    · refine ⟨([], 2), Ev.bind hc (Ev.congr (fun k => by rw [if_pos rfl]) (Ev.bind hne (Ev.congr (f := fun _ => some (([], 2) : List Int × Int)) (fun k => by rw [if_pos (by omega)]) (Ev.now _)))), .inr (.inr ⟨rfl, hcan, by omega⟩)⟩
theorem rput_ev (hK : Small K) (hV : Small V) (hD : D.length ≤ 100000) : ∃ r, Ev (fun k => aukletref22_Put.f k b K V D) r ∧ PutR b K V D r := by
  obtain ⟨c, hc, hce⟩ := rcan_ev b K V D (by have := hK.1; omega) (by have := hV.1; omega) (by omega)
  have hKl := hK.1
  unfold aukletref22_Put.f
  cases c with
  | false =>
    refine ⟨([], 1), Ev.bind hc (Ev.congr (f := fun _ => some (([], 1) : List Int × Int)) (fun k => by rw [if_neg (by simp)]) (Ev.now _)), .inr (.inl ⟨rfl, fun h => ?_⟩)⟩
    have := hce.2 h
    cases this
  | true =>
    have hcan := hce.1 rfl
    have hne := rneed_ev b K V D hK hV K.length (Nat.le_refl _)
    by_cases hn : needTo b K V K.length ≤ 509
    · refine ⟨(page b K V D, 0), Ev.bind hc (Ev.congr (fun k => by rw [if_pos rfl]) (Ev.bind hne (Ev.congr (fun k => by rw [if_neg (by omega)]) ?_))), .inl ⟨rfl, hcan, hn⟩⟩
      simp only [Option.bind_some]
      have hl := rput_l0 b K V D hK hV hcan.2 hn
      have hbig := big2 (K.length : Int) (by omega) (by omega)
      have hw : IntKind.u64.wrap (K.length : Int) = (K.length : Int) := by simp [IntKind.wrap, IntKind.bits, IntKind.signed]; omega
      cases b with
      | true =>
        simp only [if_true]
        refine Ev.congr (fun k => by rw [if_pos (by simp)]) (Ev.step (f := fun k => (aukletref20_Big.f k (K.length : Int) 2).bind fun t => if [(1 : Int)].length + t.length < 140737488355328 then aukletref22_Put.j1 k (K.length : Int) ([1] ++ t) true K V D else none) (fun k => ?_) (Ev.bind (f := fun k t => if [(1 : Int)].length + t.length < 140737488355328 then aukletref22_Put.j1 k (K.length : Int) ([1] ++ t) true K V D else none) hbig (Ev.congr (fun k => by rw [if_pos (by simp)]) (Ev.step (fun k => ?_) hl))))
        · simp only [aukletref22_Put.j0, Option.bind_some, if_true, hw]
          rfl
        · simp only [aukletref22_Put.j1]
          rfl
      | false =>
        obtain ⟨t1, t2, t3⟩ := tail_d hcan.2
        have hd := t3 0 (by omega)
        simp only [Bool.false_eq_true, if_false]
        refine Ev.step (f := fun k => (aukletref20_Big.f k (K.length : Int) 2).bind fun t => if [(2 : Int)].length + t.length < 140737488355328 then ((aukletref20_Big.f k (rd D 0) 4).bind fun u => if ([2] ++ t).length + u.length < 140737488355328 then aukletref22_Put.j1 k (K.length : Int) ([2] ++ t ++ u) false K V D else none) else none) (fun k => ?_) (Ev.bind (f := fun k t => if [(2 : Int)].length + t.length < 140737488355328 then ((aukletref20_Big.f k (rd D 0) 4).bind fun u => if ([2] ++ t).length + u.length < 140737488355328 then aukletref22_Put.j1 k (K.length : Int) ([2] ++ t ++ u) false K V D else none) else none) hbig (Ev.congr (fun k => by rw [if_pos (by simp)]) (Ev.bind (f := fun k u => if ([2] ++ [(K.length : Int) / 256 % 256, (K.length : Int) % 256]).length + u.length < 140737488355328 then aukletref22_Put.j1 k (K.length : Int) ([2] ++ [(K.length : Int) / 256 % 256, (K.length : Int) % 256] ++ u) false K V D else none) (big4 (rd D 0) (by have := hd.1; exact Int.le_trans (by decide) this) (by have := hd.2; exact Int.lt_of_le_of_lt this (by decide))) (Ev.congr (fun k => by rw [if_pos (by simp [be4])]) (Ev.step (fun k => ?_) hl)))))
        · simp only [aukletref22_Put.j0, Option.bind_some, Bool.false_eq_true, if_false, hw]
          have e0 : (0 : Int) < (D.length : Int) := by omega
          have ew : IntKind.u64.wrap (rd D 0) = rd D 0 := u64_of _ hd
          simp only [e0, if_true, ew]
        · simp only [aukletref22_Put.j1]
          rfl
    · refine ⟨([], 2), Ev.bind hc (Ev.congr (fun k => by rw [if_pos rfl]) (Ev.bind hne (Ev.congr (f := fun _ => some (([], 2) : List Int × Int)) (fun k => by rw [if_pos (by omega)]) (Ev.now _)))), .inr (.inr ⟨rfl, hcan, by omega⟩)⟩
theorem putR_one {r s : List Int × Int} (h1 : PutR b K V D r) (h2 : PutR b K V D s) : r = s := by
  rcases h1 with ⟨rfl, a, c⟩ | ⟨rfl, a⟩ | ⟨rfl, a, c⟩ <;> rcases h2 with ⟨rfl, a', c'⟩ | ⟨rfl, a'⟩ | ⟨rfl, a', c'⟩ <;> first | rfl | (exact absurd a a') | (exact absurd a' a) | omega
end
end Go.Proofs.Ytbpnkgaomobpkaa.Pure
