/- A page's texts and numbers, as node.Take reads them. -/
import Derived.Test.YtbpnkgaomobpkaaPag
import Derived.Test.YtbpnkgaomobpkaaPNxux4
set_option linter.unusedVariables false
set_option linter.unusedSimpArgs false
set_option linter.unusedSectionVars false
namespace Go.Proofs.Ytbpnkgaomobpkaa.Pure
open Go.RowKit Go.Proofs.Ytbpnkgaomobpkaa.PNxu Go.Proofs.YtbpnkgaomobpkaaW.PrintWords Go.Proofs.YtbpnkgaomobpkaaW.PrintLast Go.Proofs.Ytbpnkgaomobpkaa.Giv
theorem small_of {l : List ByteArray} (h1 : l.length ≤ 100000) (h2 : ∀ s ∈ l, s.size ≤ 1000) : Small l := by
  refine ⟨h1, fun i => ?_⟩
  unfold sz
  rw [List.getD_eq_getElem?_getD]
  cases e : l[i]? with
  | none => exact Nat.zero_le _
  | some s => exact h2 s (List.mem_of_getElem? e)
theorem mem_snoc {l : List ByteArray} {s : ByteArray} (h : ∀ x ∈ l, x.size ≤ 1000) (hs : s.size ≤ 1000) : ∀ x ∈ l ++ [s], x.size ≤ 1000 := fun x hx => by
  rcases List.mem_append.1 hx with h1 | h1
  · exact h x h1
  · rw [List.mem_singleton.1 h1]; exact hs
theorem str_size (l : List Int) : (strOfNums l).size = l.length := by
  show (List.toArray _).size = _
  simp
def txR (p : List Int) (a : Nat) : Option (ByteArray × Nat) :=
  if a < p.length then (if (p.getD a 0).toNat ≤ p.length - a - 1 then some (strOfNums ((p.drop (a + 1)).take (p.getD a 0).toNat), a + 1 + (p.getD a 0).toNat) else none) else none
section
variable {p : List Int} (hp : p.length = 512) (ho : OkB p)
include hp ho
theorem txR_bd {a e : Nat} {s : ByteArray} (h : txR p a = some (s, e)) : s.size ≤ 255 ∧ e ≤ 512 := by
  have hb := ok_getD ho a
  unfold txR at h
  by_cases c : a < p.length
  · rw [if_pos c] at h
    by_cases c2 : (p.getD a 0).toNat ≤ p.length - a - 1
    · rw [if_pos c2] at h
      simp only [Option.some.injEq, Prod.mk.injEq] at h
      obtain ⟨rfl, rfl⟩ := h
      rw [str_size, List.length_take]
      omega
    · rw [if_neg c2] at h; cases h
  · rw [if_neg c] at h; cases h
theorem get_drop (a : Nat) : ((p.drop a).take 1).getD 0 0 = p.getD a 0 := by
  rw [List.getD_eq_getElem?_getD, List.getD_eq_getElem?_getD, List.getElem?_take_of_lt (by decide), List.getElem?_drop]; rfl
theorem node_tx (a : Nat) (ha : a ≤ 512) : ∃ s b e, node_rtext.f p false (a : Int) = some (s, b, e) ∧ s.size ≤ 255 ∧ (match txR p a with | some (s', e') => s = s' ∧ b = false ∧ e = (e' : Int) | none => b = true) := by
  have hb := ok_getD ho a
  unfold node_rtext.f
  by_cases c : a < p.length
  · have h1 : rtk p false (a : Int) 1 = ((p.drop a).take 1, false, (a : Int) + 1) := by
      unfold rtk; rw [if_neg (by omega)]; rfl
    simp only [h1]
    rw [get_drop hp ho]
    by_cases c2 : (p.getD a 0).toNat ≤ p.length - a - 1
    · have h2 : rtk p false ((a : Int) + 1) (p.getD a 0) = ((p.drop (a + 1)).take (p.getD a 0).toNat, false, (a : Int) + 1 + p.getD a 0) := by
        unfold rtk; rw [if_neg (by omega)]; rfl
      rw [h2]
      refine ⟨_, _, _, rfl, by rw [str_size, List.length_take]; omega, ?_⟩
      unfold txR
      rw [if_pos c, if_pos c2]
      exact ⟨rfl, rfl, (show (a : Int) + 1 + p.getD a 0 = ((a + 1 + (p.getD a 0).toNat : Nat) : Int) by omega)⟩
    · have h2 : rtk p false ((a : Int) + 1) (p.getD a 0) = (List.replicate (p.getD a 0).toNat 0, true, (a : Int) + 1) := by
        unfold rtk; rw [if_pos (by omega)]
      rw [h2]
      refine ⟨_, _, _, rfl, by rw [str_size, List.length_replicate]; omega, ?_⟩
      unfold txR
      rw [if_pos c, if_neg c2]
  · have h1 : rtk p false (a : Int) 1 = (List.replicate 1 0, true, (a : Int)) := by
      unfold rtk; rw [if_pos (by omega)]; rfl
    simp only [h1]
    have h2 : rtk p true (a : Int) ((List.replicate 1 (0 : Int)).getD 0 0) = ((p.drop a).take 0, true, (a : Int) + 0) := by
      unfold rtk; rw [if_neg (by show ¬ ((p.length : Int) - (a : Int) < 0); omega)]; rfl
    rw [h2]
    refine ⟨_, _, _, rfl, by rw [str_size]; simp, ?_⟩
    unfold txR
    rw [if_neg c]
theorem rtk_true (a n : Int) : ∃ l a', rtk p true a n = (l, true, a') := by
  unfold rtk
  split
  · exact ⟨_, _, rfl⟩
  · exact ⟨_, _, rfl⟩
theorem rtk_size (s : Bool) (a n : Int) (h : n ≤ 255) : (rtk p s a n).1.length ≤ 255 ∧ OkB (rtk p s a n).1 := by
  unfold rtk
  split
  · exact ⟨by rw [List.length_replicate]; omega, fun x hx => by rw [(List.mem_replicate.1 hx).2]; omega⟩
  · exact ⟨by rw [List.length_take]; omega, fun x hx => ho x (List.mem_of_mem_drop (List.mem_of_mem_take hx))⟩
theorem node_tx_short (a : Int) : ∃ s e, node_rtext.f p true a = some (s, true, e) ∧ s.size ≤ 255 := by
  unfold node_rtext.f
  obtain ⟨l, a1, h1⟩ := rtk_true hp ho a 1
  have ok := (rtk_size hp ho true a 1 (by decide)).2
  rw [h1] at ok
  simp only [h1]
  have hb : 0 ≤ l.getD 0 0 ∧ l.getD 0 0 < 256 := ok_getD ok 0
  obtain ⟨l2, a2, h2⟩ := rtk_true hp ho a1 (l.getD 0 0)
  have hs := (rtk_size hp ho true a1 (l.getD 0 0) (by omega)).1
  rw [h2] at hs
  rw [h2]
  exact ⟨_, _, rfl, by rw [str_size]; exact hs⟩
theorem node_num_ok (a : Nat) (ha : a + 4 ≤ 512) : node_number4.f p false (a : Int) = some (num4 ((p.drop a).take 4), false, ((a + 4 : Nat) : Int)) := by
  unfold node_number4.f rtk
  rw [if_neg (by omega)]; rfl
theorem node_num_short (a : Nat) (ha : ¬ a + 4 ≤ 512) : ∃ d e, node_number4.f p false (a : Int) = some (d, true, e) := by
  unfold node_number4.f rtk
  rw [if_pos (by omega)]
  exact ⟨_, _, rfl⟩
theorem node_num_true (a : Int) : ∃ d e, node_number4.f p true a = some (d, true, e) := by
  unfold node_number4.f
  obtain ⟨l, a1, h1⟩ := rtk_true hp ho a 4
  rw [h1]
  exact ⟨_, _, rfl⟩
end
abbrev Blk := Bool × List ByteArray × List ByteArray × List Int × Int
def cor : Blk := (false, [], [], [], 200)
end Go.Proofs.Ytbpnkgaomobpkaa.Pure
