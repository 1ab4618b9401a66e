/- NodeSplits: its plain law. -/
import Derived.Test.YtbpnkgaomobpkaaSplB
namespace Go.Proofs.Ytbpnkgaomobpkaa.Mrg
open Go.RowKit Go.Proofs.Ytbpnkgaomobpkaa.PNxu Go.Proofs.YtbpnkgaomobpkaaW.PrintWords Go.Proofs.YtbpnkgaomobpkaaW.PrintLast Go.Proofs.YtbpnkgaomobpkaaW.PrintMore Go.Proofs.Ytbpnkgaomobpkaa.Pure
set_option linter.unusedVariables false
set_option linter.unusedSimpArgs false
theorem getD_take {α : Type} (l : List α) (c i : Nat) (z : α) (h : i < c) : (l.take c).getD i z = l.getD i z := by
  rw [List.getD_eq_getElem?_getD, List.getD_eq_getElem?_getD, List.getElem?_take, if_pos h]
theorem getD_drop {α : Type} (l : List α) (c i : Nat) (z : α) : (l.drop c).getD i z = l.getD (c + i) z := by
  rw [List.getD_eq_getElem?_getD, List.getD_eq_getElem?_getD, List.getElem?_drop]
theorem sz_take (l : List ByteArray) (c i : Nat) (h : i < c) : sz (l.take c) i = sz l i := by unfold sz; rw [getD_take _ _ _ _ h]
theorem kl_take (l : List ByteArray) (c i : Nat) (h : i < c) : kl (l.take c) i = kl l i := by unfold kl; rw [getD_take _ _ _ _ h]
theorem sz_drop (l : List ByteArray) (c i : Nat) : sz (l.drop c) i = sz l (c + i) := by unfold sz; rw [getD_drop]
theorem kl_drop (l : List ByteArray) (c i : Nat) : kl (l.drop c) i = kl l (c + i) := by unfold kl; rw [getD_drop]
theorem good_take {K : List ByteArray} {c i : Nat} (h : GoodK K i) (hi : i < c) : GoodK (K.take c) i := by
  refine ⟨by rw [sz_take _ _ _ hi]; exact h.1, fun h0 => ?_⟩
  rw [kl_take _ _ _ hi, kl_take _ _ _ (by omega)]
  exact h.2 h0
theorem good_drop {K : List ByteArray} {c i : Nat} (h : GoodK K (c + i)) : GoodK (K.drop c) i := by
  refine ⟨by rw [sz_drop]; exact h.1, fun h0 => ?_⟩
  rw [kl_drop, kl_drop, show c + (i - 1) = c + i - 1 by omega]
  exact h.2 (by omega)
theorem need_take (b : Bool) (K V : List ByteArray) (c : Nat) : ∀ i, i ≤ c → needTo b (K.take c) (xV b V c) i = needTo b K V i := by
  intro i
  induction i with
  | zero => intro _; rfl
  | succ i ih =>
    intro hi
    show needTo b (K.take c) (xV b V c) i + item b (K.take c) (xV b V c) i = needTo b K V i + item b K V i
    rw [ih (by omega)]
    congr 1
    unfold item
    rw [sz_take _ _ _ (by omega)]
    cases b with
    | true =>
      simp only [if_true]
      unfold xV
      simp only [if_true]
      rw [sz_take _ _ _ (by omega)]
    | false => rfl
theorem rd_take (l : List Int) (c i : Nat) (h : i < c) : rd (l.take c) (i : Int) = rd l (i : Int) := getD_take l c i 0 h
theorem rd_drop (l : List Int) (c i : Nat) : rd (l.drop c) (i : Int) = rd l ((c + i : Nat) : Int) := getD_drop l c i 0
theorem can_x {b : Bool} {K V : List ByteArray} {D : List Int} (h : CanP b K V D) {c : Nat} (hc : c < K.length) : CanP b (K.take c) (xV b V c) (xD b D c) := by
  refine ⟨fun j _ hj => ?_, ?_⟩
  · rw [List.length_take] at hj
    exact good_take (h.1 j (Nat.zero_le _) (by omega)) (by omega)
  · cases b with
    | true =>
      obtain ⟨t1, t2, t3⟩ := tail_v h.2
      unfold Tail xV xD
      simp only [if_true, List.length_take, List.length_nil]
      refine ⟨trivial, by omega, fun i hi => ?_⟩
      rw [sz_take _ _ _ (by omega)]
      exact t3 i (by omega)
    | false =>
      obtain ⟨t1, t2, t3⟩ := tail_d h.2
      unfold Tail xV xD
      simp only [Bool.false_eq_true, if_false, List.length_take, List.length_nil]
      refine ⟨trivial, by omega, fun i hi => ?_⟩
      rw [rd_take _ _ _ (by omega)]
      exact t3 i (by omega)
theorem can_y {b : Bool} {K V : List ByteArray} {D : List Int} (h : CanP b K V D) {c : Nat} (hc : c < K.length) : CanP b (yK b K c) (yV b V c) (yD b D c) := by
  cases b with
  | true =>
    obtain ⟨t1, t2, t3⟩ := tail_v h.2
    refine ⟨fun j _ hj => ?_, ?_⟩
    · unfold yK at hj ⊢
      simp only [if_true, List.length_drop] at hj ⊢
      exact good_drop (h.1 _ (Nat.zero_le _) (by omega))
    · unfold Tail yV yD yK
      simp only [if_true, List.length_drop, List.length_nil]
      refine ⟨trivial, by omega, fun i hi => ?_⟩
      rw [sz_drop]
      exact t3 _ (by omega)
  | false =>
    obtain ⟨t1, t2, t3⟩ := tail_d h.2
    refine ⟨fun j _ hj => ?_, ?_⟩
    · unfold yK at hj ⊢
      simp only [Bool.false_eq_true, if_false, List.length_drop] at hj ⊢
      exact good_drop (h.1 _ (Nat.zero_le _) (by omega))
    · unfold Tail yV yD yK
      simp only [Bool.false_eq_true, if_false, List.length_drop, List.length_nil]
      refine ⟨trivial, by omega, fun i hi => ?_⟩
      rw [rd_drop]
      exact t3 _ (by omega)
theorem keys_all (b : Bool) (K : List ByteArray) (c : Nat) (hc : c < K.length) : K.take c ++ (btw b (K.getD c ByteArray.empty) ++ yK b K c) = K := by
  cases b with
  | true => simp [btw, yK]
  | false =>
    show K.take c ++ ([K.getD c ByteArray.empty] ++ K.drop (c + 1)) = K
    rw [List.getD_eq_getElem?_getD, List.getElem?_eq_getElem hc]
    show K.take c ++ (K[c] :: K.drop (c + 1)) = K
    rw [← List.drop_eq_getElem_cons hc, List.take_append_drop]
end Go.Proofs.Ytbpnkgaomobpkaa.Mrg
