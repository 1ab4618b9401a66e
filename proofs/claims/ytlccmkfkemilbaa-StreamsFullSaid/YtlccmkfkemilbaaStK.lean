/- StreamsPrints: its plain law. -/
import Derived.Test.YtlccmkfkemilbaaStJ
namespace Go.Proofs.Ytlccmkfkemilbaa.Bld
open Go.RowKit Go.Lib Go.Proofs.YtlccmkfkemilbaaW.PrintWords Go.Proofs.YtlccmkfkemilbaaW.PrintLast Go.Proofs.YtlccmkfkemilbaaW.PrintMore
set_option linter.unusedVariables false
set_option linter.unusedSimpArgs false
/-- What stands when k texts were gone through: what was printed, and the one file. -/
structure Pr (name : ByteArray) (o f : List UInt8) (s : Str) (k : Nat) : Prop where
  out : s.out = o
  sk : (s.sk = [] ∧ f = []) ∨ s.sk = [(name, f)]
  size : s.size = (o.length : Int) + f.length
  le : o.length + f.length ≤ 500 * k
theorem pr_start (name : ByteArray) : Pr name [] [] str0 0 := ⟨rfl, .inl ⟨rfl, rfl⟩, rfl, Nat.le_refl _⟩
theorem Pr.bounds {name : ByteArray} {out file : List UInt8} {s : Str} {k : Nat} (h : Pr name out file s k) (hk : k ≤ 40) : (0 ≤ s.size ∧ s.size ≤ 65536) ∧ s.out.length ≤ 65536 ∧ (∀ u ∈ s.sk, u.2.length ≤ 65536) ∧ s.sk.length ≤ 8 := by
  have h1 := h.le
  have h2 := h.size
  refine ⟨⟨by omega, by omega⟩, by rw [h.out]; omega, fun u hu => ?_, ?_⟩
  · rcases h.sk with ⟨e, _⟩ | e
    · rw [e] at hu; cases hu
    · rw [e] at hu
      rw [List.mem_singleton.1 hu]
      show file.length ≤ 65536
      omega
  · rcases h.sk with ⟨e, _⟩ | e <;> rw [e] <;> simp
theorem Pr.more {name : ByteArray} {out file : List UInt8} {s : Str} {k : Nat} (h : Pr name out file s k) : Pr name out file s (k + 1) := { h with le := by have := h.le; omega }
theorem pr_print {name : ByteArray} {out file : List UInt8} {s : Str} {k : Nat} (h : Pr name out file s k) (t : ByteArray) (ht : t.size ≤ 500) (hk : k < 40) : (printS s t).2 = 0 ∧ Pr name (out ++ t.data.toList) file (printS s t).1 (k + 1) := by
  have h1 := h.le
  have h2 := h.size
  unfold printS
  rw [if_neg (by omega)]
  have h3 := len_str out t
  exact ⟨rfl, ⟨by show s.out ++ _ = _; rw [h.out], h.sk, by show s.size + _ = _; rw [h3, h2]; omega, by rw [h3]; omega⟩⟩
theorem pr_write {name : ByteArray} {out file : List UInt8} {s : Str} {k : Nat} (h : Pr name out file s k) (t : ByteArray) (ht : t.size ≤ 500) (hk : k < 40) : (writeS s name t).2 = 0 ∧ Pr name out (file ++ t.data.toList) (writeS s name t).1 (k + 1) := by
  have h1 := h.le
  have h2 := h.size
  have h3 := len_str file t
  unfold writeS
  rcases h.sk with ⟨e, e2⟩ | e
  · have hf : s.sk.findIdx? (fun x => x.1.toList == name.toList) = none := by rw [e]; rfl
    rw [hf]
    dsimp only
    rw [if_neg (by rw [e]; decide), if_neg (by omega)]
    subst e2
    exact ⟨rfl, ⟨h.out, .inr (by show s.sk ++ _ = _; rw [e]; rfl), by show s.size + _ = _; rw [h3, h2]; simp, by rw [h3]; simp at h1 ⊢; omega⟩⟩
  · have hf : s.sk.findIdx? (fun x => x.1.toList == name.toList) = some 0 := by rw [e]; simp [List.findIdx?_cons]
    rw [hf]
    dsimp only
    rw [if_neg (by omega)]
    exact ⟨rfl, ⟨h.out, .inr (by show s.sk.set 0 _ = _; rw [e]; rfl), by show s.size + _ = _; rw [h3, h2]; omega, by rw [h3]; omega⟩⟩
end Go.Proofs.Ytlccmkfkemilbaa.Bld
