/- Wal: what scan finds of what record made (plain). -/
import Derived.Test.YtmghgghheebnjaaWalK
namespace Go.Proofs.Ytmghgghheebnjaa.Dis
open Go.RowKit Go.Proofs.YtmghgghheebnjaaW.PrintWords Go.Proofs.YtmghgghheebnjaaW.PrintLast Go.Proofs.YtmghgghheebnjaaW.PrintMore Go.Maps Go.Proofs.Ytmghgghheebnjaa.PWalRecords
set_option linter.unusedVariables false
set_option linter.unusedSimpArgs false
theorem take_add' {α : Type} (l : List α) (a b : Nat) : l.take (a + b) = l.take a ++ (l.drop a).take b := List.take_add
theorem takeL {α : Type} {a b : List α} {n : Nat} (h : a.length = n) : (a ++ b).take n = a := by subst h; exact List.take_left
theorem dropL {α : Type} {a b : List α} {n : Nat} (h : a.length = n) : (a ++ b).drop n = b := by subst h; exact List.drop_left
theorem chunks {B : List Int} : ∀ k, ((List.range k).map (fun i => (B.drop (500 * i)).take 500)).flatten = B.take (500 * k) := by
  intro k
  induction k with
  | zero => simp
  | succ k ih =>
    rw [List.range_succ, List.map_append, List.flatten_append, ih, Nat.mul_add, Nat.mul_one, take_add']
    simp
/-- A sector's parts. -/
theorem sect_parts {seq : Int} {n i : Nat} {b : List Int} : (sectB seq n i b).take 8 = bigB seq 8 ∧ ((sectB seq n i b).take 10).drop 8 = bigB (i : Int) 2 ∧ ((sectB seq n i b).take 12).drop 10 = bigB (n : Int) 2 ∧
    (sectB seq n i b).drop 12 = (b.drop (500 * i)).take 500 ++ List.replicate (500 - ((b.drop (500 * i)).take 500).length) 0 := by
  obtain ⟨c, hc⟩ : ∃ c, c = (b.drop (500 * i)).take 500 := ⟨_, rfl⟩
  have hs : sectB seq n i b = bigB seq 8 ++ (bigB (i : Int) 2 ++ (bigB (n : Int) 2 ++ (c ++ List.replicate (500 - c.length) 0))) := by
    unfold sectB pad
    rw [← hc]
    have hl : c.length ≤ 500 := by rw [hc, List.length_take]; omega
    simp only [List.append_assoc, List.length_append, bigB_len]
    rw [show 512 - (8 + (2 + (2 + c.length))) = 500 - c.length by omega]
  rw [hs, ← hc]
  have h8 := bigB_len seq 8
  have h2 := bigB_len (i : Int) 2
  have h2' := bigB_len (n : Int) 2
  refine ⟨?_, ?_, ?_, ?_⟩
  · exact takeL h8
  · rw [List.drop_take, dropL h8, show 10 - 8 = 2 from rfl, takeL h2]
  · have e : (bigB seq 8 ++ (bigB (i : Int) 2 ++ (bigB (n : Int) 2 ++ (c ++ List.replicate (500 - c.length) 0)))) = (bigB seq 8 ++ bigB (i : Int) 2) ++ (bigB (n : Int) 2 ++ (c ++ List.replicate (500 - c.length) 0)) := by rw [List.append_assoc]
    have hl : (bigB seq 8 ++ bigB (i : Int) 2).length = 10 := by rw [List.length_append]; omega
    rw [e, List.drop_take, dropL hl, show 12 - 10 = 2 from rfl, takeL h2']
  · have e : (bigB seq 8 ++ (bigB (i : Int) 2 ++ (bigB (n : Int) 2 ++ (c ++ List.replicate (500 - c.length) 0)))) = (bigB seq 8 ++ (bigB (i : Int) 2 ++ bigB (n : Int) 2)) ++ (c ++ List.replicate (500 - c.length) 0) := by simp only [List.append_assoc]
    have hl : (bigB seq 8 ++ (bigB (i : Int) 2 ++ bigB (n : Int) 2)).length = 12 := by rw [List.length_append, List.length_append]; omega
    rw [e, dropL hl]
/-- The body, and noughts behind it. -/
def bodyZ (l : List S58) : List Int := bodyB l ++ List.replicate (500 * secsN l.length - (bodyB l).length) 0
theorem bodyB_len {l : List S58} (h : ∀ p ∈ l, p.f1.length = 512) : (bodyB l).length = 4 + 516 * l.length := bodyTo_len h (Nat.le_refl _)
theorem chunk_eq {l : List S58} (h : ∀ p ∈ l, p.f1.length = 512) {i : Nat} (hi : i < secsN l.length) :
    ((bodyB l).drop (500 * i)).take 500 ++ List.replicate (500 - (((bodyB l).drop (500 * i)).take 500).length) 0 = ((bodyZ l).drop (500 * i)).take 500 := by
  have hl := bodyB_len h
  have hN : secsN l.length = (4 + 516 * l.length + 499) / 500 := rfl
  unfold bodyZ
  have h1 : 500 * i ≤ (bodyB l).length := by rw [hl]; omega
  rw [List.drop_append_of_le_length h1, List.take_append, List.length_drop]
  congr 1
  rw [List.take_replicate, List.length_take, List.length_drop]
  congr 1
  rw [hl]
  omega
theorem pages_drop {l : List S58} (h : ∀ p ∈ l, p.f1.length = 512) : ∀ j, j ≤ l.length → ((l.map pageB).flatten).drop (516 * j) = ((l.drop j).map pageB).flatten := by
  induction l with
  | nil => intro j hj; simp
  | cons p l ih =>
    intro j hj
    cases j with
    | zero => simp
    | succ j =>
      have hp : (pageB p).length = 516 := by unfold pageB; rw [List.length_append, bigB_len, h p List.mem_cons_self]
      rw [List.map_cons, List.flatten_cons, List.drop_succ_cons, Nat.mul_add, Nat.mul_one, Nat.add_comm (516 * j) 516, ← List.drop_drop, dropL hp]
      exact ih (fun q hq => h q (List.mem_cons_of_mem _ hq)) j (by simpa using hj)
theorem bodyZ_at {l : List S58} (h : ∀ p ∈ l, p.f1.length = 512) {j : Nat} (hj : j < l.length) : ∃ X, (bodyZ l).drop (4 + 516 * j) = bigB (l.getD j z58).f0 4 ++ ((l.getD j z58).f1 ++ X) := by
  have hl := bodyB_len h
  unfold bodyZ
  rw [List.drop_append_of_le_length (by rw [hl]; omega)]
  have hb : (bodyB l).drop (4 + 516 * j) = ((l.drop j).map pageB).flatten := by
    unfold bodyB bodyTo
    rw [← List.drop_drop, dropL (bigB_len _ _), List.take_of_length_le (Nat.le_refl _)]
    exact pages_drop h j (by omega)
  rw [hb, List.getD_eq_getElem?_getD, List.getElem?_eq_getElem hj, Option.getD_some, List.drop_eq_getElem_cons hj, List.map_cons, List.flatten_cons]
  refine ⟨((l.drop (j + 1)).map pageB).flatten ++ List.replicate (500 * secsN l.length - (bodyB l).length) 0, ?_⟩
  show (bigB l[j].f0 4 ++ l[j].f1) ++ _ ++ _ = _
  simp only [List.append_assoc]
theorem bodyZ_many (l : List S58) : (bodyZ l).take 4 = bigB (l.length : Int) 4 := by
  unfold bodyZ bodyB bodyTo
  rw [List.append_assoc, takeL (bigB_len _ _)]
theorem recS_len (seq : Int) (l : List S58) : (recS seq l).length = secsN l.length := by unfold recS; simp
theorem recS_at (seq : Int) (l : List S58) (rest : List (List Int)) {i : Nat} (hi : i < secsN l.length) : (recS seq l ++ rest).getD i [] = sectB seq (secsN l.length) i (bodyB l) := by
  rw [List.getD_eq_getElem?_getD, List.getElem?_append_left (by rw [recS_len]; exact hi)]
  unfold recS
  rw [List.getElem?_map, List.getElem?_range hi]
  rfl
theorem scan_rec {seq : Int} {l : List S58} (rest : List (List Int)) (h : recE seq l = 0) (h0 : 0 ≤ seq) (h1 : seq < 18446744073709551616) : ScanOk (recS seq l ++ rest) (secsN l.length) l.length ∧ outS (recS seq l ++ rest) (secsN l.length) l.length = l := by
  obtain ⟨e0, e1, e2, e3⟩ := recE_0 h
  have hg := good_all e1
  have hp : ∀ p ∈ l, p.f1.length = 512 := fun p hp => (hg p hp).2.2
  have hN : 1 ≤ secsN l.length := by unfold secsN; omega
  have hlog : logB (recS seq l ++ rest) (secsN l.length) = bodyZ l := by
    unfold logB
    rw [List.take_append_of_le_length (by rw [recS_len]; exact Nat.le_refl _), List.take_of_length_le (by rw [recS_len]; exact Nat.le_refl _)]
    have hm : (recS seq l).map (fun s => s.drop 12) = (List.range (secsN l.length)).map (fun i => ((bodyZ l).drop (500 * i)).take 500) := by
      unfold recS
      rw [List.map_map]
      apply List.map_congr_left
      intro i hi
      rw [List.mem_range] at hi
      show (sectB seq (secsN l.length) i (bodyB l)).drop 12 = _
      rw [sect_parts.2.2.2, chunk_eq hp hi]
    rw [hm, chunks, List.take_of_length_le]
    unfold bodyZ
    rw [List.length_append, List.length_replicate, bodyB_len hp]
    unfold secsN
    omega
  have hs8 : ∀ i, i < secsN l.length → partP ((recS seq l ++ rest).getD i []) seq i (secsN l.length) := by
    intro i hi
    rw [recS_at seq l rest hi]
    obtain ⟨a1, a2, a3, _⟩ := sect_parts (seq := seq) (n := secsN l.length) (i := i) (b := bodyB l)
    refine ⟨?_, ?_, ?_, ?_⟩
    · unfold sectB pad
      have hc : (((bodyB l).drop (500 * i)).take 500).length ≤ 500 := by rw [List.length_take]; omega
      simp only [List.length_append, bigB_len, List.length_replicate]
      omega
    · rw [a1]; exact numB_big seq 8 h0 (by have : (256 : Int) ^ 8 = 18446744073709551616 := by decide
                                           omega)
    · rw [a2]; exact numB_big _ 2 (by omega) (by have : (256 : Int) ^ 2 = 65536 := by decide
                                                 omega)
    · rw [a3]; exact numB_big _ 2 (by omega) (by have : (256 : Int) ^ 2 = 65536 := by decide
                                                 omega)
  have hsq : seqS (recS seq l ++ rest) = seq := (hs8 0 hN).2.1
  have hno : ∀ j, j < l.length → noAt (bodyZ l) j = (l.getD j z58).f0 ∧ ((bodyZ l).drop (4 + 516 * j)).take 516 = bigB (l.getD j z58).f0 4 ++ (l.getD j z58).f1 := by
    intro j hj
    obtain ⟨X, hX⟩ := bodyZ_at hp hj
    have hm : l.getD j z58 ∈ l := by rw [List.getD_eq_getElem?_getD, List.getElem?_eq_getElem hj]; exact List.getElem_mem hj
    have hgj := hg _ hm
    refine ⟨?_, ?_⟩
    · unfold noAt
      rw [hX, takeL (bigB_len _ _)]
      exact numB_big _ 4 hgj.1 (by have : (256 : Int) ^ 4 = 4294967296 := by decide
                                   omega)
    · rw [hX, ← List.append_assoc, takeL (by rw [List.length_append, bigB_len, hgj.2.2])]
  refine ⟨⟨by rw [List.length_append, recS_len]; omega, (hs8 0 hN).1, by rw [hsq]; exact e0, (hs8 0 hN).2.2.2, hN, e3, by rw [List.length_append, recS_len]; omega, fun i hi => by rw [hsq]; exact hs8 i hi, ?_, e2, rfl, fun j hj => ?_⟩, ?_⟩
  · rw [hlog]
    unfold manyB
    rw [bodyZ_many]
    exact numB_big _ 4 (by omega) (by have : (256 : Int) ^ 4 = 4294967296 := by decide
                                      omega)
  · rw [hlog, (hno j hj).1]
    have hm : l.getD j z58 ∈ l := by rw [List.getD_eq_getElem?_getD, List.getElem?_eq_getElem hj]; exact List.getElem_mem hj
    exact (hg _ hm).2.1
  · unfold outS
    rw [hlog]
    apply List.ext_getElem
    · simp
    · intro j hj1 hj2
      rw [List.getElem_map, List.getElem_range]
      unfold pageAt
      have h2 := hno j hj2
      rw [h2.1, h2.2, dropL (bigB_len _ _), List.getD_eq_getElem?_getD, List.getElem?_eq_getElem hj2]
      rfl
theorem pages_rec {seq : Int} {l : List S58} (rest : List (List Int)) (h : recE seq l = 0) (h0 : 0 ≤ seq) (h1 : seq < 18446744073709551616) : pagesOf (recS seq l ++ rest) = l := by
  obtain ⟨a, b⟩ := scan_rec rest h h0 h1
  have := (scanR_out (.inl ⟨rfl, rfl, _, _, a, rfl⟩ : ScanR (recS seq l ++ rest) (seqS (recS seq l ++ rest)) (outS (recS seq l ++ rest) (secsN l.length) l.length) true)).1
  rw [← this, b]
end Go.Proofs.Ytmghgghheebnjaa.Dis
