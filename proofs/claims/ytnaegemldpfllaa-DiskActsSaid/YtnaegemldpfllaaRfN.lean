/- The disk and the answer's disk go alike: the plain law of DiskActs. -/
import Derived.Test.YtnaegemldpfllaaRfM
namespace Go.Proofs.Ytnaegemldpfllaa.Dis
open Go.RowKit Go.Proofs.YtnaegemldpfllaaW.PrintWords Go.Proofs.YtnaegemldpfllaaW.PrintLast Go.Proofs.YtnaegemldpfllaaW.PrintMore Go.Maps
set_option linter.unusedVariables false
set_option linter.unusedSimpArgs false
/-- What both disks have in common behind k calls. -/
structure Sim (d : D) (r : Rf) (k : Nat) : Prop where
  n : d.n = r.n
  dead : d.dead = r.dead
  live : r.dead = false → (r.armed = false ∧ d.left = -1) ∨ (r.armed = true ∧ 0 ≤ r.left ∧ d.left = r.left)
  lb : -(k : Int) ≤ r.left
  ub : r.left ≤ 9223372036854775807
  since : d.since = r.to_.zip r.ws
  tw : r.to_.length = r.ws.length
  ab : r.at_.length = r.b.length
  fast : ∀ i, d.fast i = rfast r i
  secb : ∀ s ∈ r.b, Sec s
  secw : ∀ s ∈ r.ws, Sec s
  size : r.at_.length + r.to_.length ≤ k
  cnt : d.cnt ≤ k
theorem Sim.up {d : D} {r : Rf} {k k' : Nat} (h : Sim d r k) (hk : k ≤ k') : Sim d r k' :=
  { h with lb := by have := h.lb; omega, size := Nat.le_trans h.size hk, cnt := Nat.le_trans h.cnt hk }
theorem rfast_eq {r r' : Rf} (h1 : r'.at_ = r.at_) (h2 : r'.b = r.b) (i : Int) : rfast r' i = rfast r i := by unfold rfast; rw [h1, h2]
theorem rfast_len {r : Rf} (hs : ∀ s ∈ r.b, Sec s) (i : Int) : (rfast r i).length ≤ 512 := by
  unfold rfast
  split
  · rename_i k _
    rw [List.getD_eq_getElem?_getD]
    cases h : r.b[k]? with
    | none => simp
    | some s => exact Nat.le_of_eq (hs s (List.mem_of_getElem? h)).1
  · exact Nat.le_of_eq sec_zeros.1
theorem rfast_set {r : Rf} (h : r.at_.length = r.b.length) (i : Int) (s : List Int) (j : Int) : rfast (setR r i s) j = if j = i then s else rfast r j := by
  unfold setR
  cases hf : r.at_.findIdx? (· == i) with
  | some k =>
    obtain ⟨hk, hke, hlt⟩ := List.findIdx?_eq_some_iff_getElem.1 hf
    have hki : r.at_[k] = i := by simpa using hke
    show (match r.at_.findIdx? (· == j) with | some q => (r.b.set k s).getD q [] | none => zeros) = _
    by_cases hj : j = i
    · subst hj
      rw [hf, if_pos rfl]
      simp [List.getD_eq_getElem?_getD, h ▸ hk]
    · rw [if_neg hj]
      unfold rfast
      cases hg : r.at_.findIdx? (· == j) with
      | none => rfl
      | some q =>
        obtain ⟨hq, hqe, _⟩ := List.findIdx?_eq_some_iff_getElem.1 hg
        have hqj : r.at_[q] = j := by simpa using hqe
        have hne : k ≠ q := fun e => by subst e; exact hj (hqj.symm.trans hki)
        simp only [List.getD_eq_getElem?_getD]
        rw [List.getElem?_set_ne hne]
  | none =>
    have hno : ∀ x ∈ r.at_, (x == i) = false := by simpa using List.findIdx?_eq_none_iff.1 hf
    show (match (r.at_ ++ [i]).findIdx? (· == j) with | some q => (r.b ++ [s]).getD q [] | none => zeros) = _
    rw [List.findIdx?_append]
    unfold rfast
    cases hg : r.at_.findIdx? (· == j) with
    | some q =>
      obtain ⟨hq, hqe, _⟩ := List.findIdx?_eq_some_iff_getElem.1 hg
      have hqj : r.at_[q] = j := by simpa using hqe
      have hj : j ≠ i := fun e => by
        have := hno _ (List.getElem_mem hq)
        rw [hqj, e] at this
        simp at this
      rw [if_neg hj]
      simp only [Option.some_or, List.getD_eq_getElem?_getD]
      rw [List.getElem?_append_left (by omega)]
    | none =>
      by_cases hj : j = i
      · subst hj
        rw [if_pos rfl]
        simp [List.findIdx?_cons, List.getD_eq_getElem?_getD, h]
      · rw [if_neg hj]
        have : ((i == j) = false) := by simp; exact fun e => hj e.symm
        simp [List.findIdx?_cons, this]
theorem setR_sec {r : Rf} {i : Int} {s : List Int} (h : ∀ x ∈ r.b, Sec x) (hs : Sec s) : ∀ x ∈ (setR r i s).b, Sec x := by
  unfold setR
  split
  · intro x hx
    rcases List.mem_or_eq_of_mem_set hx with h1 | h1
    · exact h x h1
    · rw [h1]; exact hs
  · intro x hx
    rcases List.mem_append.1 hx with h1 | h1
    · exact h x h1
    · rw [List.mem_singleton.1 h1]; exact hs
/-! ### one call -/
theorem sim_call {d : D} {r : Rf} {k : Nat} (h : Sim d r k) : Sim (callD d).1 (callR r).1 (k + 1) ∧ (((callD d).2 = 0 ∧ (callR r).2 = true) ∨ ((callD d).2 = 190 ∧ (callR r).2 = false)) := by
  obtain ⟨s1, s2, s3, s4, s5, s6, s7⟩ := callR_same r
  have dsame : (callD d).1.n = d.n ∧ (callD d).1.since = d.since ∧ (callD d).1.fast = d.fast ∧ (callD d).1.cnt = d.cnt := by unfold callD; split <;> exact ⟨rfl, rfl, rfl, rfl⟩
  obtain ⟨d1, d2, d3, d4⟩ := dsame
  have key : (callD d).1.dead = (callR r).1.dead ∧ ((callR r).1.dead = false → ((callR r).1.armed = false ∧ (callD d).1.left = -1) ∨ ((callR r).1.armed = true ∧ 0 ≤ (callR r).1.left ∧ (callD d).1.left = (callR r).1.left)) ∧
      (((callD d).2 = 0 ∧ (callR r).2 = true) ∨ ((callD d).2 = 190 ∧ (callR r).2 = false)) := by
    have hd := h.dead
    have hl := h.live
    rcases Bool.eq_false_or_eq_true r.dead with hr | hr
    · rw [hr] at hd
      have eD : callD d = ({ d with dead := true }, 190) := by unfold callD; rw [if_pos (.inr hd)]
      rw [eD]
      by_cases hx : r.armed = true ∧ r.left ≤ 0
      · have eR : callR r = ({ r with dead := true, left := r.left - 1 }, false) := by unfold callR; rw [if_pos hx]
        rw [eR]
        exact ⟨rfl, fun e => (Bool.noConfusion e), .inr ⟨rfl, rfl⟩⟩
      · have eR : callR r = ({ r with left := r.left - 1 }, !r.dead) := by unfold callR; rw [if_neg hx]
        rw [eR]
        exact ⟨hr.symm, fun e => (by rw [show r.dead = false from e] at hr; cases hr), .inr ⟨rfl, by show (!r.dead) = false; rw [hr]; rfl⟩⟩
    · rw [hr] at hd
      rcases hl hr with ⟨ha, hl1⟩ | ⟨ha, hl1, hl2⟩
      · have eD : callD d = ({ d with left := if 0 < d.left then d.left - 1 else d.left }, 0) := by unfold callD; rw [if_neg (show ¬ (d.left = 0 ∨ d.dead = true) by rw [hl1, hd]; decide)]
        have eR : callR r = ({ r with left := r.left - 1 }, !r.dead) := by unfold callR; rw [if_neg (show ¬ (r.armed = true ∧ r.left ≤ 0) by rw [ha]; simp)]
        rw [eD, eR]
        refine ⟨by show d.dead = r.dead; rw [hd, hr], fun _ => .inl ⟨ha, ?_⟩, .inl ⟨rfl, by show (!r.dead) = true; rw [hr]; rfl⟩⟩
        show (if 0 < d.left then d.left - 1 else d.left) = -1
        rw [hl1]; decide
      · by_cases h0 : r.left ≤ 0
        · have eD : callD d = ({ d with dead := true }, 190) := by unfold callD; rw [if_pos (show d.left = 0 ∨ d.dead = true from .inl (by omega))]
          have eR : callR r = ({ r with dead := true, left := r.left - 1 }, false) := by unfold callR; rw [if_pos ⟨ha, h0⟩]
          rw [eD, eR]
          exact ⟨rfl, fun e => (Bool.noConfusion e), .inr ⟨rfl, rfl⟩⟩
        · have eD : callD d = ({ d with left := if 0 < d.left then d.left - 1 else d.left }, 0) := by unfold callD; rw [if_neg (show ¬ (d.left = 0 ∨ d.dead = true) by rw [hd]; simp; omega)]
          have eR : callR r = ({ r with left := r.left - 1 }, !r.dead) := by unfold callR; rw [if_neg (show ¬ (r.armed = true ∧ r.left ≤ 0) from fun e => h0 e.2)]
          rw [eD, eR]
          refine ⟨by show d.dead = r.dead; rw [hd, hr], fun _ => .inr ⟨ha, by show 0 ≤ r.left - 1; omega, ?_⟩, .inl ⟨rfl, by show (!r.dead) = true; rw [hr]; rfl⟩⟩
          show (if 0 < d.left then d.left - 1 else d.left) = r.left - 1
          rw [if_pos (by omega), hl2]
  refine ⟨⟨by rw [d1, s1, h.n], key.1, key.2.1, by rw [s6]; have := h.lb; omega, by rw [s6]; have := h.ub; omega, by rw [d2, s4, s5]; exact h.since, by rw [s4, s5]; exact h.tw, by rw [s2, s3]; exact h.ab, fun i => by rw [d3, h.fast, rfast_eq s2 s3], by rw [s3]; exact h.secb, by rw [s5]; exact h.secw, by rw [s2, s4]; have := h.size; omega, by rw [d4]; have := h.cnt; omega⟩, key.2.2⟩
theorem sim_write {d : D} {r : Rf} {k : Nat} (h : Sim d r k) (i : Int) (b : List Int) (ho : OkB b) : Sim (writeD d i b).1 (writeR r i b).1 (k + 2) ∧ (writeD d i b).2 = (writeR r i b).2 := by
  obtain ⟨hc, he⟩ := sim_call h
  unfold writeD writeR
  rcases he with ⟨e1, e2⟩ | ⟨e1, e2⟩
  · rw [if_neg (show ¬ (callD d).2 ≠ 0 by rw [e1]; simp), if_neg (show ¬ (callR r).2 = false by rw [e2]; simp)]
    by_cases h1 : i < 0
    · have eT : thereD (callD d).1 i = 1 := by unfold thereD; rw [if_pos h1]
      rw [eT, if_pos (show (1 : Int) ≠ 0 by decide), if_pos h1]
      exact ⟨hc.up (by omega), rfl⟩
    · by_cases h2 : (callR r).1.n ≤ i
      · have eT : thereD (callD d).1 i = 8 := by unfold thereD; rw [if_neg h1, hc.n, if_pos h2]
        rw [eT, if_pos (show (8 : Int) ≠ 0 by decide), if_neg h1, if_pos h2]
        exact ⟨hc.up (by omega), rfl⟩
      · have eT : thereD (callD d).1 i = 0 := by unfold thereD; rw [if_neg h1, hc.n, if_neg h2]
        rw [eT, if_neg (show ¬ (0 : Int) ≠ 0 by decide), if_neg h1, if_neg h2]
        by_cases h3 : 512 < b.length
        · rw [if_pos h3, if_pos h3]
          exact ⟨hc.up (by omega), rfl⟩
        · rw [if_neg h3, if_neg h3]
          refine ⟨{ hc with lb := (by have := hc.lb; show _ ≤ (callR r).1.left; omega), since := ?_, tw := ?_, secw := ?_, size := ?_, cnt := ?_, fast := hc.fast }, rfl⟩
          · show (callD d).1.since ++ [(i, pad b)] = ((callR r).1.to_ ++ [i]).zip ((callR r).1.ws ++ [pad b])
            rw [hc.since, List.zip_append hc.tw]
            rfl
          · show ((callR r).1.to_ ++ [i]).length = ((callR r).1.ws ++ [pad b]).length
            simp [hc.tw]
          · intro s hs
            rcases List.mem_append.1 hs with h4 | h4
            · exact hc.secw s h4
            · rw [List.mem_singleton.1 h4]; exact pad_sec (by omega) ho
          · show (callR r).1.at_.length + ((callR r).1.to_ ++ [i]).length ≤ _
            have := hc.size
            simp; omega
          · show (callD d).1.cnt + 1 ≤ _
            have := hc.cnt
            omega
  · rw [if_pos (by rw [e1]; decide), if_pos e2]
    exact ⟨hc.up (by omega), e1⟩
theorem read_last (r : Rf) (i : Int) (s0 : List Int) (ht : r.to_.length = r.ws.length) : ∀ k, k ≤ r.to_.length → readF ((r.to_.zip r.ws).take k) i s0 = lastTo r i s0 k
  | 0, _ => rfl
  | k + 1, hk => by
    have ih := read_last r i s0 ht k (by omega)
    have h1 : k < r.to_.length := hk
    have h2 : k < r.ws.length := by omega
    have hz : k < (r.to_.zip r.ws).length := by rw [List.length_zip]; omega
    have e : (r.to_.zip r.ws).take (k + 1) = (r.to_.zip r.ws).take k ++ [(r.to_[k], r.ws[k])] := by
      rw [List.take_add_one, List.getElem?_eq_getElem hz]
      simp
    unfold readF at ih ⊢
    rw [e, List.reverse_append]
    show _ = (if r.to_.getD k 0 = i then r.ws.getD k [] else lastTo r i s0 k)
    have e1 : r.to_.getD k 0 = r.to_[k] := by simp [List.getD_eq_getElem?_getD, h1]
    have e2 : r.ws.getD k [] = r.ws[k] := by simp [List.getD_eq_getElem?_getD, h2]
    rw [e1, e2]
    simp only [List.reverse_cons, List.reverse_nil, List.nil_append, List.singleton_append, List.find?_cons]
    by_cases hi : r.to_[k] = i
    · rw [if_pos hi]
      simp [hi]
    · rw [if_neg hi]
      have hb : (r.to_[k] == i) = false := by simp [hi]
      simp only [hb]
      exact ih
theorem read_all {d : D} {r : Rf} {k : Nat} (h : Sim d r k) (i : Int) (s0 : List Int) : readF d.since i s0 = lastTo r i s0 r.to_.length := by
  rw [← read_last r i s0 h.tw _ (Nat.le_refl _), h.since, List.take_of_length_le (by rw [List.length_zip]; omega)]
theorem last_len {r : Rf} (hs : ∀ s ∈ r.ws, Sec s) (i : Int) (s0 : List Int) (h0 : s0.length ≤ 512) : ∀ k, (lastTo r i s0 k).length ≤ 512
  | 0 => h0
  | k + 1 => by
    show (if r.to_.getD k 0 = i then r.ws.getD k [] else lastTo r i s0 k).length ≤ 512
    by_cases hi : r.to_.getD k 0 = i
    · rw [if_pos hi, List.getD_eq_getElem?_getD]
      cases h : r.ws[k]? with
      | none => simp
      | some s => exact Nat.le_of_eq (hs s (List.mem_of_getElem? h)).1
    · rw [if_neg hi]
      exact last_len hs i s0 h0 k
theorem bytes_len {r : Rf} (hs : ∀ s ∈ r.b, Sec s) (i : Int) : (bytesR r i).length ≤ 512 := by
  unfold bytesR
  split
  · simp
  · exact rfast_len hs i
theorem sim_read {d : D} {r : Rf} {k : Nat} (h : Sim d r k) (i : Int) : Sim (readD d i).1 (readR r i).1 (k + 2) ∧ (readD d i).2 = (readR r i).2 := by
  obtain ⟨hc, he⟩ := sim_call h
  unfold readD readR
  rcases he with ⟨e1, e2⟩ | ⟨e1, e2⟩
  · rw [if_neg (show ¬ (callD d).2 ≠ 0 by rw [e1]; simp), if_neg (show ¬ (callR r).2 = false by rw [e2]; simp)]
    by_cases h1 : i < 0
    · have eT : thereD (callD d).1 i = 1 := by unfold thereD; rw [if_pos h1]
      rw [eT, if_pos (show (1 : Int) ≠ 0 by decide), if_pos h1]
      exact ⟨hc.up (by omega), rfl⟩
    · by_cases h2 : (callR r).1.n ≤ i
      · have eT : thereD (callD d).1 i = 8 := by unfold thereD; rw [if_neg h1, hc.n, if_pos h2]
        rw [eT, if_pos (show (8 : Int) ≠ 0 by decide), if_neg h1, if_pos h2]
        exact ⟨hc.up (by omega), rfl⟩
      · have eT : thereD (callD d).1 i = 0 := by unfold thereD; rw [if_neg h1, hc.n, if_neg h2]
        rw [eT, if_neg (show ¬ (0 : Int) ≠ 0 by decide), if_neg h1, if_neg h2]
        refine ⟨hc.up (by omega), ?_⟩
        have hb : bytesR (callR r).1 i = (callD d).1.fast i := by unfold bytesR; rw [if_neg (by omega), hc.fast]
        show (_, _) = (_, _)
        rw [read_all hc, hb]
  · rw [if_pos (by rw [e1]; decide), if_pos e2]
    exact ⟨hc.up (by omega), by rw [e1]⟩
/-! ### what is kept -/
theorem kept_alike {d : D} {r : Rf} {k : Nat} (h : Sim d r k) (F : Nat → Bool) : ∀ j, j ≤ r.to_.length → (∀ i, keptTo F d.since d.fast j i = rfast (keptR F r j) i) ∧ ∀ s ∈ (keptR F r j).b, Sec s
  | 0, _ => ⟨h.fast, h.secb⟩
  | j + 1, hj => by
    obtain ⟨ih, ih2⟩ := kept_alike h F j (by omega)
    unfold keptTo keptR
    by_cases hF : F j = true
    · rw [if_pos hF, if_pos hF]
      have h1 : j < r.to_.length := hj
      have h2 : j < r.ws.length := by have := h.tw; omega
      have hz : j < (r.to_.zip r.ws).length := by rw [List.length_zip]; omega
      have e1 : r.to_.getD j 0 = r.to_[j] := by simp [List.getD_eq_getElem?_getD, h1]
      have e2 : r.ws.getD j [] = r.ws[j] := by simp [List.getD_eq_getElem?_getD, h2]
      have e3 : d.since.getD j (0, zeros) = (r.to_[j], r.ws[j]) := by
        rw [h.since, List.getD_eq_getElem?_getD, List.getElem?_eq_getElem hz]
        simp
      rw [e1, e2, e3]
      refine ⟨fun i => ?_, setR_sec ih2 (h.secw _ (List.getElem_mem h2))⟩
      rw [rfast_set ((keptR_same F r j).2.2.2.2.2.2.1 h.ab)]
      unfold upd
      rw [← ih i]
    · rw [if_neg hF, if_neg hF]
      exact ⟨ih, ih2⟩
theorem sim_keeps {d : D} {r : Rf} {k : Nat} (h : Sim d r k) (F : Nat → Bool) : Sim (keepsD d F) (keepsR r F) k := by
  obtain ⟨q1, q2, q3, q4, q5, q6, q7, q8⟩ := keptR_same F r r.to_.length
  obtain ⟨k1, k2⟩ := kept_alike h F r.to_.length (Nat.le_refl _)
  have hs := h.size
  have hlen : d.since.length = r.to_.length := by rw [h.since, List.length_zip, ← h.tw]; omega
  refine ⟨by show d.n = _; rw [h.n]; exact q3.symm, by show d.dead = _; rw [h.dead]; exact q6.symm, ?_, by show _ ≤ (keptR F r r.to_.length).left; rw [q4]; exact h.lb, by show (keptR F r r.to_.length).left ≤ _; rw [q4]; exact h.ub, rfl, rfl, q7 h.ab, fun i => ?_, k2, fun s hs => (List.not_mem_nil hs).elim, ?_, h.cnt⟩
  · intro hd
    have hd2 : r.dead = false := by rw [← q6]; exact hd
    show ((keptR F r r.to_.length).armed = false ∧ d.left = -1) ∨ ((keptR F r r.to_.length).armed = true ∧ 0 ≤ (keptR F r r.to_.length).left ∧ d.left = (keptR F r r.to_.length).left)
    rw [q5, q4]
    exact h.live hd2
  · show keptTo F d.since d.fast d.since.length i = _
    rw [hlen, k1 i]
    exact rfast_eq rfl rfl i
  · show (keptR F r r.to_.length).at_.length + ([] : List Int).length ≤ k
    simp; omega
theorem sim_flush {d : D} {r : Rf} {k : Nat} (h : Sim d r k) : Sim (flushD d).1 (flushR r).1 (k + 2) ∧ (flushD d).2 = (flushR r).2 := by
  obtain ⟨hc, he⟩ := sim_call h
  unfold flushD flushR
  rcases he with ⟨e1, e2⟩ | ⟨e1, e2⟩
  · rw [if_pos e1, if_neg (by rw [e2]; simp)]
    exact ⟨(sim_keeps hc _).up (by omega), rfl⟩
  · rw [if_neg (by rw [e1]; decide), if_pos e2]
    exact ⟨hc.up (by omega), e1⟩
theorem sim_arm {d : D} {r : Rf} {k : Nat} (h : Sim d r k) (c : Int) (hc : c ≤ 9223372036854775807) : Sim (armD d c) (armR r c) (k + 2) := by
  have hnn : 0 ≤ (if c < 0 then 0 else c) := by split <;> omega
  refine { h.up (show k ≤ k + 2 by omega) with dead := h.dead, n := h.n, since := h.since, live := fun _ => .inr ⟨rfl, hnn, rfl⟩, lb := ?_, ub := ?_, fast := fun i => (h.fast i).trans (rfast_eq (r := r) rfl rfl i).symm, cnt := by have := h.cnt; show d.cnt ≤ _; omega }
  · show _ ≤ (if c < 0 then 0 else c)
    omega
  · show (if c < 0 then 0 else c) ≤ _
    split <;> omega
theorem sim_crash {d : D} {r : Rf} {k : Nat} (h : Sim d r k) (l : List Bool) : Sim (crashD d l) (crashR r l) (k + 2) := by
  have h1 := (sim_keeps h (kept l)).up (show k ≤ k + 2 by omega)
  exact { h1 with dead := rfl, n := h1.n, since := h1.since, live := fun _ => .inl ⟨rfl, rfl⟩, fast := fun i => (h1.fast i).trans (rfast_eq (r := keepsR r (kept l)) rfl rfl i).symm, cnt := h1.cnt }
/-! ### from an image -/
theorem newR_fast (n i : Int) : rfast (newR n) i = zeros := rfl
theorem sim_load (n : Int) (img : List Int) (ho : OkB img) : ∀ k, Sim (loadDTo n img k) (loadTo n img k) k
  | 0 => ⟨rfl, rfl, fun _ => .inl ⟨rfl, rfl⟩, by show _ ≤ (0 : Int); decide, by show (0 : Int) ≤ _; decide, rfl, rfl, rfl, fun i => rfl, fun s hs => (List.not_mem_nil hs).elim, fun s hs => (List.not_mem_nil hs).elim, Nat.le_refl _, Nat.le_refl _⟩
  | k + 1 => by
    have h := sim_load n img ho k
    obtain ⟨g1, g2, g3, g4, g5, g6, g7, g8⟩ := setR_same (loadTo n img k) (k : Int) (pad (piece img k))
    have hs : Sec (pad (piece img k)) := pad_sec (by rw [piece_len]; omega) (okb_piece ho k)
    refine ⟨by show (loadDTo n img k).n = (setR _ _ _).n; rw [g3]; exact h.n, by show (loadDTo n img k).dead = (setR _ _ _).dead; rw [g6]; exact h.dead, ?_, by show _ ≤ (setR _ _ _).left; rw [g4]; have := h.lb; omega, by show (setR _ _ _).left ≤ _; rw [g4]; exact h.ub, by show (loadDTo n img k).since = (setR _ _ _).to_.zip (setR _ _ _).ws; rw [g1, g2]; exact h.since, by show (setR _ _ _).to_.length = (setR _ _ _).ws.length; rw [g1, g2]; exact h.tw, g7 h.ab, fun i => ?_, setR_sec h.secb hs, by show ∀ s ∈ (setR _ _ _).ws, _; rw [g2]; exact h.secw, by show (setR _ _ _).at_.length + (setR _ _ _).to_.length ≤ _; rw [g1]; have := h.size; omega, by show (loadDTo n img k).cnt + 1 ≤ _; have := h.cnt; omega⟩
    · show (setR _ _ _).dead = false → ((setR _ _ _).armed = false ∧ (loadDTo n img k).left = -1) ∨ ((setR _ _ _).armed = true ∧ 0 ≤ (setR _ _ _).left ∧ (loadDTo n img k).left = (setR _ _ _).left)
      rw [g6, g5, g4]
      exact h.live
    · show upd (loadDTo n img k).fast ((k : Int), pad (piece img k)) i = rfast (setR (loadTo n img k) (k : Int) (pad (piece img k))) i
      rw [rfast_set h.ab, ← h.fast i]
      rfl
theorem sim_bytes {d : D} {r : Rf} {k : Nat} (h : Sim d r k) (i : Int) : bytesD d i = bytesR r i := by unfold bytesD bytesR; rw [h.n, h.fast]
end Go.Proofs.Ytnaegemldpfllaa.Dis
