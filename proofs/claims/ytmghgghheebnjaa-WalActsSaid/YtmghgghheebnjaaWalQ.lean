/- Wal: opening and committing with power (plain); lives. -/
import Derived.Test.YtmghgghheebnjaaWalM
namespace Go.Proofs.Ytmghgghheebnjaa.Dis
open Go.RowKit Go.Proofs.YtmghgghheebnjaaW.PrintWords Go.Proofs.YtmghgghheebnjaaW.PrintLast Go.Proofs.YtmghgghheebnjaaW.PrintMore Go.Maps Go.Proofs.Ytmghgghheebnjaa.PWalRecords
set_option linter.unusedVariables false
set_option linter.unusedSimpArgs false
theorem enumW_mem : ∀ (rs : List (List Int)) (k : Nat) (x : Int × List Int), x ∈ enumW k rs → (k : Int) ≤ x.1 ∧ x.1 < (k : Int) + rs.length ∧ x.2 ∈ rs := by
  intro rs
  induction rs with
  | nil => intro k x hx; cases hx
  | cons s ss ih =>
    intro k x hx
    rcases List.mem_cons.1 hx with rfl | h
    · exact ⟨Int.le_refl _, by show (k : Int) < _; rw [List.length_cons]; omega, List.mem_cons_self⟩
    · have h1 := ih (k + 1) x h
      rw [List.length_cons]
      exact ⟨by omega, by omega, List.mem_cons_of_mem _ h1.2.2⟩
theorem numB_zeros : numB (zeros.take 8) = 0 := by
  have : zeros.take 8 = List.replicate 8 0 := by unfold zeros; rw [List.take_replicate]; rfl
  rw [this]
  rfl
theorem logF_len (f : Int → List Int) : (logF f).length = 64 := by unfold logF; simp
theorem logF_at (f : Int → List Int) {i : Nat} (hi : i < 64) : (logF f).getD i [] = f (i : Int) := by
  unfold logF
  rw [List.getD_eq_getElem?_getD, List.getElem?_map, List.getElem?_range hi]
  rfl
theorem pages_zero {f : Int → List Int} (h : f 0 = zeros) : pagesOf (logF f) = [] := by
  unfold pagesOf
  rw [if_neg]
  intro hs
  apply hs.sq
  unfold seqS
  rw [logF_at f (by decide)]
  show numB ((f 0).take 8) = 0
  rw [h, numB_zeros]
def freshD (n : Int) : D := { n := n, fast := fun _ => zeros, since := [], left := -1, dead := false, cnt := 0 }
theorem new_fresh {n : Int} (h0 : 0 ≤ n) (h1 : n ≤ 4096) : newD n = freshD n := by
  unfold newD freshD clampN
  rw [if_neg (by omega), if_neg (by omega)]
theorem open_fresh {n : Int} (h : 64 < n) : openD (freshD n) = (freshD n, 0, 0) := by
  rw [openD_live ⟨rfl, rfl⟩ rfl h, pages_zero (f := (freshD n).fast) rfl, List.filter_nil, writesD_nil]
  have hs : seqTo (freshD n) 64 = 0 := by
    refine Int.le_antisymm (seqTo_le (Int.le_refl _) 64 (fun i hi => ?_)) (seqTo_pos _ _)
    rw [(rd_live (d := freshD n) ⟨rfl, rfl⟩ rfl h hi).1]
    exact Int.le_of_eq numB_zeros
  rw [hs]
/-- A commit with power. -/
theorem commitD_live {d : D} (h : Live d) (hs : d.since = []) (hn : 64 < d.n) {seq : Int} (h0 : 0 ≤ seq) (h1 : seq < 18446744073709551615) {l : List S58} (hl : l ≠ []) (hp : ∀ p ∈ l, thereB d.n p.f0 = true ∧ p.f1.length = 512 ∧ BytesOk p.f1) (he : recE (seq + 1) l = 0) :
    ∃ c, commitD d seq l = ({ d with fast := applyW (pgW l) (applyW (enumW 0 (recS (seq + 1) l)) d.fast), cnt := c }, seq + 1, 0) ∧ c ≤ d.cnt + 128 := by
  have hr := recE_0 he
  have hany : l.any (badW d.n) = false := by
    rw [List.any_eq_false]
    intro p hpm
    have h2 := hp p hpm
    unfold badW
    rw [h2.1, h2.2.1]
    decide
  have hlen : ¬ l.length = 0 := fun e => hl (List.eq_nil_of_length_eq_zero e)
  have hN : (recS (seq + 1) l).length = secsN l.length := recS_len _ _
  have hrs := recS_ok (seq := seq + 1) (l := l) (fun p hpm => (hp p hpm).2.2)
  have hw := wrD_live (enumW 0 (recS (seq + 1) l)) d h (fun x hx => by
    have h2 := enumW_mem _ 0 x hx
    exact ⟨by have := h2.1; omega, by have := h2.2.1; omega, (hrs _ h2.2.2).1⟩)
  rw [hs, List.nil_append, enumW_len] at hw
  unfold commitD
  rw [hany, if_neg (by decide), if_neg hlen, if_neg (by omega), he, if_neg (fun e => e rfl), hw, if_neg (fun e => e rfl)]
  have hf : flushD ({ d with since := enumW 0 (recS (seq + 1) l), cnt := d.cnt + (recS (seq + 1) l).length } : D) = ({ d with fast := applyW (enumW 0 (recS (seq + 1) l)) d.fast, since := [], cnt := d.cnt + (recS (seq + 1) l).length }, 0) := flushD_live (d := { d with since := enumW 0 (recS (seq + 1) l), cnt := d.cnt + (recS (seq + 1) l).length }) h
  dsimp only
  rw [hf, if_neg (fun e => e rfl)]
  obtain ⟨c, hc, hc2⟩ := writesD_live (d := { d with fast := applyW (enumW 0 (recS (seq + 1) l)) d.fast, since := [], cnt := d.cnt + (recS (seq + 1) l).length }) h rfl (l := l) (fun p hpm => ⟨(hp p hpm).1, (hp p hpm).2.1⟩)
  dsimp only
  rw [hc]
  refine ⟨c, ?_, ?_⟩
  · obtain ⟨n, fast, since, left, dead, cnt⟩ := d
    dsimp only at hs
    subst hs
    rfl
  · dsimp only at hc2
    rw [hN] at hc2
    omega
theorem applyW_out : ∀ (l : List (Int × List Int)) (f : Int → List Int) (i : Int), (∀ x ∈ l, x.1 ≠ i) → applyW l f i = f i := by
  intro l
  induction l with
  | nil => intro f i _; rfl
  | cons x xs ih =>
    intro f i h
    show applyW xs (upd f x) i = f i
    rw [ih _ _ (fun y hy => h y (List.mem_cons_of_mem _ hy))]
    unfold upd
    exact if_neg (fun e => h x List.mem_cons_self e.symm)
/-- The log behind a commit. -/
theorem log_commit {f : Int → List Int} {seq : Int} {l : List S58} (hp : ∀ p ∈ l, 0 ≤ p.f0) (hN : secsN l.length ≤ 64) : logF (applyW (pgW l) (applyW (enumW 0 (recS seq l)) f)) = recS seq l ++ (logF f).drop (secsN l.length) := by
  apply List.ext_getElem
  · rw [logF_len, List.length_append, List.length_drop, logF_len, recS_len]; omega
  · intro i h1 h2
    rw [logF_len] at h1
    have e1 := logF_at (applyW (pgW l) (applyW (enumW 0 (recS seq l)) f)) h1
    rw [List.getD_eq_getElem?_getD, List.getElem?_eq_getElem (by rw [logF_len]; exact h1)] at e1
    have e1' : (logF (applyW (pgW l) (applyW (enumW 0 (recS seq l)) f)))[i]'(by rw [logF_len]; exact h1) = _ := e1
    rw [e1', applyW_out _ _ _ (fun x hx => by
      obtain ⟨p, hpm, rfl⟩ := List.mem_map.1 hx
      have := hp p hpm
      show 64 + p.f0 ≠ (i : Int)
      omega), applyW_enum]
    by_cases hi : i < secsN l.length
    · rw [if_pos (by rw [recS_len]; omega), List.getElem_append_left (by rw [recS_len]; exact hi)]
      rw [show ((i : Int) - ((0 : Nat) : Int)).toNat = i by omega, List.getD_eq_getElem?_getD, List.getElem?_eq_getElem (by rw [recS_len]; exact hi)]
      rfl
    · rw [if_neg (by rw [recS_len]; omega), List.getElem_append_right (by rw [recS_len]; omega), List.getElem_drop]
      have e2 := logF_at f h1
      rw [List.getD_eq_getElem?_getD, List.getElem?_eq_getElem (by rw [logF_len]; exact h1)] at e2
      rw [← e2]
      have hq : secsN l.length + (i - (recS seq l).length) = i := by rw [recS_len]; omega
      simp only [hq]
      rfl
/-- One page, made by hand. -/
theorem pgL_lit {w : World} {gq base m c : Nat} {no : Int} {A : Option Addr} {b : List Int} (hq : w.heap[gq]? = some (.cells #[.int .i64 no, .slice A m c] 58 (0, 0))) (hR : Kd.R byteK 5 w base tt (.slice A m c) b) : PgL w (some ⟨gq, 0, none⟩) 1 [⟨no, b⟩] := by
  have hr := Kd.R_reads' hR
  refine ⟨rfl, fun k hk => ?_⟩
  obtain rfl : k = 0 := by omega
  refine ⟨⟨gq, 0, none⟩, A, c, rfl, by show b.length ≤ c; have := hr.1; have := hr.2.1; omega, fun W' hk' => ?_⟩
  have hb := hk'.2 gq _ 58 (0, 0) hq (by decide) (by decide) (by decide)
  have hR' := R_keep hR hk' (by intro q hq; simp [Kd.int, Kd.scalar] at hq; omega)
  rw [Nat.zero_mul, add0]
  refine ⟨(blk_cell hb 0).trans rfl, ?_, (Kd.R_reads' hR').2.2⟩
  show W'.cell? ⟨gq, 0 + 1, none⟩ = some (.slice A b.length c)
  rw [← hr.1]
  exact (blk_cell hb 1).trans rfl
end Go.Proofs.Ytmghgghheebnjaa.Dis
