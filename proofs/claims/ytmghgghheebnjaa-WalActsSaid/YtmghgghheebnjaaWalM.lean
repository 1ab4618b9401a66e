/- Wal: a disk with power (plain); page. -/
import Derived.Test.YtmghgghheebnjaaWalL
import Derived.Test.YtmghgghheebnjaaWalP
namespace Go.Proofs.Ytmghgghheebnjaa.Dis
open Go.RowKit Go.Proofs.YtmghgghheebnjaaW.PrintWords Go.Proofs.YtmghgghheebnjaaW.PrintLast Go.Proofs.YtmghgghheebnjaaW.PrintMore Go.Maps Go.Proofs.Ytmghgghheebnjaa.PWalRecords
set_option linter.unusedVariables false
set_option linter.unusedSimpArgs false
def Live (d : D) : Prop := d.left = -1 ∧ d.dead = false
theorem callD_live {d : D} (h : Live d) : callD d = (d, 0) := by
  obtain ⟨n, fast, since, left, dead, cnt⟩ := d
  obtain ⟨h1, h2⟩ := h
  dsimp only at h1 h2
  subst h1
  subst h2
  unfold callD
  simp
theorem writeD_live {d : D} (h : Live d) {i : Int} {b : List Int} (h0 : 0 ≤ i) (h1 : i < d.n) (hb : b.length = 512) : writeD d i b = ({ d with since := d.since ++ [(i, b)], cnt := d.cnt + 1 }, 0) := by
  have hp : pad b = b := by unfold pad; rw [hb]; simp
  unfold writeD
  rw [callD_live h]
  have ht : thereD d i = 0 := by unfold thereD; rw [if_neg (by omega), if_neg (by omega)]
  simp only [ht, hp]
  rw [if_neg (by decide), if_neg (by decide), if_neg (by omega)]
theorem wrD_live : ∀ (xs : List (Int × List Int)) (d : D), Live d → (∀ x ∈ xs, 0 ≤ x.1 ∧ x.1 < d.n ∧ x.2.length = 512) → wrD d xs = ({ d with since := d.since ++ xs, cnt := d.cnt + xs.length }, 0) := by
  intro xs
  induction xs with
  | nil => intro d _ _; simp [wrD]
  | cons x xs ih =>
    intro d hl hx
    have h1 := hx x List.mem_cons_self
    unfold wrD
    rw [writeD_live hl h1.1 h1.2.1 h1.2.2, if_pos rfl, ih { d with since := d.since ++ [(x.1, x.2)], cnt := d.cnt + 1 } hl (fun y hy => hx y (List.mem_cons_of_mem _ hy))]
    simp only [List.append_assoc, List.singleton_append, List.length_cons]
    congr 2
    omega
/-- All that was written, one behind the other. -/
def applyW (l : List (Int × List Int)) (f : Int → List Int) : Int → List Int := l.foldl upd f
theorem keptTo_all (l : List (Int × List Int)) (f : Int → List Int) : ∀ k, k ≤ l.length → keptTo (fun _ => true) l f k = applyW (l.take k) f := by
  intro k
  induction k with
  | zero => intro _; rfl
  | succ k ih =>
    intro hk
    unfold keptTo
    rw [if_pos rfl, ih (by omega)]
    unfold applyW
    rw [List.getD_eq_getElem?_getD, List.getElem?_eq_getElem (by omega), Option.getD_some, ← List.take_append_getElem (show k < l.length by omega), List.foldl_append]
    rfl
theorem flushD_live {d : D} (h : Live d) : flushD d = ({ d with fast := applyW d.since d.fast, since := [] }, 0) := by
  unfold flushD
  rw [callD_live h, if_pos rfl]
  unfold keepsD
  rw [keptTo_all _ _ _ (Nat.le_refl _), List.take_of_length_le (Nat.le_refl _)]
theorem applyW_enum : ∀ (rs : List (List Int)) (k : Nat) (f : Int → List Int) (i : Int), applyW (enumW k rs) f i = if (k : Int) ≤ i ∧ i < (k : Int) + rs.length then rs.getD (i - k).toNat [] else f i := by
  intro rs
  induction rs with
  | nil =>
    intro k f i
    rw [if_neg (by rw [List.length_nil]; omega)]
    rfl
  | cons s ss ih =>
    intro k f i
    show applyW (enumW (k + 1) ss) (upd f ((k : Int), s)) i = _
    rw [ih]
    by_cases h1 : ((k + 1 : Nat) : Int) ≤ i ∧ i < ((k + 1 : Nat) : Int) + ss.length
    · rw [if_pos h1, if_pos (by rw [List.length_cons]; omega)]
      have e : (i - (k : Int)).toNat = (i - ((k + 1 : Nat) : Int)).toNat + 1 := by omega
      rw [e]
      rfl
    · rw [if_neg h1]
      by_cases h2 : i = (k : Int)
      · subst h2
        have hc : (k : Int) ≤ (k : Int) ∧ (k : Int) < (k : Int) + (s :: ss).length := by rw [List.length_cons]; omega
        rw [if_pos hc]
        have hu : upd f ((k : Int), s) (k : Int) = s := by unfold upd; exact if_pos rfl
        rw [hu, Int.sub_self]
        rfl
      · have hc : ¬ ((k : Int) ≤ i ∧ i < (k : Int) + (s :: ss).length) := by rw [List.length_cons]; omega
        rw [if_neg hc]
        unfold upd
        exact if_neg h2
/-- Reading a disk with power on which all stands fast. -/
theorem readD_live {d : D} (h : Live d) (hs : d.since = []) {i : Int} (h0 : 0 ≤ i) (h1 : i < d.n) : readD d i = (d, d.fast i, 0) := by
  unfold readD
  rw [callD_live h]
  have ht : thereD d i = 0 := by unfold thereD; rw [if_neg (by omega), if_neg (by omega)]
  simp only [ht]
  rw [if_neg (by decide), if_neg (by decide)]
  unfold readF
  rw [hs]
  rfl
theorem rdTo_live {d : D} (h : Live d) (hs : d.since = []) (hn : 64 < d.n) : ∀ k, k ≤ 64 → rdTo d k = d := by
  intro k
  induction k with
  | zero => intro _; rfl
  | succ k ih =>
    intro hk
    unfold rdTo
    rw [ih (by omega), readD_live h hs (by omega) (by omega)]
theorem rd_live {d : D} (h : Live d) (hs : d.since = []) (hn : 64 < d.n) {k : Nat} (hk : k < 64) : rdRow d k = d.fast (k : Int) ∧ rdErr d k = 0 := by
  unfold rdRow rdErr
  rw [rdTo_live h hs hn k (by omega), readD_live h hs (by omega) (by omega)]
  exact ⟨rfl, rfl⟩
theorem rdAll_live {d : D} (h : Live d) (hs : d.since = []) (hn : 64 < d.n) : ∀ f k, k + f = 64 → rdAll d k f = (d, 0) := by
  intro f
  induction f with
  | zero =>
    intro k hk
    unfold rdAll
    rw [rdTo_live h hs hn k (by omega)]
  | succ f ih =>
    intro k hk
    unfold rdAll
    rw [if_pos (rd_live h hs hn (by omega)).2]
    exact ih (k + 1) (by omega)
def logF (f : Int → List Int) : List (List Int) := (List.range 64).map (fun (k : Nat) => f (k : Int))
theorem logOf_live {d : D} (h : Live d) (hs : d.since = []) (hn : 64 < d.n) : logOf d 64 = logF d.fast := by
  unfold logOf logF
  apply List.map_congr_left
  intro k hk
  exact (rd_live h hs hn (List.mem_range.1 hk)).1
theorem openD_live {d : D} (h : Live d) (hs : d.since = []) (hn : 64 < d.n) : openD d = ((writesD d ((pagesOf (logF d.fast)).filter (fun p => thereB d.n p.f0))).1, seqTo d 64, (writesD d ((pagesOf (logF d.fast)).filter (fun p => thereB d.n p.f0))).2) := by
  unfold openD
  rw [if_neg (by omega), rdAll_live h hs hn 64 0 (by omega), if_pos rfl, logOf_live h hs hn]
/-- Pages that are there are written, and stand fast. -/
theorem writesD_live {d : D} (h : Live d) (hs : d.since = []) {l : List S58} (hp : ∀ p ∈ l, thereB d.n p.f0 = true ∧ p.f1.length = 512) : ∃ c, writesD d l = ({ d with fast := applyW (pgW l) d.fast, cnt := c }, 0) ∧ c ≤ d.cnt + l.length := by
  have hw := wrD_live (pgW l) d h (fun x hx => by
    obtain ⟨p, hpm, rfl⟩ := List.mem_map.1 hx
    have h1 := hp p hpm
    have h2 := of_decide_eq_true h1.1
    exact ⟨by show 0 ≤ 64 + p.f0; omega, by show 64 + p.f0 < d.n; omega, h1.2⟩)
  unfold writesD
  rw [hw, if_pos rfl]
  have hl : (pgW l).length = l.length := by unfold pgW; simp
  by_cases hz : l.length = 0
  · rw [if_pos hz]
    have hln : l = [] := List.eq_nil_of_length_eq_zero hz
    subst hln
    refine ⟨d.cnt, ?_, by simp⟩
    obtain ⟨n, fast, since, left, dead, cnt⟩ := d
    dsimp only at hs
    subst hs
    rfl
  · rw [if_neg hz]
    refine ⟨d.cnt + l.length, ?_, Nat.le_refl _⟩
    have hl2 : Live { d with since := d.since ++ pgW l, cnt := d.cnt + (pgW l).length } := h
    rw [flushD_live hl2, hs, hl]
    obtain ⟨n, fast, since, left, dead, cnt⟩ := d
    dsimp only at hs
    subst hs
    rfl
theorem seqTo_le {d : D} {M : Int} (h0 : 0 ≤ M) : ∀ k, (∀ i, i < k → numB ((rdRow d i).take 8) ≤ M) → seqTo d k ≤ M := by
  intro k
  induction k with
  | zero => intro _; exact h0
  | succ k ih =>
    intro h
    unfold seqTo
    have h1 := ih (fun i hi => h i (by omega))
    have h2 := h k (by omega)
    split <;> omega
theorem seqTo_ge {d : D} : ∀ k i, i < k → numB ((rdRow d i).take 8) ≤ seqTo d k := by
  intro k
  induction k with
  | zero => intro i hi; omega
  | succ k ih =>
    intro i hi
    unfold seqTo
    by_cases e : i = k
    · subst e; split <;> omega
    · have := ih i (by omega)
      split <;> omega
theorem seqTo_pos (d : D) : ∀ k, 0 ≤ seqTo d k := by
  intro k
  induction k with
  | zero => exact Int.le_refl _
  | succ k ih => unfold seqTo; split <;> omega
/-! ### page -/
theorem set_mid (i m : Nat) (c : Int) : (List.replicate i c ++ List.replicate (m + 1) 0).set i c = List.replicate (i + 1) c ++ List.replicate m 0 := by
  rw [List.set_append_right _ _ (by simp)]
  rw [List.length_replicate, Nat.sub_self, List.replicate_succ, List.set_cons_zero, List.replicate_succ', List.append_assoc]
  rfl
theorem page_l0 (a0 c : Int) : ∀ (m i : Nat), i + m = 512 → aukletlaw20_page.l0 (m + 1) a0 c (List.replicate i c ++ List.replicate m 0) (i : Int) = some (a0, List.replicate 512 c) := by
  intro m
  induction m with
  | zero =>
    intro i hi
    obtain rfl : i = 512 := by omega
    unfold aukletlaw20_page.l0
    rw [if_neg (by decide), List.replicate_zero, List.append_nil]
  | succ m ih =>
    intro i hi
    unfold aukletlaw20_page.l0
    rw [if_pos (by omega), if_pos (by omega), if_pos (by rw [List.length_append, List.length_replicate, List.length_replicate]; omega), Int.toNat_natCast, set_mid, show wrap64 ((i : Int) + 1) = ((i + 1 : Nat) : Int) from (w64_in _ (by omega)).trans (by omega)]
    exact ih (i + 1) (by omega)
theorem page_c (w : World) (no c : Int) : Calls Try.prog 25 #[.int .i64 no, .int .u8 c] w fun e w' => ∃ A cc, e = .returned (.agg #[.int .i64 no, .slice A 512 cc]) ∧ Kd.R byteK 5 w' w.heap.size tt (.slice A 512 cc) (List.replicate 512 c) ∧ Below w.heap.size w w' := by
  have hf : aukletlaw20_page.f 513 no c = some (no, List.replicate 512 c) := by
    unfold aukletlaw20_page.f
    rw [if_pos (by decide)]
    have := page_l0 no c 512 0 (by omega)
    rw [List.replicate_zero, List.nil_append] at this
    exact this
  refine (aukletlaw20_page.calls 513 no c no (List.replicate 512 c) w hf).mono ?_
  rintro e w' ⟨v, rfl, h1, h2⟩
  obtain ⟨A, cc, hv⟩ := Kd.R_slice h1
  rw [List.length_replicate] at hv
  subst hv
  exact ⟨A, cc, rfl, h1, h2⟩
end Go.Proofs.Ytmghgghheebnjaa.Dis
