/- The law WalAny, walked by hand (written by mkwals.py). -/
import Derived.Test.YtmghgghheebnjaaWalR
namespace Go.Proofs.Ytmghgghheebnjaa.Dis
open Go.RowKit Go.Proofs.YtmghgghheebnjaaW.PrintWords Go.Proofs.YtmghgghheebnjaaW.PrintLast Go.Proofs.YtmghgghheebnjaaW.PrintMore Go.Maps Go.Proofs.Ytmghgghheebnjaa.PWalRecords
set_option linter.unusedVariables false
set_option linter.unusedSimpArgs false
theorem und9 : Try.prog.underlying 9 = some .string := by kernel_rfl
theorem bytes_string {w : World} {A : Option Addr} {n c : Nat} {xs : List Int} (h : (Kd.int .u8).C w A n xs) : (convert 56 9 (.slice A n c)).run Try.prog w = .ok (.string (strOfNums xs)) w := Kd.C_string Try.underlying56 Try.underlying5 und9 h
theorem exec_conv {o : Oper} {a : Act} {W : World} {x : Operand} {v : Value} {s : ByteArray} (ho : o.op = .convert 56 9 x) (hx : a.eval x = v) (hrun : (convert 56 9 v).run Try.prog W = .ok (.string s) W) : (execOp a.eval o).run Try.prog W = .ok (.value (.string s)) W := by
  simp [execOp, ho, hx, hrun]
theorem applyW_hit : ∀ (l : List (Int × List Int)) (f g : Int → List Int) (i : Int), (∃ x ∈ l, x.1 = i) → applyW l f i = applyW l g i := by
  intro l
  induction l with
  | nil => intro f g i h; obtain ⟨x, hx, _⟩ := h; cases hx
  | cons x xs ih =>
    intro f g i h
    show applyW xs (upd f x) i = applyW xs (upd g x) i
    by_cases h2 : ∃ y ∈ xs, y.1 = i
    · exact ih _ _ i h2
    · have h3 : ∀ y ∈ xs, y.1 ≠ i := fun y hy e => h2 ⟨y, hy, e⟩
      rw [applyW_out _ _ _ h3, applyW_out _ _ _ h3]
      obtain ⟨y, hy, he⟩ := h
      rcases List.mem_cons.1 hy with rfl | hy
      · unfold upd
        rw [if_pos he.symm, if_pos he.symm]
      · exact absurd he (h3 y hy)
theorem applyW_twice (l : List (Int × List Int)) (f : Int → List Int) (i : Int) : applyW l (applyW l f) i = applyW l f i := by
  by_cases h : ∃ x ∈ l, x.1 = i
  · exact applyW_hit l _ _ i h
  · exact applyW_out l _ i (fun x hx e => h ⟨x, hx, e⟩)
theorem pagesOf_ok {l : List (List Int)} (hb : ∀ s ∈ l, BytesOk s) : ∀ p ∈ pagesOf l, BytesOk p.f1 ∧ 0 ≤ p.f0 ∧ p.f0 ≤ 2147483647 ∧ p.f1.length = 512 := by
  intro p hp
  unfold pagesOf at hp
  split at hp
  · rename_i h
    exact page_ok h hb p hp
  · cases hp
theorem logF_congr {f g : Int → List Int} (h : ∀ i : Nat, i < 64 → f (i : Int) = g (i : Int)) : logF f = logF g := by
  unfold logF
  exact List.map_congr_left (fun k hk => h k (List.mem_range.1 hk))
theorem seqTo_congr {d d' : D} : ∀ k, (∀ i, i < k → rdRow d i = rdRow d' i) → seqTo d k = seqTo d' k := by
  intro k
  induction k with
  | zero => intro _; rfl
  | succ k ih =>
    intro h
    unfold seqTo
    rw [ih (fun i hi => h i (by omega)), h k (by omega)]
/-- Opening twice with power. -/
theorem open_twice {d : D} (h : Live d) (hs : d.since = []) (hn : 64 < d.n) (hsec : ∀ i, Sec (d.fast i)) : ∃ (d1 d2 : D) (s : Int), openD d = (d1, s, 0) ∧ openD d1 = (d2, s, 0) ∧ d1.n = d.n ∧ d2.n = d.n ∧ d1.cnt ≤ d.cnt + 64 ∧ d2.cnt ≤ d.cnt + 128 ∧
    (∀ i : Nat, (i : Int) < d.n - 64 → ∃ b, readW d1 (i : Int) = (d1, b, 0) ∧ readW d2 (i : Int) = (d2, b, 0)) := by
  have hb : ∀ s ∈ logF d.fast, BytesOk s := by
    intro s hs
    unfold logF at hs
    obtain ⟨k, _, rfl⟩ := List.mem_map.1 hs
    exact (hsec _).2
  obtain ⟨F, hF⟩ : ∃ F, F = (pagesOf (logF d.fast)).filter (fun p => thereB d.n p.f0) := ⟨_, rfl⟩
  have hFp : ∀ p ∈ F, thereB d.n p.f0 = true ∧ p.f1.length = 512 := by
    intro p hp
    rw [hF] at hp
    have h1 := List.mem_filter.1 hp
    exact ⟨h1.2, (pagesOf_ok hb p h1.1).2.2.2⟩
  have hFl : F.length ≤ 64 := by
    rw [hF]
    refine Nat.le_trans (List.length_filter_le _ _) ?_
    unfold pagesOf
    split
    · rename_i hh
      unfold outS
      rw [List.length_map, List.length_range]
      exact hh.m64
    · simp
  obtain ⟨c1, hw1, hc1⟩ := writesD_live h hs hFp
  obtain ⟨d1, hd1⟩ : ∃ d1 : D, d1 = { d with fast := applyW (pgW F) d.fast, cnt := c1 } := ⟨_, rfl⟩
  rw [← hd1] at hw1
  have hl1 : Live d1 := by rw [hd1]; exact h
  have hs1 : d1.since = [] := by rw [hd1]; exact hs
  have hn1 : d1.n = d.n := by rw [hd1]
  have hf1 : d1.fast = applyW (pgW F) d.fast := by rw [hd1]
  have hcc1 : d1.cnt = c1 := by rw [hd1]
  have hlow : ∀ i : Nat, i < 64 → d1.fast (i : Int) = d.fast (i : Int) := by
    intro i hi
    rw [hf1]
    refine applyW_out _ _ _ (fun x hx => ?_)
    obtain ⟨p, hp, rfl⟩ := List.mem_map.1 hx
    have := of_decide_eq_true (hFp p hp).1
    show 64 + p.f0 ≠ (i : Int)
    omega
  have hlog : logF d1.fast = logF d.fast := logF_congr hlow
  have ho1 : openD d = (d1, seqTo d 64, 0) := by rw [openD_live h hs hn, ← hF, hw1]
  have hF2 : (pagesOf (logF d1.fast)).filter (fun p => thereB d1.n p.f0) = F := by rw [hlog, hn1, hF]
  obtain ⟨c2, hw2, hc2⟩ := writesD_live hl1 hs1 (l := F) (fun p hp => by rw [hn1]; exact hFp p hp)
  obtain ⟨d2, hd2⟩ : ∃ d2 : D, d2 = { d1 with fast := applyW (pgW F) d1.fast, cnt := c2 } := ⟨_, rfl⟩
  rw [← hd2] at hw2
  have hl2 : Live d2 := by rw [hd2]; exact hl1
  have hs2 : d2.since = [] := by rw [hd2]; exact hs1
  have hn2 : d2.n = d.n := by rw [hd2]; exact hn1
  have hsq : seqTo d1 64 = seqTo d 64 := seqTo_congr 64 (fun i hi => by rw [(rd_live hl1 hs1 (by rw [hn1]; exact hn) hi).1, (rd_live h hs hn hi).1, hlow i hi])
  have ho2 : openD d1 = (d2, seqTo d 64, 0) := by rw [openD_live hl1 hs1 (by rw [hn1]; exact hn), hF2, hw2, hsq]
  refine ⟨d1, d2, seqTo d 64, ho1, ho2, hn1, hn2, by omega, by rw [hd2]; show c2 ≤ _; omega, fun i hi => ⟨d1.fast (64 + (i : Int)), ?_, ?_⟩⟩
  · unfold readW
    rw [if_pos (by rw [hn1]; exact decide_eq_true ⟨by omega, hi⟩), readD_live hl1 hs1 (by omega) (by rw [hn1]; omega)]
  · unfold readW
    rw [if_pos (by rw [hn2]; exact decide_eq_true ⟨by omega, hi⟩), readD_live hl2 hs2 (by omega) (by rw [hn2]; omega)]
    have e : d2.fast (64 + (i : Int)) = d1.fast (64 + (i : Int)) := by rw [hd2]; show applyW (pgW F) d1.fast _ = _; rw [hf1, applyW_twice]
    rw [e]
theorem sec_of {base g : Nat} {w : World} {d : D} (h : IsD base w g d) : ∀ i, Sec (d.fast i) := by
  obtain ⟨_, b, v, m, _, _, _, _, hM, _⟩ := h
  exact hM.1
end Go.Proofs.Ytmghgghheebnjaa.Dis
