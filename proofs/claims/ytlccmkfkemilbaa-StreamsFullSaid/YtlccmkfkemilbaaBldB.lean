/- strings.Builder's String within another block, walked by hand. -/
import Derived.Test.YtlccmkfkemilbaaBldA
import Derived.Deep.QuietTactic
import Derived.BigQuiet
namespace Go.Proofs.Ytlccmkfkemilbaa.Bld
open Go.RowKit Go.Lib Go.Proofs.YtlccmkfkemilbaaW.PrintWords Go.Proofs.YtlccmkfkemilbaaW.PrintLast Go.Proofs.YtlccmkfkemilbaaW.PrintMore
set_option linter.unusedVariables false
set_option linter.unusedSimpArgs false
set_option maxHeartbeats 2000000 in
set_option maxRecDepth 100000 in
theorem str_nil_calls (base g j : Nat) (T : TypeId) (cs : Array Value) (v : Value) (W : World) (h : BldAt base W g j T cs v []) :
    Calls Try.prog 14 #[.pointer (some ⟨g, j, none⟩)] W fun e w' => e = .returned (.string ⟨#[]⟩) ∧ w' = W.drew := by
  have hv := h.nil rfl
  subst hv
  have c0 : W.cell? ⟨g, j + 1, none⟩ = some (.slice none 0 0) := (blk_cellB h.blk (j + 1)).trans h.row
  have c1 : W.drew.cell? ⟨g, j + 1, none⟩ = some (.slice none 0 0) := c0
  have hUS := fun (W : World) (q : Option Addr) => Lib.run_unsafeString_none (P := Try.prog) W 64 3 9 q
  have hSD : (Builtin.unsafeSliceData_ #[45] 64 #[.slice none 0 0]).run Try.prog W.drew = .ok (.pointer none) W.drew := rfl
  clear h
  go_enter Try.func14, Try.ntmps14
  go_wp2
  go_region
  all_goals (go_wp2; go_ret; exact ⟨rfl, rfl⟩)
theorem froze_row {base g n cap : Nat} {e : TypeId} {xs : List Value} {w : World} (h : w.ownsRowF base e 1 (.slice (some ⟨g, 0, none⟩) n cap) n xs) : (w.freeze ⟨g, 0, none⟩ n).ownsRowF base e 1 (.slice (some ⟨g, 0, none⟩) n cap) n xs := by
  unfold World.freeze
  split
  · exact h
  · rename_i hn0
    refine ⟨h.1, ?_⟩
    rcases h.2 with ⟨hv, _⟩ | ⟨g', cap', cur, fz, hv, hbg, hg, hfz, rest⟩
    · cases hv
    · injection hv with ha _ hcap
      injection ha with ha
      injection ha with hgg _ _
      subst hgg
      subst hcap
      obtain ⟨lo, hi⟩ := fz
      refine .inr ⟨g, _, cur, (if lo == hi then (0, 0 + n) else (min lo 0, max hi (0 + n))), rfl, hbg, ?_, ?_, rest⟩
      · simp [Array.getElem?_modify, hg]
      · simp only at hfz
        split <;> simp <;> omega
theorem froze_other {w : World} {g n k : Nat} (h : k ≠ g) : (w.freeze ⟨g, 0, none⟩ n).heap[k]? = w.heap[k]? := by
  unfold World.freeze
  split
  · rfl
  · simp only [Array.getElem?_modify]
    rw [if_neg (fun e => h e.symm)]
theorem froze_rest (w : World) (g n : Nat) : (w.freeze ⟨g, 0, none⟩ n).heap.size = w.heap.size ∧ (w.freeze ⟨g, 0, none⟩ n).os = w.os ∧ (w.freeze ⟨g, 0, none⟩ n).tape = w.tape ∧ (w.freeze ⟨g, 0, none⟩ n).output = w.output := by
  unfold World.freeze
  split
  · exact ⟨rfl, rfl, rfl, rfl⟩
  · exact ⟨by simp, rfl, rfl, rfl⟩
set_option maxHeartbeats 2000000 in
set_option maxRecDepth 100000 in
/-- String: what was written; the bytes are frozen in their row, and all else stands. -/
theorem str_calls (base g j : Nat) (T : TypeId) (cs : Array Value) (v : Value) (l : List UInt8) (W : World) (h : BldAt base W g j T cs v l) (hlen : l.length ≤ 140737488355328) :
    Calls Try.prog 14 #[.pointer (some ⟨g, j, none⟩)] W fun e w' => e = .returned (.string ⟨l.toArray⟩) ∧ BldAt base w' g j T cs v l ∧ w'.heap.size = W.heap.size ∧ (∀ k, some k ≠ v.ownBlock → w'.heap[k]? = W.heap[k]?) ∧ w'.os = W.os ∧ w'.tape = W.tape ∧ w'.output = W.output := by
  by_cases h0 : l = []
  · subst h0
    refine (str_nil_calls base g j T cs v W h).mono ?_
    rintro e w' ⟨rfl, rfl⟩
    exact ⟨rfl, ⟨h.blk, h.place, h.self, h.row, h.own, h.ne, h.nil⟩, rfl, fun _ _ => rfl, rfl, rfl, rfl⟩
  · have hl0 : l.length ≠ 0 := by simpa using h0
    obtain ⟨gv, cap, cur, fz, hv, hbg, hg, hfz, hnc, hcm, hcs, htake⟩ : ∃ gv cap cur fz, v = .slice (some ⟨gv, 0, none⟩) l.length cap ∧ base ≤ gv ∧ W.heap[gv]? = some (.cells cur 5 fz) ∧ fz.2 ≤ l.length * 1 ∧ l.length ≤ cap ∧ cap ≤ maxLen ∧ cur.size = cap * 1 ∧ cur.toList.take (l.length * 1) = byteCells l := by
      rcases h.own.2 with ⟨_, hz⟩ | ⟨g, cap, cur, fz, hv, r⟩
      · exact absurd hz hl0
      · exact ⟨g, cap, cur, fz, hv, r⟩
    subst hv
    have c1 : W.drew.cell? ⟨g, j + 1, none⟩ = some (.slice (some ⟨gv, 0, none⟩) l.length cap) := (blk_cellB h.blk (j + 1)).trans h.row
    have c0 : W.cell? ⟨g, j + 1, none⟩ = some (.slice (some ⟨gv, 0, none⟩) l.length cap) := c1
    have hSD : (Builtin.unsafeSliceData_ #[45] 64 #[.slice (some ⟨gv, 0, none⟩) l.length cap]).run Try.prog W.drew = .ok (.pointer (some ⟨gv, 0, none⟩)) W.drew :=
      Lib.run_unsafeSliceData_row _ _ _ _ _ _ (by omega)
    have hUS : (Builtin.unsafeString_ #[64, 3] 9 #[.pointer (some ⟨gv, 0, none⟩), .int .i64 l.length]).run Try.prog W.drew = .ok (.string ⟨l.toArray⟩) (W.drew.freeze ⟨gv, 0, none⟩ l.length) := by
      refine Lib.run_unsafeString_row W.drew 64 3 9 5 Try.underlying64 (by kernel_rfl) gv cur.size (by have hg' : W.drew.heap[gv]? = some (.cells cur 5 fz) := hg; simp [World.shape?, hg']) l h0 (by omega) (by unfold maxLen at hcm; omega) ?_
      intro i x hx
      exact h.own.cells (g := gv) rfl i (.int .u8 x.toNat) (by simp [Lib.byteCells, hx])
    have hgv : g ≠ gv := fun e => h.ne (by rw [e]; rfl)
    have hfin : BldAt base (W.drew.freeze ⟨gv, 0, none⟩ l.length) g j T cs (.slice (some ⟨gv, 0, none⟩) l.length cap) l :=
      ⟨(froze_other hgv).trans h.blk, h.place, h.self, h.row, froze_row (w := W.drew) h.own, h.ne, h.nil⟩
    have hrest := froze_rest W.drew gv l.length
    have hoth : ∀ k, some k ≠ (Value.slice (some ⟨gv, 0, none⟩) l.length cap).ownBlock → (W.drew.freeze ⟨gv, 0, none⟩ l.length).heap[k]? = W.heap[k]? := fun k hk => froze_other (fun e => hk (by rw [e]; rfl))
    have HF := Aside0.mk (And.intro hfin (And.intro hrest hoth))
    clear hfin hrest hoth h hgv hbg hg hfz hnc hcm hcs htake h0 hl0
    go_enter Try.func14, Try.ntmps14
    go_wp2
    go_region
    all_goals (go_wp2; go_ret; exact ⟨rfl, HF.out.1, HF.out.2.1.1, HF.out.2.2, HF.out.2.1.2.1, HF.out.2.1.2.2.1, HF.out.2.1.2.2.2⟩)
end Go.Proofs.Ytlccmkfkemilbaa.Bld
