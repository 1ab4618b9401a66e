/- The answer's disk (aukletref19.Disk): what its block and its four rows say; New, call, Arm, full, walked by hand. -/
import Derived.Test.YtnaegemldpfllaaDisT
namespace Go.Proofs.Ytnaegemldpfllaa.Dis
open Go.RowKit Go.Proofs.YtnaegemldpfllaaW.PrintWords Go.Proofs.YtnaegemldpfllaaW.PrintLast Go.Proofs.YtnaegemldpfllaaW.PrintMore Go.Maps
set_option linter.unusedVariables false
set_option linter.unusedSimpArgs false
structure Rf where
  n : Int
  at_ : List Int
  b : List (List Int)
  to_ : List Int
  ws : List (List Int)
  left : Int
  armed : Bool
  dead : Bool
def bsK : Kd (List Int) := Kd.slice 5 (Kd.int .u8)
abbrev aKi : Kd Int := Kd.int .i64
def rcells (r : Rf) (vA vB vT vW : Value) : Array Value := #[.int .i64 r.n, vA, vB, vT, vW, .int .i64 r.left, .bool r.armed, .bool r.dead]
/-- A row that stands apart from the block that has turned. -/
theorem R_side {α : Type} {d : Kd α} {e e' : Nat} {W w1 : World} {base : Nat} {ok : Nat → Prop} {v : Value} {xs : List α} {row : Option Nat} (h : d.R e W base ok v xs) (hE : ∀ q ∈ d.E, q ≠ e') (hg : W.grownBy w1 row)
    (hrow : ∀ k, row = some k → (∃ cs, W.heap[k]? = some (.cells cs e' (0, 0))) ∧ v.ownBlock ≠ some k) : d.R e w1 base ok v xs := by
  obtain ⟨h0, inner, ho, hr⟩ := h
  refine ⟨h0, inner, ho.kept hg ?_, hr.imp_ (fun p c hm => ?_)⟩
  · cases row with
    | none => cases hv : v.ownBlock with
      | none => exact .inl rfl
      | some k => exact .inr (by simp)
    | some k => exact .inr (hrow k rfl).2
  · refine d.M_mono (fun k hk => hk.1) (Kd.M_step (d.M_bound hm) (fun k hk hlt => hg.block k hlt (fun e => ?_)))
    obtain ⟨_, _, _, q, hq, cells, hc⟩ := hk
    obtain ⟨⟨cs, hc2⟩, _⟩ := hrow k e.symm
    rw [hc] at hc2
    injection hc2 with hc2
    injection hc2 with _ ht
    exact hE q hq ht
theorem own_of {α : Type} {d : Kd α} {e : Nat} {W : World} {base : Nat} {ok : Nat → Prop} {v : Value} {xs : List α} (h : d.R e W base ok v xs) (k : Nat) (hk : v.ownBlock = some k) : ∃ cs, W.heap[k]? = some (.cells cs e (0, 0)) := by
  obtain ⟨h0, inner, ho, hr⟩ := h
  exact own_typed ho k hk
/-- A row under a step that leaves all blocks of its types. -/
theorem R_kept {α : Type} {d : Kd α} {e : Nat} {W w1 : World} {base : Nat} {v : Value} {xs : List α} (h : d.R e W base (fun _ => True) v xs) (hk : ∀ (k : Nat) (cs : Array Value) (q : Nat), q ∈ e :: d.E → W.heap[k]? = some (Obj.cells cs q (0, 0)) → w1.heap[k]? = some (Obj.cells cs q (0, 0))) : d.R e w1 base (fun _ => True) v xs :=
  Kd.R_mono (Kd.R_step (Kd.R_bound h) (fun k ho hlt => by
    obtain ⟨_, _, _, q, hq, cells, hc⟩ := ho
    rw [hc]
    exact hk k _ q hq hc)) (fun _ _ => trivial)
structure RfAt (base : Nat) (w : World) (g : Nat) (r : Rf) (vA vB vT vW : Value) : Prop where
  blk : w.heap[g]? = some (.cells (rcells r vA vB vT vW) 51 (0, 0))
  ge : base ≤ g
  rA : aKi.R 3 w base (fun _ => True) vA r.at_
  rB : bsK.R 28 w base (fun _ => True) vB r.b
  rT : aKi.R 3 w base (fun _ => True) vT r.to_
  rW : bsK.R 28 w base (fun _ => True) vW r.ws
  sA : ∀ k, vA.ownBlock = some k → vT.ownBlock ≠ some k
  sB : ∀ k, vB.ownBlock = some k → vW.ownBlock ≠ some k
def IsRf (base : Nat) (w : World) (g : Nat) (r : Rf) : Prop := ∃ vA vB vT vW, RfAt base w g r vA vB vT vW
/-- What a call on the answer's disk leaves: no block but of its own kinds has turned. -/
def KeepR (w w' : World) : Prop := w.heap.size ≤ w'.heap.size ∧ ∀ (i : Nat) (o : Obj), w.heap[i]? = some o → (∀ cs t fr, o = Obj.cells cs t fr → t ≠ 51 ∧ t ≠ 3 ∧ t ≠ 28) → w'.heap[i]? = some o
theorem KeepR.refl (w : World) : KeepR w w := ⟨Nat.le_refl _, fun _ _ h _ => h⟩
theorem KeepR.trans {a b c : World} (h : KeepR a b) (k : KeepR b c) : KeepR a c := ⟨Nat.le_trans h.1 k.1, fun i o hi ho => k.2 i o (h.2 i o hi ho) ho⟩
theorem KeepR.of_below {w w' : World} (h : Below w.heap.size w w') : KeepR w w' := ⟨h.size, fun i o hi _ => (h.block i (by
  rcases Nat.lt_or_ge i w.heap.size with h' | h'
  · exact h'
  · rw [Array.getElem?_eq_none h'] at hi; cases hi)).trans hi⟩
theorem KeepR.row {w w' : World} {row : Option Nat} (hg : w.grownBy w' row) (h : ∀ k, row = some k → ∃ cs t, w.heap[k]? = some (.cells cs t (0, 0)) ∧ (t = 51 ∨ t = 3 ∨ t = 28)) : KeepR w w' :=
  ⟨hg.size, fun i o hi ho => (hg.block i (by
    rcases Nat.lt_or_ge i w.heap.size with h' | h'
    · exact h'
    · rw [Array.getElem?_eq_none h'] at hi; cases hi) (fun e => by
    obtain ⟨cs, t, hc, ht⟩ := h i e.symm
    rw [hi] at hc
    injection hc with hc
    have h3 := ho _ _ _ hc
    rcases ht with ht | ht | ht
    · exact h3.1 ht
    · exact h3.2.1 ht
    · exact h3.2.2 ht)).trans hi⟩
theorem KeepR.cells {w w' : World} (h : KeepR w w') {i : Nat} {cs : Array Value} {t : TypeId} {fr : Nat × Nat} (hi : w.heap[i]? = some (Obj.cells cs t fr)) (h1 : t ≠ 51) (h2 : t ≠ 3) (h3 : t ≠ 28) : w'.heap[i]? = some (Obj.cells cs t fr) := h.2 i _ hi (fun _ _ _ e => by injection e with _ e; subst e; exact ⟨h1, h2, h3⟩)
theorem IsD.keepR {base g : Nat} {w w' : World} {d : D} (h : IsD base w g d) (hk : KeepR w w') : IsD base w' g d := by
  obtain ⟨hok, b, v, m, hb, hg, hbb, hm, hM, hR⟩ := h
  obtain ⟨h0, D, hD, ⟨es', cl', he', hrest⟩, h2⟩ := hM
  refine ⟨hok, b, v, m, hk.cells hb (by decide) (by decide) (by decide), hg, hbb, hm, ⟨h0, D, hD, ⟨es', cl', hk.2 b _ he' (fun _ _ _ e => by cases e), hrest⟩, h2⟩, R_kept hR (fun k cs q hq hc => ?_)⟩
  have hq' : q = 58 := by simpa [wrK] using hq
  subst hq'
  exact hk.cells hc (by decide) (by decide) (by decide)
theorem RfAt.kept {base g : Nat} {w w' : World} {r : Rf} {vA vB vT vW : Value} (h : RfAt base w g r vA vB vT vW) (hk : ∀ (k : Nat) (cs : Array Value) (q : Nat), (q = 51 ∨ q = 3 ∨ q = 28 ∨ q = 5) → w.heap[k]? = some (Obj.cells cs q (0, 0)) → w'.heap[k]? = some (Obj.cells cs q (0, 0))) : RfAt base w' g r vA vB vT vW where
  blk := hk _ _ _ (.inl rfl) h.blk
  ge := h.ge
  rA := R_kept h.rA (fun k cs q hq hc => hk k cs q (by have : q = 3 := by simpa [Kd.int, Kd.scalar] using hq
                                                       omega) hc)
  rB := R_kept h.rB (fun k cs q hq hc => hk k cs q (by have : q = 28 ∨ q = 5 := by simpa [bsK, Kd.slice, Kd.int, Kd.scalar] using hq
                                                       omega) hc)
  rT := R_kept h.rT (fun k cs q hq hc => hk k cs q (by have : q = 3 := by simpa [Kd.int, Kd.scalar] using hq
                                                       omega) hc)
  rW := R_kept h.rW (fun k cs q hq hc => hk k cs q (by have : q = 28 ∨ q = 5 := by simpa [bsK, Kd.slice, Kd.int, Kd.scalar] using hq
                                                       omega) hc)
  sA := h.sA
  sB := h.sB
theorem IsRf.below {base g : Nat} {w w' : World} {r : Rf} (h : IsRf base w g r) (hb : Below w.heap.size w w') : IsRf base w' g r := by
  obtain ⟨vA, vB, vT, vW, h⟩ := h
  exact ⟨vA, vB, vT, vW, h.kept (fun k cs q _ hc => blk_below hc hb)⟩
theorem IsRf.keepD {base g : Nat} {w w' : World} {r : Rf} (h : IsRf base w g r) (hk : KeepD w w') : IsRf base w' g r := by
  obtain ⟨vA, vB, vT, vW, h⟩ := h
  refine ⟨vA, vB, vT, vW, h.kept (fun k cs q hq hc => ?_)⟩
  have h1 : q ≠ 58 := by omega
  have h2 : q ≠ 62 := by omega
  exact hk.2 k _ _ _ hc h1 h2
theorem IsRf.ge {base g : Nat} {w : World} {r : Rf} (h : IsRf base w g r) : base ≤ g := by obtain ⟨_, _, _, _, h⟩ := h; exact h.ge
theorem IsRf.lt {base g : Nat} {w : World} {r : Rf} (h : IsRf base w g r) : g < w.heap.size := by obtain ⟨_, _, _, _, h⟩ := h; exact blk_lt h.blk
theorem bsE (q : Nat) (h : q ∈ bsK.E) : q ≠ 51 := by
  have : q = 5 := by simpa [bsK, Kd.slice, Kd.int, Kd.scalar] using h
  omega
theorem set_grown (w : World) (g j : Nat) (u : Value) : w.grownBy (w.setCell ⟨g, j, none⟩ u) (some g) := ⟨rfl, rfl, rfl, by simp [World.setCell], fun i _ hi => Below.heap_setCell _ _ _ _ (fun e => hi (by rw [e]))⟩
/-- The disk's own block turns in a cell that is no row. -/
theorem RfAt.set {base g j : Nat} {w : World} {r r' : Rf} {vA vB vT vW u : Value} (h : RfAt base w g r vA vB vT vW) (e : (rcells r vA vB vT vW).setIfInBounds j u = rcells r' vA vB vT vW) (e1 : r'.at_ = r.at_) (e2 : r'.b = r.b) (e3 : r'.to_ = r.to_) (e4 : r'.ws = r.ws) : RfAt base (w.setCell ⟨g, j, none⟩ u) g r' vA vB vT vW := by
  have hn : ∀ (k : Nat), some g = some k → (∃ cs, w.heap[k]? = some (.cells cs 51 (0, 0))) := fun k hk => by cases hk; exact ⟨_, h.blk⟩
  have nA : ∀ {v : Value} {α : Type} {d : Kd α} {q : Nat} {xs : List α}, d.R q w base (fun _ => True) v xs → q ≠ 51 → ∀ k, some g = some k → v.ownBlock ≠ some k := fun hr hq k hk e => by
    cases hk
    obtain ⟨cs, hc⟩ := own_of hr _ e
    rw [h.blk] at hc
    injection hc with hc
    injection hc with _ ht
    exact hq ht.symm
  have iE : ∀ q ∈ aKi.E, q ≠ 51 := fun q hq => by simp [Kd.int, Kd.scalar] at hq
  refine ⟨blk_put h.blk j u e, h.ge, ?_, ?_, ?_, ?_, h.sA, h.sB⟩
  · rw [e1]; exact R_side h.rA iE (set_grown w g j u) (fun k hk => ⟨hn k hk, nA h.rA (by decide) k hk⟩)
  · rw [e2]; exact R_side h.rB bsE (set_grown w g j u) (fun k hk => ⟨hn k hk, nA h.rB (by decide) k hk⟩)
  · rw [e3]; exact R_side h.rT iE (set_grown w g j u) (fun k hk => ⟨hn k hk, nA h.rT (by decide) k hk⟩)
  · rw [e4]; exact R_side h.rW bsE (set_grown w g j u) (fun k hk => ⟨hn k hk, nA h.rW (by decide) k hk⟩)
theorem KeepR.set {w w' : World} (h : KeepR w w') {g j : Nat} {cs : Array Value} (hb : w'.heap[g]? = some (.cells cs 51 (0, 0))) (u : Value) : KeepR w (w'.setCell ⟨g, j, none⟩ u) :=
  h.trans (KeepR.row (set_grown w' g j u) (fun k e => by cases e; exact ⟨cs, 51, hb, .inl rfl⟩))
end Go.Proofs.Ytnaegemldpfllaa.Dis
