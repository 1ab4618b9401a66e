/- Merged by merge.py. -/
import Derived.Test.YtmghgghheebnjaaWalR
namespace Go.Proofs.Ytmghgghheebnjaa.Dis
open Go.RowKit Go.Proofs.YtmghgghheebnjaaW.PrintWords Go.Proofs.YtmghgghheebnjaaW.PrintLast Go.Proofs.YtmghgghheebnjaaW.PrintMore Go.Maps
set_option linter.unusedVariables false
set_option linter.unusedSimpArgs false
structure Rf where
  n : Int
  at_ : List Int
  b : List (List Int)
  to_ : List Int
  ws : List (List Int)
  left : Int
  armed : Bool
  dead : Bool
def bsK : Kd (List Int) := Kd.slice 5 (Kd.int .u8)
abbrev aKi : Kd Int := Kd.int .i64
def rcells (r : Rf) (vA vB vT vW : Value) : Array Value := #[.int .i64 r.n, vA, vB, vT, vW, .int .i64 r.left, .bool r.armed, .bool r.dead]
/-- A row that stands apart from the block that has turned. -/
theorem R_side {α : Type} {d : Kd α} {e e' : Nat} {W w1 : World} {base : Nat} {ok : Nat → Prop} {v : Value} {xs : List α} {row : Option Nat} (h : d.R e W base ok v xs) (hE : ∀ q ∈ d.E, q ≠ e') (hg : W.grownBy w1 row)
    (hrow : ∀ k, row = some k → (∃ cs, W.heap[k]? = some (.cells cs e' (0, 0))) ∧ v.ownBlock ≠ some k) : d.R e w1 base ok v xs := by
  obtain ⟨h0, inner, ho, hr⟩ := h
  refine ⟨h0, inner, ho.kept hg ?_, hr.imp_ (fun p c hm => ?_)⟩
  · cases row with
    | none => cases hv : v.ownBlock with
      | none => exact .inl rfl
      | some k => exact .inr (by simp)
    | some k => exact .inr (hrow k rfl).2
  · refine d.M_mono (fun k hk => hk.1) (Kd.M_step (d.M_bound hm) (fun k hk hlt => hg.block k hlt (fun e => ?_)))
    obtain ⟨_, _, _, q, hq, cells, hc⟩ := hk
    obtain ⟨⟨cs, hc2⟩, _⟩ := hrow k e.symm
    rw [hc] at hc2
    injection hc2 with hc2
    injection hc2 with _ ht
    exact hE q hq ht
theorem own_of {α : Type} {d : Kd α} {e : Nat} {W : World} {base : Nat} {ok : Nat → Prop} {v : Value} {xs : List α} (h : d.R e W base ok v xs) (k : Nat) (hk : v.ownBlock = some k) : ∃ cs, W.heap[k]? = some (.cells cs e (0, 0)) := by
  obtain ⟨h0, inner, ho, hr⟩ := h
  exact own_typed ho k hk
/-- A row under a step that leaves all blocks of its types. -/
theorem R_kept {α : Type} {d : Kd α} {e : Nat} {W w1 : World} {base : Nat} {v : Value} {xs : List α} (h : d.R e W base (fun _ => True) v xs) (hk : ∀ (k : Nat) (cs : Array Value) (q : Nat), q ∈ e :: d.E → W.heap[k]? = some (Obj.cells cs q (0, 0)) → w1.heap[k]? = some (Obj.cells cs q (0, 0))) : d.R e w1 base (fun _ => True) v xs :=
  Kd.R_mono (Kd.R_step (Kd.R_bound h) (fun k ho hlt => by
    obtain ⟨_, _, _, q, hq, cells, hc⟩ := ho
    rw [hc]
    exact hk k _ q hq hc)) (fun _ _ => trivial)
structure RfAt (base : Nat) (w : World) (g : Nat) (r : Rf) (vA vB vT vW : Value) : Prop where
  blk : w.heap[g]? = some (.cells (rcells r vA vB vT vW) 98 (0, 0))
  ge : base ≤ g
  rA : aKi.R 3 w base (fun _ => True) vA r.at_
  rB : bsK.R 56 w base (fun _ => True) vB r.b
  rT : aKi.R 3 w base (fun _ => True) vT r.to_
  rW : bsK.R 56 w base (fun _ => True) vW r.ws
  sA : ∀ k, vA.ownBlock = some k → vT.ownBlock ≠ some k
  sB : ∀ k, vB.ownBlock = some k → vW.ownBlock ≠ some k
def IsRf (base : Nat) (w : World) (g : Nat) (r : Rf) : Prop := ∃ vA vB vT vW, RfAt base w g r vA vB vT vW
/-- What a call on the answer's disk leaves: no block but of its own kinds has turned. -/
def KeepR (w w' : World) : Prop := w.heap.size ≤ w'.heap.size ∧ ∀ (i : Nat) (o : Obj), w.heap[i]? = some o → (∀ cs t fr, o = Obj.cells cs t fr → t ≠ 98 ∧ t ≠ 3 ∧ t ≠ 56) → w'.heap[i]? = some o
theorem KeepR.refl (w : World) : KeepR w w := ⟨Nat.le_refl _, fun _ _ h _ => h⟩
theorem KeepR.trans {a b c : World} (h : KeepR a b) (k : KeepR b c) : KeepR a c := ⟨Nat.le_trans h.1 k.1, fun i o hi ho => k.2 i o (h.2 i o hi ho) ho⟩
theorem KeepR.of_below {w w' : World} (h : Below w.heap.size w w') : KeepR w w' := ⟨h.size, fun i o hi _ => (h.block i (by
  rcases Nat.lt_or_ge i w.heap.size with h' | h'
  · exact h'
  · rw [Array.getElem?_eq_none h'] at hi; cases hi)).trans hi⟩
theorem KeepR.row {w w' : World} {row : Option Nat} (hg : w.grownBy w' row) (h : ∀ k, row = some k → ∃ cs t, w.heap[k]? = some (.cells cs t (0, 0)) ∧ (t = 98 ∨ t = 3 ∨ t = 56)) : KeepR w w' :=
  ⟨hg.size, fun i o hi ho => (hg.block i (by
    rcases Nat.lt_or_ge i w.heap.size with h' | h'
    · exact h'
    · rw [Array.getElem?_eq_none h'] at hi; cases hi) (fun e => by
    obtain ⟨cs, t, hc, ht⟩ := h i e.symm
    rw [hi] at hc
    injection hc with hc
    have h3 := ho _ _ _ hc
    rcases ht with ht | ht | ht
    · exact h3.1 ht
    · exact h3.2.1 ht
    · exact h3.2.2 ht)).trans hi⟩
theorem KeepR.cells {w w' : World} (h : KeepR w w') {i : Nat} {cs : Array Value} {t : TypeId} {fr : Nat × Nat} (hi : w.heap[i]? = some (Obj.cells cs t fr)) (h1 : t ≠ 98) (h2 : t ≠ 3) (h3 : t ≠ 56) : w'.heap[i]? = some (Obj.cells cs t fr) := h.2 i _ hi (fun _ _ _ e => by injection e with _ e; subst e; exact ⟨h1, h2, h3⟩)
theorem IsD.keepR {base g : Nat} {w w' : World} {d : D} (h : IsD base w g d) (hk : KeepR w w') : IsD base w' g d := by
  obtain ⟨hok, b, v, m, hb, hg, hbb, hm, hM, hR⟩ := h
  obtain ⟨h0, D, hD, ⟨es', cl', he', hrest⟩, h2⟩ := hM
  refine ⟨hok, b, v, m, hk.cells hb (by decide) (by decide) (by decide), hg, hbb, hm, ⟨h0, D, hD, ⟨es', cl', hk.2 b _ he' (fun _ _ _ e => by cases e), hrest⟩, h2⟩, R_kept hR (fun k cs q hq hc => ?_)⟩
  have hq' : q = 106 := by simpa [wrK] using hq
  subst hq'
  exact hk.cells hc (by decide) (by decide) (by decide)
theorem RfAt.kept {base g : Nat} {w w' : World} {r : Rf} {vA vB vT vW : Value} (h : RfAt base w g r vA vB vT vW) (hk : ∀ (k : Nat) (cs : Array Value) (q : Nat), (q = 98 ∨ q = 3 ∨ q = 56 ∨ q = 5) → w.heap[k]? = some (Obj.cells cs q (0, 0)) → w'.heap[k]? = some (Obj.cells cs q (0, 0))) : RfAt base w' g r vA vB vT vW where
  blk := hk _ _ _ (.inl rfl) h.blk
  ge := h.ge
  rA := R_kept h.rA (fun k cs q hq hc => hk k cs q (by have : q = 3 := by simpa [Kd.int, Kd.scalar] using hq
                                                       omega) hc)
  rB := R_kept h.rB (fun k cs q hq hc => hk k cs q (by have : q = 56 ∨ q = 5 := by simpa [bsK, Kd.slice, Kd.int, Kd.scalar] using hq
                                                       omega) hc)
  rT := R_kept h.rT (fun k cs q hq hc => hk k cs q (by have : q = 3 := by simpa [Kd.int, Kd.scalar] using hq
                                                       omega) hc)
  rW := R_kept h.rW (fun k cs q hq hc => hk k cs q (by have : q = 56 ∨ q = 5 := by simpa [bsK, Kd.slice, Kd.int, Kd.scalar] using hq
                                                       omega) hc)
  sA := h.sA
  sB := h.sB
theorem IsRf.below {base g : Nat} {w w' : World} {r : Rf} (h : IsRf base w g r) (hb : Below w.heap.size w w') : IsRf base w' g r := by
  obtain ⟨vA, vB, vT, vW, h⟩ := h
  exact ⟨vA, vB, vT, vW, h.kept (fun k cs q _ hc => blk_below hc hb)⟩
theorem IsRf.keepD {base g : Nat} {w w' : World} {r : Rf} (h : IsRf base w g r) (hk : KeepD w w') : IsRf base w' g r := by
  obtain ⟨vA, vB, vT, vW, h⟩ := h
  refine ⟨vA, vB, vT, vW, h.kept (fun k cs q hq hc => ?_)⟩
  have h1 : q ≠ 106 := by omega
  have h2 : q ≠ 88 := by omega
  exact hk.2 k _ _ _ hc h1 h2
theorem IsRf.ge {base g : Nat} {w : World} {r : Rf} (h : IsRf base w g r) : base ≤ g := by obtain ⟨_, _, _, _, h⟩ := h; exact h.ge
theorem IsRf.lt {base g : Nat} {w : World} {r : Rf} (h : IsRf base w g r) : g < w.heap.size := by obtain ⟨_, _, _, _, h⟩ := h; exact blk_lt h.blk
theorem bsE (q : Nat) (h : q ∈ bsK.E) : q ≠ 98 := by
  have : q = 5 := by simpa [bsK, Kd.slice, Kd.int, Kd.scalar] using h
  omega
theorem set_grown (w : World) (g j : Nat) (u : Value) : w.grownBy (w.setCell ⟨g, j, none⟩ u) (some g) := ⟨rfl, rfl, rfl, by simp [World.setCell], fun i _ hi => Below.heap_setCell _ _ _ _ (fun e => hi (by rw [e]))⟩
/-- The disk's own block turns in a cell that is no row. -/
theorem RfAt.set {base g j : Nat} {w : World} {r r' : Rf} {vA vB vT vW u : Value} (h : RfAt base w g r vA vB vT vW) (e : (rcells r vA vB vT vW).setIfInBounds j u = rcells r' vA vB vT vW) (e1 : r'.at_ = r.at_) (e2 : r'.b = r.b) (e3 : r'.to_ = r.to_) (e4 : r'.ws = r.ws) : RfAt base (w.setCell ⟨g, j, none⟩ u) g r' vA vB vT vW := by
  have hn : ∀ (k : Nat), some g = some k → (∃ cs, w.heap[k]? = some (.cells cs 98 (0, 0))) := fun k hk => by cases hk; exact ⟨_, h.blk⟩
  have nA : ∀ {v : Value} {α : Type} {d : Kd α} {q : Nat} {xs : List α}, d.R q w base (fun _ => True) v xs → q ≠ 98 → ∀ k, some g = some k → v.ownBlock ≠ some k := fun hr hq k hk e => by
    cases hk
    obtain ⟨cs, hc⟩ := own_of hr _ e
    rw [h.blk] at hc
    injection hc with hc
    injection hc with _ ht
    exact hq ht.symm
  have iE : ∀ q ∈ aKi.E, q ≠ 98 := fun q hq => by simp [Kd.int, Kd.scalar] at hq
  refine ⟨blk_put h.blk j u e, h.ge, ?_, ?_, ?_, ?_, h.sA, h.sB⟩
  · rw [e1]; exact R_side h.rA iE (set_grown w g j u) (fun k hk => ⟨hn k hk, nA h.rA (by decide) k hk⟩)
  · rw [e2]; exact R_side h.rB bsE (set_grown w g j u) (fun k hk => ⟨hn k hk, nA h.rB (by decide) k hk⟩)
  · rw [e3]; exact R_side h.rT iE (set_grown w g j u) (fun k hk => ⟨hn k hk, nA h.rT (by decide) k hk⟩)
  · rw [e4]; exact R_side h.rW bsE (set_grown w g j u) (fun k hk => ⟨hn k hk, nA h.rW (by decide) k hk⟩)
theorem KeepR.set {w w' : World} (h : KeepR w w') {g j : Nat} {cs : Array Value} (hb : w'.heap[g]? = some (.cells cs 98 (0, 0))) (u : Value) : KeepR w (w'.setCell ⟨g, j, none⟩ u) :=
  h.trans (KeepR.row (set_grown w' g j u) (fun k e => by cases e; exact ⟨cs, 98, hb, .inl rfl⟩))
end Go.Proofs.Ytmghgghheebnjaa.Dis
namespace Go.Proofs.Ytmghgghheebnjaa.Dis
open Go.RowKit Go.Proofs.YtmghgghheebnjaaW.PrintWords Go.Proofs.YtmghgghheebnjaaW.PrintLast Go.Proofs.YtmghgghheebnjaaW.PrintMore Go.Maps
set_option linter.unusedVariables false
set_option linter.unusedSimpArgs false
def newR (n : Int) : Rf := { n := clampN n, at_ := [], b := [], to_ := [], ws := [], left := 0, armed := false, dead := false }
def callR (r : Rf) : Rf × Bool := if r.armed = true ∧ r.left ≤ 0 then ({ r with dead := true, left := r.left - 1 }, false) else ({ r with left := r.left - 1 }, !r.dead)
def armR (r : Rf) (c : Int) : Rf := { r with armed := true, left := if c < 0 then 0 else c }
theorem rfat_new (base : Nat) (w : World) (n : Int) (hb : base ≤ w.heap.size) (m : Int) (hm : clampN n = m) : IsRf base (w.alloc (.cells #[.int .i64 m, .slice none 0 0, .slice none 0 0, .slice none 0 0, .slice none 0 0, .int .i64 0, .bool false, .bool false] 98)) w.heap.size (newR n) := by
  subst hm
  exact ⟨.slice none 0 0, .slice none 0 0, .slice none 0 0, .slice none 0 0, blk_new w _, hb, Kd.R_nil _ _ _ _ _, Kd.R_nil _ _ _ _ _, Kd.R_nil _ _ _ _ _, Kd.R_nil _ _ _ _ _, fun k hk => by simp [Value.ownBlock] at hk, fun k hk => by simp [Value.ownBlock] at hk⟩
set_option maxHeartbeats 1000000 in
theorem rnew_calls (n : Int) (w : World) : Calls Try.prog 31 #[.int .i64 n] w fun e w' => ∃ g, e = .returned (.pointer (some ⟨g, 0, none⟩)) ∧ IsRf w.heap.size w' g (newR n) ∧ w.heap.size ≤ g ∧ Below w.heap.size w w' := by
  by_cases h1 : n < 0
  · have e1 : decide (n < 0) = true := decide_eq_true h1
    go_enter Try.func31, Try.ntmps31
    go_wp2
    go_ret
    exact ⟨_, rfl, rfat_new _ w n (Nat.le_refl _) 0 (by unfold clampN; omega), Nat.le_refl _, below_alloc (Below.refl _ _) _⟩
  · have e1 : decide (n < 0) = false := decide_eq_false h1
    by_cases h2 : 4096 < n
    · have e2 : decide (4096 < n) = true := decide_eq_true h2
      go_enter Try.func31, Try.ntmps31
      go_wp2
      go_ret
      exact ⟨_, rfl, rfat_new _ w n (Nat.le_refl _) 4096 (by unfold clampN; omega), Nat.le_refl _, below_alloc (Below.refl _ _) _⟩
    · have e2 : decide (4096 < n) = false := decide_eq_false h2
      go_enter Try.func31, Try.ntmps31
      go_wp2
      go_ret
      exact ⟨_, rfl, rfat_new _ w n (Nat.le_refl _) n (by unfold clampN; omega), Nat.le_refl _, below_alloc (Below.refl _ _) _⟩
set_option maxHeartbeats 2000000 in
theorem rcall_calls (base g : Nat) (r : Rf) (w W : World) (h : IsRf base W g r) (hB : Below base w W) (hl : -9223372036854775808 < r.left ∧ r.left ≤ 9223372036854775807) : Calls Try.prog 72 #[.pointer (some ⟨g, 0, none⟩)] W fun e w' => e = .returned (.bool (callR r).2) ∧ IsRf base w' g (callR r).1 ∧ Below base w w' ∧ KeepR W w' := by
  obtain ⟨vA, vB, vT, vW, h⟩ := h
  have c5 : W.cell? ⟨g, 5, none⟩ = some (.int .i64 r.left) := (blk_cell h.blk 5).trans rfl
  have c6 : W.cell? ⟨g, 6, none⟩ = some (.bool r.armed) := (blk_cell h.blk 6).trans rfl
  have c7 : W.cell? ⟨g, 7, none⟩ = some (.bool r.dead) := (blk_cell h.blk 7).trans rfl
  have f5 := blk_frozen h.blk 5
  have f7 := blk_frozen h.blk 7
  have hw : IntKind.i64.wrap (r.left - 1) = r.left - 1 := by rw [IntKind.wrap_i64]; omega
  have HH := Aside0.mk h
  have HB := Aside0.mk hB
  have h7 := Aside0.mk (h.set (j := 7) (u := .bool true) (r' := { r with dead := true }) rfl rfl rfl rfl rfl)
  clear h hB
  unfold callR
  rcases Bool.eq_false_or_eq_true r.armed with ha | ha
  rotate_left
  · rw [ha] at c6
    rw [if_neg (by rw [ha]; simp)]
    clear ha
    go_enter Try.func72, Try.ntmps72
    go_wp2
    go_ret
    exact ⟨rfl, ⟨vA, vB, vT, vW, HH.out.set (r' := { r with left := r.left - 1 }) rfl rfl rfl rfl rfl⟩, HB.out.setCell HH.out.ge _, (KeepR.refl W).set HH.out.blk _⟩
  · rw [ha] at c6
    by_cases h0 : r.left ≤ 0
    · rw [if_pos ⟨ha, h0⟩]
      clear ha
      have e1 : decide (r.left ≤ 0) = true := decide_eq_true h0
      go_enter Try.func72, Try.ntmps72
      go_wp2
      go_ret
      exact ⟨rfl, ⟨vA, vB, vT, vW, h7.out.set (r' := { r with dead := true, left := r.left - 1 }) rfl rfl rfl rfl rfl⟩, (HB.out.setCell HH.out.ge _).setCell HH.out.ge _, ((KeepR.refl W).set HH.out.blk _).set h7.out.blk _⟩
    · rw [if_neg (by intro h; exact h0 h.2)]
      clear ha
      have e1 : decide (r.left ≤ 0) = false := decide_eq_false h0
      go_enter Try.func72, Try.ntmps72
      go_wp2
      go_ret
      exact ⟨rfl, ⟨vA, vB, vT, vW, HH.out.set (r' := { r with left := r.left - 1 }) rfl rfl rfl rfl rfl⟩, HB.out.setCell HH.out.ge _, (KeepR.refl W).set HH.out.blk _⟩
set_option maxHeartbeats 2000000 in
theorem rarm_calls (base g : Nat) (r : Rf) (c : Int) (w W : World) (h : IsRf base W g r) (hB : Below base w W) : Calls Try.prog 34 #[.pointer (some ⟨g, 0, none⟩), .int .i64 c] W fun e w' => e = .returned (.tuple #[]) ∧ IsRf base w' g (armR r c) ∧ Below base w w' ∧ KeepR W w' := by
  obtain ⟨vA, vB, vT, vW, h⟩ := h
  have c5 : W.cell? ⟨g, 5, none⟩ = some (.int .i64 r.left) := (blk_cell h.blk 5).trans rfl
  have c6 : W.cell? ⟨g, 6, none⟩ = some (.bool r.armed) := (blk_cell h.blk 6).trans rfl
  have f5 := blk_frozen h.blk 5
  have f6 := blk_frozen h.blk 6
  have HH := Aside0.mk h
  have HB := Aside0.mk hB
  have h7 := Aside0.mk (h.set (j := 6) (u := .bool true) (r' := { r with armed := true }) rfl rfl rfl rfl rfl)
  clear h hB
  unfold armR
  by_cases h1 : c < 0
  · rw [if_pos h1]
    have e1 : decide (c < 0) = true := decide_eq_true h1
    go_enter Try.func34, Try.ntmps34
    go_wp2
    go_end0
    exact ⟨rfl, ⟨vA, vB, vT, vW, h7.out.set (r' := { r with armed := true, left := 0 }) rfl rfl rfl rfl rfl⟩, (HB.out.setCell HH.out.ge _).setCell HH.out.ge _, ((KeepR.refl W).set HH.out.blk _).set h7.out.blk _⟩
  · rw [if_neg h1]
    have e1 : decide (c < 0) = false := decide_eq_false h1
    go_enter Try.func34, Try.ntmps34
    go_wp2
    go_end0
    exact ⟨rfl, ⟨vA, vB, vT, vW, h7.out.set (r' := { r with armed := true, left := c }) rfl rfl rfl rfl rfl⟩, (HB.out.setCell HH.out.ge _).setCell HH.out.ge _, ((KeepR.refl W).set HH.out.blk _).set h7.out.blk _⟩
set_option maxHeartbeats 2000000 in
theorem full_calls (A : Option Addr) (c : Nat) (b : List Int) (w : World) (hr : Kd.C (Kd.int .u8) w A b.length b) (hb : b.length ≤ 512) :
    Calls Try.prog 73 #[.slice A b.length c] w fun e w' => ∃ v, e = .returned v ∧ Kd.R (Kd.int .u8) 5 w' w.heap.size (fun _ => True) v (pad b) ∧ Below w.heap.size w w' := by
  have info5 : (Try.prog.info? 5).map (fun i => (i.zero, i.size, i.bytes)) = some (some (.int .u8 0), 1, 1) := by kernel_rfl
  have INF := Aside0.mk info5
  clear info5
  have HR := Aside0.mk hr
  have HL := Aside0.mk hb
  have I512 : IntKind.i64.wrap (512 - (b.length : Int)) = 512 - (b.length : Int) := by rw [IntKind.wrap_i64]; omega
  clear hr hb
  go_enter Try.func73, Try.ntmps73
  go_wp2_with (first
    | ((with_reducible refine gate_dst (N := 3) rfl ?_); refine Kd.R_lit (Kd.int .u8) w.heap.size 5 ?hg (N := 3) ?hd (xs := ([] : List Int)) (inner := []) (ok := fun _ => True) (okp := fun _ => True) ?hr ?hp (fun _ hk => hk) trivial (Below.refl _ _) (Nat.le_refl _) (by simp) ?_; (case hd => rfl); (case hg => rfl); (case hr => first | (go_simp; done) | (go_simp; rfl)); (case hp => exact (Reps.none _ _)); intro v3 w10 ho4 hb hg_ hnew_; clear hg_ hnew_; have HO := Aside0.mk ho4; have HB10 := Aside0.mk hb; clear hb ho4)
    | ((with_reducible refine gate_dst (N := 5) rfl ?_); at_builtin; refine Kd.R_append_rows (Kd.int .u8) (w0 := w) w.heap.size rfl (.tmp 3) (.tmp 4) 56 5 (.int .u8 0) 1 rfl Try.underlying56 INF.out rfl (by decide) (by omega) v3 [] b _ _ _ (fun _ => True) (fun _ => False) rfl rfl ?aO ?aR (fun _ _ h => h) (fun _ h => h.elim) ?aF ?aB ?aS ?aL ?_; (case aR => exact Kd.C_below HR.out HB10.out); (case aB => exact HB10.out); (case aF => exact (fun _ _ => trivial)); (case aO => exact HO.out); (case aS => exact HB10.out.size); (case aL => have := HL.out; simp; omega); intro v5 w11 ho hb hg hat; rw [List.nil_append] at ho; have HO11 := Aside0.mk ho; have HB11 := Aside0.mk hb; clear ho hb hg hat)
    | ((with_reducible refine gate_dst (N := 9) rfl ?_); at_builtin; refine Kd.R_append_zeros (Kd.int .u8) (w0 := w) w.heap.size rfl (.tmp 5) (.tmp 8) 56 3 5 (.int .u8 0) 1 rfl Try.underlying56 Try.underlying3 INF.out rfl (by decide) (by decide) v5 b 0 (kx := .i64) (512 - (b.length : Int)) (fun _ => True) rfl rfl ?aZ (fun _ _ => trivial) HO11.out (by have := HL.out; omega) HB11.out HB11.out.size ?aL ?_; (case aZ => rfl); (case aL => have := HL.out; omega); intro v6 w12 ho hb hg hat; have HO12 := Aside0.mk ho; have HB12 := Aside0.mk hb; clear ho hb hg hat))
  go_ret
  refine ⟨_, rfl, ?_, HB12.out⟩
  have e : b ++ List.replicate (512 - (b.length : Int)).toNat 0 = pad b := by
    unfold pad
    rw [show ((512 : Int) - (b.length : Int)).toNat = 512 - b.length by omega]
  rw [← e]
  exact HO12.out
end Go.Proofs.Ytmghgghheebnjaa.Dis
namespace Go.Proofs.Ytmghgghheebnjaa.Dis
open Go.RowKit Go.Proofs.YtmghgghheebnjaaW.PrintWords Go.Proofs.YtmghgghheebnjaaW.PrintLast Go.Proofs.YtmghgghheebnjaaW.PrintMore Go.Maps
set_option linter.unusedVariables false
set_option linter.unusedSimpArgs false
/-- The block and the four rows, while they grow. -/
structure St (base : Nat) (w : World) (g : Nat) (c : Array Value) (xA : Value) (lA : List Int) (xB : Value) (lB : List (List Int)) (xT : Value) (lT : List Int) (xW : Value) (lW : List (List Int)) : Prop where
  blk : w.heap[g]? = some (.cells c 98 (0, 0))
  ge : base ≤ g
  rA : aKi.R 3 w base tt xA lA
  rB : bsK.R 56 w base tt xB lB
  rT : aKi.R 3 w base tt xT lT
  rW : bsK.R 56 w base tt xW lW
  sA : ∀ k, xA.ownBlock = some k → xT.ownBlock ≠ some k
  sB : ∀ k, xB.ownBlock = some k → xW.ownBlock ≠ some k
theorem RfAt.st {base g : Nat} {w : World} {r : Rf} {vA vB vT vW : Value} (h : RfAt base w g r vA vB vT vW) : St base w g (rcells r vA vB vT vW) vA r.at_ vB r.b vT r.to_ vW r.ws := ⟨h.blk, h.ge, h.rA, h.rB, h.rT, h.rW, h.sA, h.sB⟩
theorem St.at_ {base g : Nat} {w : World} {r : Rf} {vA vB vT vW : Value} (h : St base w g (rcells r vA vB vT vW) vA r.at_ vB r.b vT r.to_ vW r.ws) : RfAt base w g r vA vB vT vW := ⟨h.blk, h.ge, h.rA, h.rB, h.rT, h.rW, h.sA, h.sB⟩
section
variable {base g : Nat} {w w1 : World} {c : Array Value} {xA xB xT xW : Value} {lA lT : List Int} {lB lW : List (List Int)}
theorem iE (e' : Nat) : ∀ q ∈ aKi.E, q ≠ e' := fun q hq => by simp [Kd.int, Kd.scalar] at hq
theorem bE {e' : Nat} (h : e' ≠ 5) : ∀ q ∈ bsK.E, q ≠ e' := fun q hq => by
  have : q = 5 := by simpa [bsK, Kd.slice, Kd.int, Kd.scalar] using hq
  rw [this]; exact fun e => h e.symm
/-- Two rows of different types. -/
theorem own_types {α β : Type} {d : Kd α} {d' : Kd β} {e e' : Nat} {W : World} {b b' : Nat} {ok ok' : Nat → Prop} {v v' : Value} {xs : List α} {ys : List β} (h : d.R e W b ok v xs) (h' : d'.R e' W b' ok' v' ys) (hne : e ≠ e') (k : Nat) (hk : v.ownBlock = some k) : v'.ownBlock ≠ some k := fun hk' => by
  obtain ⟨cs, hc⟩ := own_of h k hk
  obtain ⟨cs', hc'⟩ := own_of h' k hk'
  rw [hc] at hc'; injection hc' with hc'; injection hc' with _ ht; exact hne ht
theorem St.below (h : St base w g c xA lA xB lB xT lT xW lW) (hb : Below w.heap.size w w1) : St base w1 g c xA lA xB lB xT lT xW lW :=
  ⟨blk_below h.blk hb, h.ge, Kd.R_below h.rA hb, Kd.R_below h.rB hb, Kd.R_below h.rT hb, Kd.R_below h.rW hb, h.sA, h.sB⟩
theorem blk_own {α : Type} {d : Kd α} {e : Nat} {v : Value} {xs : List α} {t : Nat} {cs : Array Value} (hb : w.heap[g]? = some (.cells cs t (0, 0))) (hr : d.R e w base tt v xs) (ht : t ≠ e) (hg : w.grownBy w1 v.ownBlock) : w1.heap[g]? = some (.cells cs t (0, 0)) :=
  blk_grown hb hg (fun e' => by
    obtain ⟨cs', hc⟩ := own_of hr g e'.symm
    rw [hb] at hc; injection hc with hc; injection hc with _ h5; exact ht h5)
/-- One of the rows has grown. -/
theorem St.growA (h : St base w g c xA lA xB lB xT lT xW lW) {v1 : Value} {l1 : List Int} (hr : aKi.R 3 w1 base tt v1 l1) (hg : w.grownBy w1 xA.ownBlock) (hat : v1.ownBlock = xA.ownBlock ∨ ∃ b, v1.ownBlock = some b ∧ w.heap.size ≤ b) : St base w1 g c v1 l1 xB lB xT lT xW lW where
  blk := blk_own h.blk h.rA (by decide) hg
  ge := h.ge
  rA := hr
  rB := R_side h.rB (bE (by decide)) hg (fun k hk => ⟨own_of h.rA k hk, fun e => own_types h.rB h.rA (by decide) k e hk⟩)
  rT := R_side h.rT (iE 3) hg (fun k hk => ⟨own_of h.rA k hk, h.sA k hk⟩)
  rW := R_side h.rW (bE (by decide)) hg (fun k hk => ⟨own_of h.rA k hk, fun e => own_types h.rW h.rA (by decide) k e hk⟩)
  sA := fun k hk e => by
    rcases hat with h1 | ⟨b, h1, h2⟩
    · exact h.sA k (h1 ▸ hk) e
    · rw [h1] at hk; injection hk with hk; have := Kd.R_lt h.rT k e; omega
  sB := h.sB
theorem St.growB (h : St base w g c xA lA xB lB xT lT xW lW) {v1 : Value} {l1 : List (List Int)} (hr : bsK.R 56 w1 base tt v1 l1) (hg : w.grownBy w1 xB.ownBlock) (hat : v1.ownBlock = xB.ownBlock ∨ ∃ b, v1.ownBlock = some b ∧ w.heap.size ≤ b) : St base w1 g c xA lA v1 l1 xT lT xW lW where
  blk := blk_own h.blk h.rB (by decide) hg
  ge := h.ge
  rA := R_side h.rA (iE 56) hg (fun k hk => ⟨own_of h.rB k hk, fun e => own_types h.rA h.rB (by decide) k e hk⟩)
  rB := hr
  rT := R_side h.rT (iE 56) hg (fun k hk => ⟨own_of h.rB k hk, fun e => own_types h.rT h.rB (by decide) k e hk⟩)
  rW := R_side h.rW (bE (by decide)) hg (fun k hk => ⟨own_of h.rB k hk, h.sB k hk⟩)
  sA := h.sA
  sB := fun k hk e => by
    rcases hat with h1 | ⟨b, h1, h2⟩
    · exact h.sB k (h1 ▸ hk) e
    · rw [h1] at hk; injection hk with hk; have := Kd.R_lt h.rW k e; omega
theorem St.growT (h : St base w g c xA lA xB lB xT lT xW lW) {v1 : Value} {l1 : List Int} (hr : aKi.R 3 w1 base tt v1 l1) (hg : w.grownBy w1 xT.ownBlock) (hat : v1.ownBlock = xT.ownBlock ∨ ∃ b, v1.ownBlock = some b ∧ w.heap.size ≤ b) : St base w1 g c xA lA xB lB v1 l1 xW lW where
  blk := blk_own h.blk h.rT (by decide) hg
  ge := h.ge
  rA := R_side h.rA (iE 3) hg (fun k hk => ⟨own_of h.rT k hk, fun e => h.sA k e hk⟩)
  rB := R_side h.rB (bE (by decide)) hg (fun k hk => ⟨own_of h.rT k hk, fun e => own_types h.rB h.rT (by decide) k e hk⟩)
  rT := hr
  rW := R_side h.rW (bE (by decide)) hg (fun k hk => ⟨own_of h.rT k hk, fun e => own_types h.rW h.rT (by decide) k e hk⟩)
  sA := fun k hk e => by
    rcases hat with h1 | ⟨b, h1, h2⟩
    · exact h.sA k hk (h1 ▸ e)
    · rw [h1] at e; injection e with e; have := Kd.R_lt h.rA k hk; omega
  sB := h.sB
theorem St.growW (h : St base w g c xA lA xB lB xT lT xW lW) {v1 : Value} {l1 : List (List Int)} (hr : bsK.R 56 w1 base tt v1 l1) (hg : w.grownBy w1 xW.ownBlock) (hat : v1.ownBlock = xW.ownBlock ∨ ∃ b, v1.ownBlock = some b ∧ w.heap.size ≤ b) : St base w1 g c xA lA xB lB xT lT v1 l1 where
  blk := blk_own h.blk h.rW (by decide) hg
  ge := h.ge
  rA := R_side h.rA (iE 56) hg (fun k hk => ⟨own_of h.rW k hk, fun e => own_types h.rA h.rW (by decide) k e hk⟩)
  rB := R_side h.rB (bE (by decide)) hg (fun k hk => ⟨own_of h.rW k hk, fun e => h.sB k e hk⟩)
  rT := R_side h.rT (iE 56) hg (fun k hk => ⟨own_of h.rW k hk, fun e => own_types h.rT h.rW (by decide) k e hk⟩)
  rW := hr
  sA := h.sA
  sB := fun k hk e => by
    rcases hat with h1 | ⟨b, h1, h2⟩
    · exact h.sB k hk (h1 ▸ e)
    · rw [h1] at e; injection e with e; have := Kd.R_lt h.rB k hk; omega
/-- The disk's own block turns in any cell. -/
theorem St.put (h : St base w g c xA lA xB lB xT lT xW lW) (j : Nat) (u : Value) : St base (w.setCell ⟨g, j, none⟩ u) g (c.setIfInBounds j u) xA lA xB lB xT lT xW lW := by
  have hn : ∀ (k : Nat), some g = some k → (∃ cs, w.heap[k]? = some (.cells cs 98 (0, 0))) := fun k hk => by cases hk; exact ⟨_, h.blk⟩
  have nA : ∀ {v : Value} {α : Type} {d : Kd α} {q : Nat} {xs : List α}, d.R q w base tt v xs → q ≠ 98 → ∀ k, some g = some k → v.ownBlock ≠ some k := fun hr hq k hk e => by
    cases hk
    obtain ⟨cs, hc⟩ := own_of hr _ e
    rw [h.blk] at hc
    injection hc with hc
    injection hc with _ ht
    exact hq ht.symm
  exact ⟨blk_put h.blk j u rfl, h.ge, R_side h.rA (iE 98) (set_grown w g j u) (fun k hk => ⟨hn k hk, nA h.rA (by decide) k hk⟩), R_side h.rB (bE (by decide)) (set_grown w g j u) (fun k hk => ⟨hn k hk, nA h.rB (by decide) k hk⟩),
    R_side h.rT (iE 98) (set_grown w g j u) (fun k hk => ⟨hn k hk, nA h.rT (by decide) k hk⟩), R_side h.rW (bE (by decide)) (set_grown w g j u) (fun k hk => ⟨hn k hk, nA h.rW (by decide) k hk⟩), h.sA, h.sB⟩
end
theorem R_okb {w : World} {base : Nat} {ok : Nat → Prop} {v : Value} {xs : List Int} {g : Option Nat} (h : Kd.R (Kd.int .u8) 5 w base ok v xs) (h' : ∀ k, v.ownBlock = some k → some k ≠ g) : Kd.R (Kd.int .u8) 5 w base (fun q => tt q ∧ some q ≠ g) v xs := Kd.R_of_own (Kd.own_of_R h) (fun k hk => ⟨trivial, h' k hk⟩)
/-- An element of a row of rows, put anew. -/
theorem bs_put {W : World} {base g n cap : Nat} {xs : List (List Int)} {u : Value} {s : List Int} (h : bsK.R 56 W base tt (.slice (some ⟨g, 0, none⟩) n cap) xs) (hn : xs.length = n) (k : Nat) (hk : k < n) (hs : (Kd.int .u8).R 5 W base tt u s) :
    bsK.R 56 (W.setCell ⟨g, k, none⟩ u) base tt (.slice (some ⟨g, 0, none⟩) n cap) (xs.set k s) ∧ W.grownBy (W.setCell ⟨g, k, none⟩ u) (some g) := by
  subst hn
  obtain ⟨cg, hcg⟩ := own_of h g (by simp [Value.ownBlock])
  obtain ⟨h0, inner, ho, hr⟩ := h
  have hst := ho.stored k u
  refine ⟨⟨fun _ _ => trivial, inner.set k u, by rw [List.length_set]; exact hst.1, ⟨?_, fun j p hj => ?_⟩⟩, hst.2⟩
  · rw [List.length_set, List.length_set]; exact hr.1
  · have hsz : bsK.sz = 1 := rfl
    have hil : inner.length = xs.length := by have := hr.1; rw [hsz, Nat.mul_one] at this; exact this
    have mv : ∀ {x : List Int} {cs : List Value}, bsK.M W base (fun q => tt q ∧ some q ≠ (Value.slice (some ⟨g, 0, none⟩) xs.length cap).ownBlock) x cs → bsK.M (W.setCell ⟨g, k, none⟩ u) base (fun q => tt q ∧ some q ≠ (Value.slice (some ⟨g, 0, none⟩) xs.length cap).ownBlock) x cs := fun hm =>
      Kd.M_step hm (fun q hq _ => Below.heap_setCell W ⟨g, k, none⟩ u q (fun e => hq.2 (by rw [e]; rfl)))
    obtain ⟨hj1, hj2⟩ := List.getElem?_eq_some_iff.1 hj
    have hjl : j < xs.length := by rw [List.length_set] at hj1; exact hj1
    by_cases hjk : k = j
    · subst hjk
      rw [List.getElem_set_self] at hj2
      subst hj2
      have e : ((inner.set k u).drop (k * bsK.sz)).take bsK.sz = [u] := by
        rw [hsz, Nat.mul_one, List.drop_eq_getElem_cons (by rw [List.length_set]; omega), List.getElem_set_self]
        rfl
      rw [e]
      refine mv ⟨u, rfl, R_okb hs (fun q hq e => ?_)⟩
      obtain ⟨cs, hc⟩ := own_of hs q hq
      have : q = g := by simpa [Value.ownBlock] using e
      rw [this, hcg] at hc; injection hc with hc; injection hc with _ ht; exact absurd ht (by decide)
    · rw [List.getElem_set_ne hjk] at hj2
      have e : ((inner.set k u).drop (j * bsK.sz)).take bsK.sz = (inner.drop (j * bsK.sz)).take bsK.sz := by
        rw [hsz, Nat.mul_one, List.drop_eq_getElem_cons (by rw [List.length_set]; omega), List.drop_eq_getElem_cons (l := inner) (i := j) (by omega), List.getElem_set_ne hjk]
        rfl
      rw [e]
      exact mv (hr.2 j p (by rw [List.getElem?_eq_getElem hjl, hj2]))
end Go.Proofs.Ytmghgghheebnjaa.Dis
namespace Go.Proofs.Ytmghgghheebnjaa.Dis
open Go.RowKit Go.Proofs.YtmghgghheebnjaaW.PrintWords Go.Proofs.YtmghgghheebnjaaW.PrintLast Go.Proofs.YtmghgghheebnjaaW.PrintMore Go.Maps
set_option linter.unusedVariables false
set_option linter.unusedSimpArgs false
theorem grown_below {w w1 : World} (h : w.grownBy w1 none) : Below w.heap.size w w1 := ⟨h.os, h.tape, h.output, h.size, fun k hk => h.block k hk (by simp)⟩
theorem sz_le {base g : Nat} {w : World} {c : Array Value} {xA xB xT xW : Value} {lA lT : List Int} {lB lW : List (List Int)} (h : St base w g c xA lA xB lB xT lT xW lW) : base ≤ w.heap.size := Nat.le_of_lt (Nat.lt_of_le_of_lt h.ge (blk_lt h.blk))
theorem C_ofR {α : Type} {d : Kd α} {e : Nat} {w : World} {base : Nat} {ok : Nat → Prop} {A : Option Addr} {n c : Nat} {xs : List α} (h : d.R e w base ok (.slice A n c) xs) : d.C w A n xs := by
  obtain ⟨A', c', he, _, hC⟩ := Kd.R_reads h
  injection he with h1 h2 h3
  subst h1
  rw [h2]
  exact hC
theorem reps_bs {w : World} {base : Nat} {v : Value} {s : List Int} (h : (Kd.int .u8).R 5 w base tt v s) : Reps (bsK.M w base tt) bsK.sz [s] [v] := ⟨rfl, fun j p hj => by
  have hj0 : j = 0 := by
    have := (List.getElem?_eq_some_iff.1 hj).1
    simp at this; exact this
  subst hj0
  have : p = s := by simpa using hj.symm
  subst this
  exact ⟨v, rfl, h⟩⟩
theorem bs_reads {w : World} {base : Nat} {A : Option Addr} {n c : Nat} {xs : List (List Int)} (h : bsK.R 56 w base tt (.slice A n c) xs) : ReadsRow (bsK.M w base (fun q => tt q ∧ some q ≠ (Value.slice A n c).ownBlock)) 1 w A n xs := by
  obtain ⟨h0, inner, ho, hr⟩ := h
  obtain ⟨A', c', he, hR⟩ := own_reads_row ho hr rfl
  injection he with h1 h2 h3
  subst h1
  subst h2
  exact hR
theorem M_ne {w : World} {base : Nat} {ok : Nat → Prop} {x : List Int} {cs : List Value} {v : Value} {xs : List (List Int)} (h : bsK.M w base ok x cs) (hv : bsK.R 56 w base tt v xs) : bsK.M w base (fun q => tt q ∧ some q ≠ v.ownBlock) x cs :=
  bsK.M_mono (fun k hk => ⟨trivial, fun e => by
    obtain ⟨_, _, _, q, hq, cells, hc⟩ := hk
    have hq5 : q = 5 := by simpa [bsK, Kd.slice, Kd.int, Kd.scalar] using hq
    obtain ⟨cs', hc'⟩ := own_of hv k e.symm
    rw [hc] at hc'; injection hc' with hc'; injection hc' with _ ht; rw [hq5] at ht; exact absurd ht (by decide)⟩) (bsK.M_bound h)
theorem exec_stA {o : Oper} {a : Act} {W : World} {t : TypeId} {x v : Operand} {g j : Nat} {A : Option Addr} {n c : Nat} {s0 : Value} (ho : o.op = .store t x v) (ht : (Try.prog.info? t).map (·.size) = some 1) (hx : a.eval x = .pointer (some ⟨g, j, none⟩)) (hv : a.eval v = .slice A n c) (hc : W.cell? ⟨g, j, none⟩ = some s0) (hf : W.frozen? ⟨g, j, none⟩ = false) :
    (execOp a.eval o).run Try.prog W = .ok .skip (W.setCell ⟨g, j, none⟩ (.slice A n c)) := by
  cases hq : Try.prog.info? t with
  | none => simp [hq] at ht
  | some i =>
    have hs : i.size = 1 := by simpa [hq] using ht
    unfold execOp
    rw [ho]
    simp only [hx, hv]
    simp [go_sem, hc, hf, hq, hs, sizeOf, typeInfo]
/-- What is kept of a sector is put anew, or for the first time. -/
def setR (r : Rf) (i : Int) (s : List Int) : Rf := match r.at_.findIdx? (· == i) with
  | some k => { r with b := r.b.set k s }
  | none => { r with at_ := r.at_ ++ [i], b := r.b ++ [s] }
theorem find_at {l : List Int} {i : Int} {k : Nat} (hk : k < l.length) (h : ∀ j, j < k → rd l (j : Int) ≠ i) (he : rd l (k : Int) = i) : l.findIdx? (· == i) = some k := by
  rw [List.findIdx?_eq_some_iff_getElem]
  refine ⟨hk, ?_, fun j hj => ?_⟩
  · have : rd l (k : Int) = l[k] := by simp [rd, List.getD_eq_getElem?_getD, List.getElem?_eq_getElem hk]
    rw [← this, he]; simp
  · have : rd l (j : Int) = l[j] := by simp [rd, List.getD_eq_getElem?_getD, List.getElem?_eq_getElem (show j < l.length by omega)]
    have h2 := h j hj
    rw [this] at h2
    simpa using h2
theorem find_no {l : List Int} {i : Int} (h : ∀ j, j < l.length → rd l (j : Int) ≠ i) : l.findIdx? (· == i) = none := by
  rw [List.findIdx?_eq_none_iff]
  intro x hx
  obtain ⟨j, hj, rfl⟩ := List.getElem_of_mem hx
  have h2 := h j hj
  have : rd l (j : Int) = l[j] := by simp [rd, List.getD_eq_getElem?_getD, List.getElem?_eq_getElem hj]
  rw [this] at h2
  simpa using h2
theorem bs_at {W : World} {base : Nat} {A : Option Addr} {n c : Nat} {xs : List (List Int)} (h : bsK.R 56 W base tt (.slice A n c) xs) (hn : xs.length = n) (k : Nat) (hk : k < n) :
    ∃ gb Ak ck, A = some ⟨gb, 0, none⟩ ∧ base ≤ gb ∧ (∃ cs, W.heap[gb]? = some (.cells cs 56 (0, 0))) ∧ W.cell? ⟨gb, k, none⟩ = some (.slice Ak (xs.getD k []).length ck) ∧ (Kd.int .u8).R 5 W base tt (.slice Ak (xs.getD k []).length ck) (xs.getD k []) := by
  subst hn
  obtain ⟨gb, cap, he, hb, _, hc⟩ := Kd.R_form h (by omega)
  injection he with h1 h2 h3
  subst h1
  obtain ⟨h0, inner, ho, hr⟩ := h
  have hp : xs[k]? = some (xs.getD k []) := by rw [List.getD_eq_getElem?_getD, List.getElem?_eq_getElem hk]; rfl
  obtain ⟨v, hv, hR⟩ := hr.2 k _ hp
  have hsz : bsK.sz = 1 := rfl
  have hil : inner.length = xs.length := by have := hr.1; rw [hsz, Nat.mul_one] at this; exact this
  rw [hsz, Nat.mul_one] at hv
  have hv2 : inner[k]? = some v := by
    have h5 := congrArg (fun l => l[0]?) hv
    simpa using h5
  obtain ⟨Ak, ck, rfl⟩ := Kd.R_slice hR
  refine ⟨gb, Ak, ck, rfl, hb, hc, ?_, Kd.R_mono hR (fun _ _ => trivial)⟩
  have := ho.cells (g := gb) rfl k _ hv2
  rwa [add_plain] at this
set_option maxHeartbeats 4000000 in
set_option maxRecDepth 100000 in
theorem set_calls (base g : Nat) (r : Rf) (i : Int) (Av : Option Addr) (cv : Nat) (s : List Int) (w W : World) (h : IsRf base W g r) (hB : Below base w W) (hV : Kd.R (Kd.int .u8) 5 W base tt (.slice Av s.length cv) s) (hn : r.at_.length = r.b.length) (hlen : r.at_.length ≤ 1000000) :
    Calls Try.prog 74 #[.pointer (some ⟨g, 0, none⟩), .int .i64 i, .slice Av s.length cv] W fun e w' => e = .returned (.tuple #[]) ∧ IsRf base w' g (setR r i s) ∧ Below base w w' ∧ KeepR W w' := by
  have info3 : (Try.prog.info? 3).map (fun i => (i.zero, i.size, i.bytes)) = some (some (.int .i64 0), 1, 8) := by kernel_rfl
  have INF3 := Aside0.mk info3
  have info28 : (Try.prog.info? 56).map (fun i => (i.zero, i.size, i.bytes)) = some (some (.slice none 0 0), 1, 24) := by kernel_rfl
  have INF28 := Aside0.mk info28
  clear info3 info28
  obtain ⟨vA, vB, vT, vW, h⟩ := h
  obtain ⟨AA, cA, rfl⟩ := Kd.R_slice h.rA
  obtain ⟨AB, cB, rfl⟩ := Kd.R_slice h.rB
  have c1 : W.cell? ⟨g, 1, none⟩ = some (.slice AA r.at_.length cA) := (blk_cell h.blk 1).trans rfl
  have c2 : W.cell? ⟨g, 2, none⟩ = some (.slice AB r.b.length cB) := (blk_cell h.blk 2).trans rfl
  have f1 := blk_frozen h.blk 1
  have f2 := blk_frozen h.blk 2
  obtain ⟨n, hnn⟩ : ∃ n, n = r.at_.length := ⟨_, rfl⟩
  have hnb : r.b.length = n := by omega
  have HH := Aside0.mk h
  have HBB := Aside0.mk hB
  have HVV := Aside0.mk hV
  have HLN := Aside0.mk (And.intro hlen (show r.b.length ≤ 1000000 by omega))
  rw [← hnn] at c1
  rw [hnb] at c2
  have HNA := Aside0.mk hnn
  have HNB := Aside0.mk hnb
  have hn6 : n ≤ 1000000 := by omega
  clear h hB hV hlen hn hnn hnb
  go_enter Try.func74, Try.ntmps74
  go_wp2_with fail
  go_loopw [6] (fun x wr => ∃ k : Nat, k ≤ n ∧ x = .int .i64 k ∧ wr = W ∧ Aside0 (∀ j, j < k → rd r.at_ (j : Int) ≠ i)) (fun x _ => n - (intOf x).toNat)
  case atStart => exact ⟨0, Nat.zero_le _, rfl, rfl, ⟨fun j hj => absurd hj (Nat.not_lt_zero _)⟩⟩
  case round =>
    obtain ⟨k, hk, rfl, hwr, HF⟩ := hrel
    subst hwr
    by_cases hlt : k < n
    · have e1 : decide ((k : Int) < n) = true := decide_eq_true (by omega)
      have e2 : decide (k < n) = true := decide_eq_true hlt
      obtain ⟨ad, hA, cel⟩ := Kd.at_int (C_ofR HH.out.rA) (k : Int) (by omega) (by rw [← HNA.out]; omega)
      subst hA
      simp only [Int.toNat_natCast] at cel
      obtain ⟨gb, Ak, ck, hB2, hgb, hcs, cbk, _⟩ := bs_at HH.out.rB rfl k (by rw [HNB.out]; exact hlt)
      subst hB2
      obtain ⟨csb, hcsb⟩ := hcs
      have fb := blk_frozen hcsb k
      have HCB := Aside0.mk hcsb
      have HGB := Aside0.mk hgb
      clear hcsb hgb
      by_cases hi : rd r.at_ (k : Int) = i
      · rw [hi] at cel
        have e3 : (i == i) = true := by simp
        go_wp2
        refine bodyPost_ret (results_none rfl _ _ _) rfl ?_
        obtain ⟨p1, p2⟩ := bs_put HH.out.rB rfl k (by rw [HNB.out]; exact hlt) HVV.out
        have hst := HH.out.st.growB p1 p2 (.inl rfl)
        have e : setR r i s = { r with b := r.b.set k s } := by
          unfold setR
          rw [find_at (by rw [← HNA.out]; exact hlt) HF.out hi]
        rw [e]
        exact ⟨rfl, ⟨_, _, _, _, St.at_ (r := { r with b := r.b.set k s }) hst⟩, HBB.out.setCell HGB.out _, KeepR.row p2 (fun q e => by cases e; exact ⟨_, 56, HCB.out, .inr (.inr rfl)⟩)⟩
      · have e3 : (rd r.at_ (k : Int) == i) = false := by simp [hi]
        go_wp2
        go_roundw
        case rel => exact ⟨k + 1, by omega, by go_num, by trivial, ⟨fun j hj => by
          by_cases hjk : j = k
          · rw [hjk]; exact hi
          · exact HF.out j (by omega)⟩⟩
        case measure => simp [intOf]; omega
    · obtain rfl : k = n := by omega
      have e1 : decide ((k : Int) < k) = false := decide_eq_false (by omega)
      have hno := Aside0.mk (find_no (l := r.at_) (i := i) (by rw [← HNA.out]; exact HF.out))
      go_upto_region 5 with fail
      have hst0 := HH.out.st.below (below_drew (Below.refl wr.heap.size wr))
      rw [← HNA.out, HNB.out] at hst0
      have HS := Aside0.mk hst0
      clear hst0
      have HB := Aside0.mk (HBB.out.trans (below_drew (Below.refl base wr)))
      have HK := Aside0.mk (KeepR.of_below (below_drew (Below.refl wr.heap.size wr)))
      have HV := Aside0.mk (Kd.R_drew HVV.out)
      refine start_ (n := 22) (S := fun w' => w'.cell? ⟨g, 1, none⟩ = some (.slice AA k cA) ∧ w'.cell? ⟨g, 2, none⟩ = some (.slice AB k cB)) (ds := [18, 21]) #[false, false, false, false, false, false, false, false, false, false, false, false, false, false, false, false, false, false, false, false, false, false] (by kernel_rfl) rfl rfl ⟨c1, c2⟩ (fun hHeld => ?_)
      refine pure_ (i := 0) (N := some 32) (v := ?_) (a' := ?_) #[true, false, false, false, false, false, false, false, false, false, false, false, false, false, false, false, false, false, false, false, false, false] rfl rfl (by kernel_rfl) (fun _ _ _ h => h) (Or.inl ⟨by rfl, ?_⟩) ?_ ?_
      rotate_left
      · intro w'
        go_simp
        with_reducible rfl
      rotate_left
      · simp only [Act.put, List.setIfInBounds_toArray, List.set_cons_zero, List.set_cons_succ]
        rfl
      refine pure_ (i := 1) (N := some 33) (v := ?_) (a' := ?_) #[true, true, false, false, false, false, false, false, false, false, false, false, false, false, false, false, false, false, false, false, false, false] rfl rfl (by kernel_rfl) (fun _ _ _ h => h) (Or.inl ⟨by rfl, ?_⟩) ?_ ?_
      rotate_left
      · intro w'
        go_simp
        with_reducible rfl
      rotate_left
      · simp only [Act.put, List.setIfInBounds_toArray, List.set_cons_zero, List.set_cons_succ]
        rfl
      refine pure_ (i := 2) (N := some 34) (v := ?_) (a' := ?_) #[true, true, true, false, false, false, false, false, false, false, false, false, false, false, false, false, false, false, false, false, false, false] rfl rfl (by kernel_rfl) (fun _ _ _ h => h) (Or.inl ⟨by rfl, ?_⟩) ?_ ?_
      rotate_left
      · intro w'
        go_simp
        with_reducible rfl
      rotate_left
      · simp only [Act.put, List.setIfInBounds_toArray, List.set_cons_zero, List.set_cons_succ]
        rfl
      refine pure_ (i := 3) (N := some 35) (v := ?_) (a' := ?_) #[true, true, true, true, false, false, false, false, false, false, false, false, false, false, false, false, false, false, false, false, false, false] rfl rfl (by kernel_rfl) (fun _ _ _ h => h) (Or.inl ⟨by rfl, ?_⟩) ?_ ?_
      rotate_left
      · intro w'
        go_simp
        with_reducible rfl
      rotate_left
      · simp only [Act.put, List.setIfInBounds_toArray, List.set_cons_zero, List.set_cons_succ]
        rfl
      refine pure_ (i := 4) (N := some 36) (v := ?_) (a' := ?_) #[true, true, true, true, true, false, false, false, false, false, false, false, false, false, false, false, false, false, false, false, false, false] rfl rfl (by kernel_rfl) (fun _ _ _ h => h) (Or.inl ⟨by rfl, ?_⟩) ?_ ?_
      rotate_left
      · intro w'
        go_simp
        with_reducible rfl
      rotate_left
      · simp only [Act.put, List.setIfInBounds_toArray, List.set_cons_zero, List.set_cons_succ]
        rfl
      refine take_ (i := 5) (N := some 37) (v := ?_) (a' := ?_) #[true, true, true, true, true, true, false, false, false, false, false, false, false, false, false, false, false, false, false, false, false, false] rfl rfl (by kernel_rfl) (fun _ _ _ h => h) (Or.inl ⟨by rfl, ?_⟩) hHeld ?_ ?_
      rotate_left
      · rintro w' ⟨s0, s1⟩
        go_simp
        with_reducible rfl
      rotate_left
      · simp only [Act.put, List.setIfInBounds_toArray, List.set_cons_zero, List.set_cons_succ]
        rfl
      refine pure_ (i := 6) (N := some 38) (v := ?_) (a' := ?_) #[true, true, true, true, true, true, true, false, false, false, false, false, false, false, false, false, false, false, false, false, false, false] rfl rfl (by kernel_rfl) (fun _ _ _ h => h) (Or.inl ⟨by rfl, ?_⟩) ?_ ?_
      rotate_left
      · intro w'
        go_simp
        with_reducible rfl
      rotate_left
      · simp only [Act.put, List.setIfInBounds_toArray, List.set_cons_zero, List.set_cons_succ]
        rfl
      refine pure_ (i := 9) (N := some 41) (v := ?_) (a' := ?_) #[true, true, true, true, true, true, true, false, false, true, false, false, false, false, false, false, false, false, false, false, false, false] rfl rfl (by kernel_rfl) (fun _ _ _ h => h) (Or.inl ⟨by rfl, ?_⟩) ?_ ?_
      rotate_left
      · intro w'
        go_simp
        with_reducible rfl
      rotate_left
      · simp only [Act.put, List.setIfInBounds_toArray, List.set_cons_zero, List.set_cons_succ]
        rfl
      refine pure_ (i := 10) (N := some 42) (v := ?_) (a' := ?_) #[true, true, true, true, true, true, true, false, false, true, true, false, false, false, false, false, false, false, false, false, false, false] rfl rfl (by kernel_rfl) (fun _ _ _ h => h) (Or.inl ⟨by rfl, ?_⟩) ?_ ?_
      rotate_left
      · intro w'
        go_simp
        with_reducible rfl
      rotate_left
      · simp only [Act.put, List.setIfInBounds_toArray, List.set_cons_zero, List.set_cons_succ]
        rfl
      refine pure_ (i := 11) (N := some 43) (v := ?_) (a' := ?_) #[true, true, true, true, true, true, true, false, false, true, true, true, false, false, false, false, false, false, false, false, false, false] rfl rfl (by kernel_rfl) (fun _ _ _ h => h) (Or.inl ⟨by rfl, ?_⟩) ?_ ?_
      rotate_left
      · intro w'
        go_simp
        with_reducible rfl
      rotate_left
      · simp only [Act.put, List.setIfInBounds_toArray, List.set_cons_zero, List.set_cons_succ]
        rfl
      refine take_ (i := 12) (N := some 44) (v := ?_) (a' := ?_) #[true, true, true, true, true, true, true, false, false, true, true, true, true, false, false, false, false, false, false, false, false, false] rfl rfl (by kernel_rfl) (fun _ _ _ h => h) (Or.inl ⟨by rfl, ?_⟩) hHeld ?_ ?_
      rotate_left
      · rintro w' ⟨s0, s1⟩
        go_simp
        with_reducible rfl
      rotate_left
      · simp only [Act.put, List.setIfInBounds_toArray, List.set_cons_zero, List.set_cons_succ]
        rfl
      refine pure_ (i := 13) (N := some 45) (v := ?_) (a' := ?_) #[true, true, true, true, true, true, true, false, false, true, true, true, true, true, false, false, false, false, false, false, false, false] rfl rfl (by kernel_rfl) (fun _ _ _ h => h) (Or.inl ⟨by rfl, ?_⟩) ?_ ?_
      rotate_left
      · intro w'
        go_simp
        with_reducible rfl
      rotate_left
      · simp only [Act.put, List.setIfInBounds_toArray, List.set_cons_zero, List.set_cons_succ]
        rfl
      refine join_ (σ := Value × Value × Value × Value) 6 #[true, true, true, true, true, true, true, true, true, true, true, true, true, true, true, true, false, false, false, false, false, false] (fun s_ => [(39, s_.1), (40, s_.2.1), (46, s_.2.2.1), (47, s_.2.2.2)]) (fun s_ w' => St base w' g (rcells r (.slice AA k cA) (.slice AB k cB) vT vW) s_.2.1 (r.at_ ++ [i]) s_.2.2.2 (r.b ++ [s]) vT r.to_ vW r.ws ∧ Below base w w' ∧ KeepR wr w') ?_ ?_
      rotate_left
      · intro hJ
        refine two_ (i := 7) (j := 14) (Ni := some 39) (Nj := some 46) #[true, true, true, true, true, true, true, true, false, true, true, true, true, true, false, false, false, false, false, false, false, false] #[true, true, true, true, true, true, true, false, false, true, true, true, true, true, true, false, false, false, false, false, false, false] rfl rfl rfl rfl (by kernel_rfl) (by decide) (by decide) (fun K hK => ?_) (fun K hK => ?_)
        · refine Kd.R_lit_step aKi (w0 := w) base 3 (by rfl) (N := 39) rfl (xs := [i]) (inner := [.int .i64 i]) (ok := tt) (okp := tt) ?hr1 ?hrep1 (fun _ h => h) trivial HB.out ?hS1 (by simp) ?_
          case hr1 => first | (go_simp; done) | (go_simp; rfl)
          case hrep1 => exact Kd.reps_scalar (enc := Value.int .i64) [i]
          case hS1 => exact sz_le HS.out
          intro vI w33_1 ho hb hg _
          have bl := grown_below hg
          obtain ⟨AI, cI, rfl⟩ := Kd.R_slice ho
          have HI := Aside0.mk ho
          have HS' := Aside0.mk (HS.out.below bl)
          have HB' := Aside0.mk hb
          have HK' := Aside0.mk (HK.out.trans (KeepR.of_below bl))
          have HV' := Aside0.mk (Kd.R_below HV.out bl)
          clear HS HB HK HV bl hb hg ho
          have HS := HS'
          have HB := HB'
          have HK := HK'
          have HV := HV'
          clear HS' HB' HK' HV'
          show K (Act.put _ (some 39) _) _
          simp only [Act.put, List.setIfInBounds_toArray, List.set_cons_zero, List.set_cons_succ]
          refine hK.out _ _ ⟨(blk_cell HS.out.blk 1).trans rfl, (blk_cell HS.out.blk 2).trans rfl⟩ (fun hHeld => ?_)
          clear hK K
          refine two_ (i := 8) (j := 14) (Ni := some 40) (Nj := some 46) #[true, true, true, true, true, true, true, true, true, true, true, true, true, true, false, false, false, false, false, false, false, false] #[true, true, true, true, true, true, true, true, false, true, true, true, true, true, true, false, false, false, false, false, false, false] rfl rfl rfl rfl (by kernel_rfl) (by decide) (by decide) (fun K hK => ?_) (fun K hK => ?_)
          · refine Kd.R_append_rows_step aKi (w0 := w) base (by rfl) (.tmp 37) (.tmp 39) 96 3 (.int .i64 0) 8 rfl Try.underlying96 INF3.out rfl (by decide) (by decide) (.slice AA k cA) r.at_ [i] _ _ _ tt (fun _ => False) rfl rfl HS.out.rA (C_ofR HI.out) (fun _ _ h => h) (fun _ h => h.elim) (fun _ _ => trivial) HB.out (sz_le HS.out) ?hl2 ?_
            case hl2 => have := HLN.out; simp; omega
            intro v40 w33_2 ho hb hg hat
            have HS' := Aside0.mk (HS.out.growA ho hg hat)
            have HB' := Aside0.mk hb
            have HK' := Aside0.mk (HK.out.trans (KeepR.row hg (fun q e => by obtain ⟨cs, hc⟩ := own_of HS.out.rA q e; exact ⟨cs, 3, hc, .inr (.inl rfl)⟩)))
            have HV' := Aside0.mk (R_side HV.out (iE 3) hg (fun q hq => ⟨own_of HS.out.rA q hq, fun e => own_types HV.out HS.out.rA (by decide) q e hq⟩))
            clear HS HB HK HV hb hg ho hat
            have HS := HS'
            have HB := HB'
            have HK := HK'
            have HV := HV'
            clear HS' HB' HK' HV'
            show K (Act.put _ (some 40) _) _
            simp only [Act.put, List.setIfInBounds_toArray, List.set_cons_zero, List.set_cons_succ]
            refine hK.out _ _ ⟨(blk_cell HS.out.blk 1).trans rfl, (blk_cell HS.out.blk 2).trans rfl⟩ (fun hHeld => ?_)
            clear hK K
            refine one_ (i := 14) (N := some 46) #[true, true, true, true, true, true, true, true, true, true, true, true, true, true, true, false, false, false, false, false, false, false] rfl rfl (by kernel_rfl) (by decide) (fun K hK => ?_)
            refine Kd.R_lit_step bsK (w0 := w) base 56 (by rfl) (N := 46) rfl (xs := [s]) (inner := [.slice Av s.length cv]) (ok := tt) (okp := tt) ?hr3 ?hrep3 (fun _ h => h) trivial HB.out ?hS3 (by simp) ?_
            case hr3 => first | (go_simp; done) | (go_simp; rfl)
            case hrep3 => exact reps_bs HV.out
            case hS3 => exact sz_le HS.out
            intro vM w33_3 ho hb hg _
            have bl := grown_below hg
            obtain ⟨AM, cM, rfl⟩ := Kd.R_slice ho
            have HM := Aside0.mk ho
            have HS' := Aside0.mk (HS.out.below bl)
            have HB' := Aside0.mk hb
            have HK' := Aside0.mk (HK.out.trans (KeepR.of_below bl))
            clear HS HB HK  bl hb hg ho
            have HS := HS'
            have HB := HB'
            have HK := HK'
            clear HS' HB' HK' 
            show K (Act.put _ (some 46) _) _
            simp only [Act.put, List.setIfInBounds_toArray, List.set_cons_zero, List.set_cons_succ]
            refine hK.out _ _ ⟨(blk_cell HS.out.blk 1).trans rfl, (blk_cell HS.out.blk 2).trans rfl⟩ (fun hHeld => ?_)
            clear hK K
            refine one_ (i := 15) (N := some 47) #[true, true, true, true, true, true, true, true, true, true, true, true, true, true, true, true, false, false, false, false, false, false] rfl rfl (by kernel_rfl) (by decide) (fun K hK => ?_)
            refine Kd.R_append_rows_step bsK (w0 := w) base (by rfl) (.tmp 44) (.tmp 46) 24 56 (.slice none 0 0) 24 rfl Try.underlying24 INF28.out rfl (by decide) (by decide) (.slice AB k cB) r.b [s] _ _ _ tt (fun q => tt q ∧ some q ≠ (Value.slice AB k cB).ownBlock) rfl rfl HS.out.rB (bs_reads HM.out) (fun x c h => M_ne h HS.out.rB) (fun q h => ⟨trivial, h.2⟩) (fun _ _ => trivial) HB.out (sz_le HS.out) ?hl4 ?_
            case hl4 => have := HLN.out; simp; omega
            intro v47 w33_4 ho hb hg hat
            have HS' := Aside0.mk (HS.out.growB ho hg hat)
            have HB' := Aside0.mk hb
            have HK' := Aside0.mk (HK.out.trans (KeepR.row hg (fun q e => by obtain ⟨cs, hc⟩ := own_of HS.out.rB q e; exact ⟨cs, 56, hc, .inr (.inr rfl)⟩)))
            clear HS HB HK  hb hg ho hat
            have HS := HS'
            have HB := HB'
            have HK := HK'
            clear HS' HB' HK' 
            show K (Act.put _ (some 47) _) _
            simp only [Act.put, List.setIfInBounds_toArray, List.set_cons_zero, List.set_cons_succ]
            refine hK.out _ _ ⟨(blk_cell HS.out.blk 1).trans rfl, (blk_cell HS.out.blk 2).trans rfl⟩ (fun hHeld => ?_)
            clear hK K
            exact hJ (_, _, _, _) _ ⟨HS.out, HB.out, HK.out⟩
          · refine Kd.R_lit_step bsK (w0 := w) base 56 (by rfl) (N := 46) rfl (xs := [s]) (inner := [.slice Av s.length cv]) (ok := tt) (okp := tt) ?hr5 ?hrep5 (fun _ h => h) trivial HB.out ?hS5 (by simp) ?_
            case hr5 => first | (go_simp; done) | (go_simp; rfl)
            case hrep5 => exact reps_bs HV.out
            case hS5 => exact sz_le HS.out
            intro vM w33_5 ho hb hg _
            have bl := grown_below hg
            obtain ⟨AM, cM, rfl⟩ := Kd.R_slice ho
            have HM := Aside0.mk ho
            have HS' := Aside0.mk (HS.out.below bl)
            have HB' := Aside0.mk hb
            have HK' := Aside0.mk (HK.out.trans (KeepR.of_below bl))
            have HI' := Aside0.mk (Kd.R_below HI.out bl)
            clear HS HB HK HI bl hb hg ho
            have HS := HS'
            have HB := HB'
            have HK := HK'
            have HI := HI'
            clear HS' HB' HK' HI'
            show K (Act.put _ (some 46) _) _
            simp only [Act.put, List.setIfInBounds_toArray, List.set_cons_zero, List.set_cons_succ]
            refine hK.out _ _ ⟨(blk_cell HS.out.blk 1).trans rfl, (blk_cell HS.out.blk 2).trans rfl⟩ (fun hHeld => ?_)
            clear hK K
            refine one_ (i := 8) (N := some 40) #[true, true, true, true, true, true, true, true, true, true, true, true, true, true, true, false, false, false, false, false, false, false] rfl rfl (by kernel_rfl) (by decide) (fun K hK => ?_)
            refine Kd.R_append_rows_step aKi (w0 := w) base (by rfl) (.tmp 37) (.tmp 39) 96 3 (.int .i64 0) 8 rfl Try.underlying96 INF3.out rfl (by decide) (by decide) (.slice AA k cA) r.at_ [i] _ _ _ tt (fun _ => False) rfl rfl HS.out.rA (C_ofR HI.out) (fun _ _ h => h) (fun _ h => h.elim) (fun _ _ => trivial) HB.out (sz_le HS.out) ?hl6 ?_
            case hl6 => have := HLN.out; simp; omega
            intro v40 w33_6 ho hb hg hat
            have HS' := Aside0.mk (HS.out.growA ho hg hat)
            have HB' := Aside0.mk hb
            have HK' := Aside0.mk (HK.out.trans (KeepR.row hg (fun q e => by obtain ⟨cs, hc⟩ := own_of HS.out.rA q e; exact ⟨cs, 3, hc, .inr (.inl rfl)⟩)))
            have HM' := Aside0.mk (R_side HM.out (bE (by decide)) hg (fun q hq => ⟨own_of HS.out.rA q hq, fun e => own_types HM.out HS.out.rA (by decide) q e hq⟩))
            clear HS HB HK HM hb hg ho hat
            have HS := HS'
            have HB := HB'
            have HK := HK'
            have HM := HM'
            clear HS' HB' HK' HM'
            show K (Act.put _ (some 40) _) _
            simp only [Act.put, List.setIfInBounds_toArray, List.set_cons_zero, List.set_cons_succ]
            refine hK.out _ _ ⟨(blk_cell HS.out.blk 1).trans rfl, (blk_cell HS.out.blk 2).trans rfl⟩ (fun hHeld => ?_)
            clear hK K
            refine one_ (i := 15) (N := some 47) #[true, true, true, true, true, true, true, true, true, true, true, true, true, true, true, true, false, false, false, false, false, false] rfl rfl (by kernel_rfl) (by decide) (fun K hK => ?_)
            refine Kd.R_append_rows_step bsK (w0 := w) base (by rfl) (.tmp 44) (.tmp 46) 24 56 (.slice none 0 0) 24 rfl Try.underlying24 INF28.out rfl (by decide) (by decide) (.slice AB k cB) r.b [s] _ _ _ tt (fun q => tt q ∧ some q ≠ (Value.slice AB k cB).ownBlock) rfl rfl HS.out.rB (bs_reads HM.out) (fun x c h => M_ne h HS.out.rB) (fun q h => ⟨trivial, h.2⟩) (fun _ _ => trivial) HB.out (sz_le HS.out) ?hl7 ?_
            case hl7 => have := HLN.out; simp; omega
            intro v47 w33_7 ho hb hg hat
            have HS' := Aside0.mk (HS.out.growB ho hg hat)
            have HB' := Aside0.mk hb
            have HK' := Aside0.mk (HK.out.trans (KeepR.row hg (fun q e => by obtain ⟨cs, hc⟩ := own_of HS.out.rB q e; exact ⟨cs, 56, hc, .inr (.inr rfl)⟩)))
            clear HS HB HK  hb hg ho hat
            have HS := HS'
            have HB := HB'
            have HK := HK'
            clear HS' HB' HK' 
            show K (Act.put _ (some 47) _) _
            simp only [Act.put, List.setIfInBounds_toArray, List.set_cons_zero, List.set_cons_succ]
            refine hK.out _ _ ⟨(blk_cell HS.out.blk 1).trans rfl, (blk_cell HS.out.blk 2).trans rfl⟩ (fun hHeld => ?_)
            clear hK K
            exact hJ (_, _, _, _) _ ⟨HS.out, HB.out, HK.out⟩
        · refine Kd.R_lit_step bsK (w0 := w) base 56 (by rfl) (N := 46) rfl (xs := [s]) (inner := [.slice Av s.length cv]) (ok := tt) (okp := tt) ?hr8 ?hrep8 (fun _ h => h) trivial HB.out ?hS8 (by simp) ?_
          case hr8 => first | (go_simp; done) | (go_simp; rfl)
          case hrep8 => exact reps_bs HV.out
          case hS8 => exact sz_le HS.out
          intro vM w33_8 ho hb hg _
          have bl := grown_below hg
          obtain ⟨AM, cM, rfl⟩ := Kd.R_slice ho
          have HM := Aside0.mk ho
          have HS' := Aside0.mk (HS.out.below bl)
          have HB' := Aside0.mk hb
          have HK' := Aside0.mk (HK.out.trans (KeepR.of_below bl))
          clear HS HB HK  bl hb hg ho
          have HS := HS'
          have HB := HB'
          have HK := HK'
          clear HS' HB' HK' 
          show K (Act.put _ (some 46) _) _
          simp only [Act.put, List.setIfInBounds_toArray, List.set_cons_zero, List.set_cons_succ]
          refine hK.out _ _ ⟨(blk_cell HS.out.blk 1).trans rfl, (blk_cell HS.out.blk 2).trans rfl⟩ (fun hHeld => ?_)
          clear hK K
          refine one_ (i := 7) (N := some 39) #[true, true, true, true, true, true, true, true, false, true, true, true, true, true, true, false, false, false, false, false, false, false] rfl rfl (by kernel_rfl) (by decide) (fun K hK => ?_)
          refine Kd.R_lit_step aKi (w0 := w) base 3 (by rfl) (N := 39) rfl (xs := [i]) (inner := [.int .i64 i]) (ok := tt) (okp := tt) ?hr9 ?hrep9 (fun _ h => h) trivial HB.out ?hS9 (by simp) ?_
          case hr9 => first | (go_simp; done) | (go_simp; rfl)
          case hrep9 => exact Kd.reps_scalar (enc := Value.int .i64) [i]
          case hS9 => exact sz_le HS.out
          intro vI w33_9 ho hb hg _
          have bl := grown_below hg
          obtain ⟨AI, cI, rfl⟩ := Kd.R_slice ho
          have HI := Aside0.mk ho
          have HS' := Aside0.mk (HS.out.below bl)
          have HB' := Aside0.mk hb
          have HK' := Aside0.mk (HK.out.trans (KeepR.of_below bl))
          have HM' := Aside0.mk (Kd.R_below HM.out bl)
          clear HS HB HK HM bl hb hg ho
          have HS := HS'
          have HB := HB'
          have HK := HK'
          have HM := HM'
          clear HS' HB' HK' HM'
          show K (Act.put _ (some 39) _) _
          simp only [Act.put, List.setIfInBounds_toArray, List.set_cons_zero, List.set_cons_succ]
          refine hK.out _ _ ⟨(blk_cell HS.out.blk 1).trans rfl, (blk_cell HS.out.blk 2).trans rfl⟩ (fun hHeld => ?_)
          clear hK K
          refine one_ (i := 8) (N := some 40) #[true, true, true, true, true, true, true, true, true, true, true, true, true, true, true, false, false, false, false, false, false, false] rfl rfl (by kernel_rfl) (by decide) (fun K hK => ?_)
          refine Kd.R_append_rows_step aKi (w0 := w) base (by rfl) (.tmp 37) (.tmp 39) 96 3 (.int .i64 0) 8 rfl Try.underlying96 INF3.out rfl (by decide) (by decide) (.slice AA k cA) r.at_ [i] _ _ _ tt (fun _ => False) rfl rfl HS.out.rA (C_ofR HI.out) (fun _ _ h => h) (fun _ h => h.elim) (fun _ _ => trivial) HB.out (sz_le HS.out) ?hl10 ?_
          case hl10 => have := HLN.out; simp; omega
          intro v40 w33_10 ho hb hg hat
          have HS' := Aside0.mk (HS.out.growA ho hg hat)
          have HB' := Aside0.mk hb
          have HK' := Aside0.mk (HK.out.trans (KeepR.row hg (fun q e => by obtain ⟨cs, hc⟩ := own_of HS.out.rA q e; exact ⟨cs, 3, hc, .inr (.inl rfl)⟩)))
          have HM' := Aside0.mk (R_side HM.out (bE (by decide)) hg (fun q hq => ⟨own_of HS.out.rA q hq, fun e => own_types HM.out HS.out.rA (by decide) q e hq⟩))
          clear HS HB HK HM hb hg ho hat
          have HS := HS'
          have HB := HB'
          have HK := HK'
          have HM := HM'
          clear HS' HB' HK' HM'
          show K (Act.put _ (some 40) _) _
          simp only [Act.put, List.setIfInBounds_toArray, List.set_cons_zero, List.set_cons_succ]
          refine hK.out _ _ ⟨(blk_cell HS.out.blk 1).trans rfl, (blk_cell HS.out.blk 2).trans rfl⟩ (fun hHeld => ?_)
          clear hK K
          refine one_ (i := 15) (N := some 47) #[true, true, true, true, true, true, true, true, true, true, true, true, true, true, true, true, false, false, false, false, false, false] rfl rfl (by kernel_rfl) (by decide) (fun K hK => ?_)
          refine Kd.R_append_rows_step bsK (w0 := w) base (by rfl) (.tmp 44) (.tmp 46) 24 56 (.slice none 0 0) 24 rfl Try.underlying24 INF28.out rfl (by decide) (by decide) (.slice AB k cB) r.b [s] _ _ _ tt (fun q => tt q ∧ some q ≠ (Value.slice AB k cB).ownBlock) rfl rfl HS.out.rB (bs_reads HM.out) (fun x c h => M_ne h HS.out.rB) (fun q h => ⟨trivial, h.2⟩) (fun _ _ => trivial) HB.out (sz_le HS.out) ?hl11 ?_
          case hl11 => have := HLN.out; simp; omega
          intro v47 w33_11 ho hb hg hat
          have HS' := Aside0.mk (HS.out.growB ho hg hat)
          have HB' := Aside0.mk hb
          have HK' := Aside0.mk (HK.out.trans (KeepR.row hg (fun q e => by obtain ⟨cs, hc⟩ := own_of HS.out.rB q e; exact ⟨cs, 56, hc, .inr (.inr rfl)⟩)))
          clear HS HB HK  hb hg ho hat
          have HS := HS'
          have HB := HB'
          have HK := HK'
          clear HS' HB' HK' 
          show K (Act.put _ (some 47) _) _
          simp only [Act.put, List.setIfInBounds_toArray, List.set_cons_zero, List.set_cons_succ]
          refine hK.out _ _ ⟨(blk_cell HS.out.blk 1).trans rfl, (blk_cell HS.out.blk 2).trans rfl⟩ (fun hHeld => ?_)
          clear hK K
          exact hJ (_, _, _, _) _ ⟨HS.out, HB.out, HK.out⟩
      · rintro ⟨v39, v40, v46, v47⟩ w9 ⟨hS9, hB9, hK9⟩
        obtain ⟨A40, c40, rfl⟩ := Kd.R_slice hS9.rA
        obtain ⟨A47, c47, rfl⟩ := Kd.R_slice hS9.rB
        have HS := Aside0.mk hS9
        have HB := Aside0.mk hB9
        have HK := Aside0.mk hK9
        clear hS9 hB9 hK9
        refine norm_ (a' := ?_) ?_ ?_
        rotate_left
        · simp only [putAll, Act.put, List.setIfInBounds_toArray, List.set_cons_zero, List.set_cons_succ]
          rfl
        refine pure_ (i := 16) (N := some 48) (v := ?_) (a' := ?_) #[true, true, true, true, true, true, true, true, true, true, true, true, true, true, true, true, true, false, false, false, false, false] rfl rfl (by kernel_rfl) (fun _ _ _ h => h) (Or.inl ⟨by rfl, ?_⟩) ?_ ?_
        rotate_left
        · intro w'
          go_simp
          with_reducible rfl
        rotate_left
        · simp only [Act.put, List.setIfInBounds_toArray, List.set_cons_zero, List.set_cons_succ]
          rfl
        refine pure_ (i := 17) (N := some 49) (v := ?_) (a' := ?_) #[true, true, true, true, true, true, true, true, true, true, true, true, true, true, true, true, true, true, false, false, false, false] rfl rfl (by kernel_rfl) (fun _ _ _ h => h) (Or.inl ⟨by rfl, ?_⟩) ?_ ?_
        rotate_left
        · intro w'
          go_simp
          with_reducible rfl
        rotate_left
        · simp only [Act.put, List.setIfInBounds_toArray, List.set_cons_zero, List.set_cons_succ]
          rfl
        refine last_ (i := 18) (N := none) #[true, true, true, true, true, true, true, true, true, true, true, true, true, true, true, true, true, true, true, false, false, false] rfl rfl (by kernel_rfl) (by decide) (fun K hK => ?_)
        refine skip_ (by rfl) rfl (exec_stA (x := .tmp 49) (v := .tmp 40) rfl (by kernel_rfl) rfl rfl ((blk_cell HS.out.blk 1).trans rfl) (blk_frozen HS.out.blk 1)) ?_
        have HS' := Aside0.mk (HS.out.put 1 (.slice A40 (r.at_ ++ [i]).length c40))
        have HB' := Aside0.mk (HB.out.setCell (p := ⟨g, 1, none⟩) HS.out.ge (.slice A40 (r.at_ ++ [i]).length c40))
        have HK' := Aside0.mk (HK.out.set HS.out.blk (j := 1) (.slice A40 (r.at_ ++ [i]).length c40))
        clear HS HB HK
        have HS := HS'
        have HB := HB'
        have HK := HK'
        clear HS' HB' HK'
        refine hK.out _ _ ?_
        clear hK K
        refine pure_ (i := 19) (N := some 50) (v := ?_) (a' := ?_) #[true, true, true, true, true, true, true, true, true, true, true, true, true, true, true, true, true, true, true, true, false, false] rfl rfl (by kernel_rfl) (fun _ _ _ h => h) (Or.inl ⟨by rfl, ?_⟩) ?_ ?_
        rotate_left
        · intro w'
          go_simp
          with_reducible rfl
        rotate_left
        · simp only [Act.put, List.setIfInBounds_toArray, List.set_cons_zero, List.set_cons_succ]
          rfl
        refine pure_ (i := 20) (N := some 51) (v := ?_) (a' := ?_) #[true, true, true, true, true, true, true, true, true, true, true, true, true, true, true, true, true, true, true, true, true, false] rfl rfl (by kernel_rfl) (fun _ _ _ h => h) (Or.inl ⟨by rfl, ?_⟩) ?_ ?_
        rotate_left
        · intro w'
          go_simp
          with_reducible rfl
        rotate_left
        · simp only [Act.put, List.setIfInBounds_toArray, List.set_cons_zero, List.set_cons_succ]
          rfl
        refine last_ (i := 21) (N := none) #[true, true, true, true, true, true, true, true, true, true, true, true, true, true, true, true, true, true, true, true, true, true] rfl rfl (by kernel_rfl) (by decide) (fun K hK => ?_)
        refine skip_ (by rfl) rfl (exec_stA (x := .tmp 51) (v := .tmp 47) rfl (by kernel_rfl) rfl rfl ((blk_cell HS.out.blk 2).trans rfl) (blk_frozen HS.out.blk 2)) ?_
        have HS' := Aside0.mk (HS.out.put 2 (.slice A47 (r.b ++ [s]).length c47))
        have HB' := Aside0.mk (HB.out.setCell (p := ⟨g, 2, none⟩) HS.out.ge (.slice A47 (r.b ++ [s]).length c47))
        have HK' := Aside0.mk (HK.out.set HS.out.blk (j := 2) (.slice A47 (r.b ++ [s]).length c47))
        clear HS HB HK
        have HS := HS'
        have HB := HB'
        have HK := HK'
        clear HS' HB' HK'
        refine hK.out _ _ ?_
        clear hK K
        refine done_ (by kernel_rfl) ?_
        go_wp2
        go_end0
        have e : setR r i s = { r with at_ := r.at_ ++ [i], b := r.b ++ [s] } := by
          unfold setR
          rw [hno.out]
        rw [e]
        have HSf := HS.out
        have HBf := HB.out
        have HKf := HK.out
        simp only [List.length_append, List.length_cons, List.length_nil, Nat.zero_add] at HSf HBf HKf
        exact ⟨rfl, ⟨_, _, _, _, St.at_ (r := { r with at_ := r.at_ ++ [i], b := r.b ++ [s] }) HSf⟩, HBf, HKf⟩
end Go.Proofs.Ytmghgghheebnjaa.Dis
namespace Go.Proofs.Ytmghgghheebnjaa.Dis
open Go.RowKit Go.Proofs.YtmghgghheebnjaaW.PrintWords Go.Proofs.YtmghgghheebnjaaW.PrintLast Go.Proofs.YtmghgghheebnjaaW.PrintMore Go.Maps
set_option linter.unusedVariables false
set_option linter.unusedSimpArgs false
def writeR (r : Rf) (i : Int) (b : List Int) : Rf × Int :=
  if (callR r).2 = false then ((callR r).1, 190) else if i < 0 then ((callR r).1, 1) else if (callR r).1.n ≤ i then ((callR r).1, 8) else if 512 < b.length then ((callR r).1, 2)
  else ({ (callR r).1 with to_ := (callR r).1.to_ ++ [i], ws := (callR r).1.ws ++ [pad b] }, 0)
theorem callR_same (r : Rf) : (callR r).1.n = r.n ∧ (callR r).1.at_ = r.at_ ∧ (callR r).1.b = r.b ∧ (callR r).1.to_ = r.to_ ∧ (callR r).1.ws = r.ws ∧ (callR r).1.left = r.left - 1 ∧ (callR r).1.armed = r.armed := by
  unfold callR
  split <;> exact ⟨rfl, rfl, rfl, rfl, rfl, rfl, rfl⟩
end Go.Proofs.Ytmghgghheebnjaa.Dis
namespace Go.Proofs.Ytmghgghheebnjaa.Dis
open Go.RowKit Go.Proofs.YtmghgghheebnjaaW.PrintWords Go.Proofs.YtmghgghheebnjaaW.PrintLast Go.Proofs.YtmghgghheebnjaaW.PrintMore Go.Maps
set_option linter.unusedVariables false
set_option linter.unusedSimpArgs false
def rfast (r : Rf) (i : Int) : List Int := match r.at_.findIdx? (· == i) with
  | some k => r.b.getD k []
  | none => zeros
def bytesR (r : Rf) (i : Int) : List Int := if i < 0 ∨ r.n ≤ i then [] else rfast r i
set_option maxHeartbeats 4000000 in
theorem rbytes_calls (base g : Nat) (r : Rf) (i : Int) (W : World) (h : IsRf base W g r) (hn : r.at_.length = r.b.length) (hlen : r.at_.length ≤ 1000000) :
    Calls Try.prog 61 #[.pointer (some ⟨g, 0, none⟩), .int .i64 i] W fun e w' => ∃ v, e = .returned v ∧ Kd.R (Kd.int .u8) 5 w' base tt v (bytesR r i) ∧ Below W.heap.size W w' := by
  have info5 : (Try.prog.info? 5).map (fun i => (i.zero, i.size, i.bytes)) = some (some (.int .u8 0), 1, 1) := by kernel_rfl
  have INF := Aside0.mk info5
  clear info5
  obtain ⟨vA, vB, vT, vW, h⟩ := h
  obtain ⟨AA, cA, rfl⟩ := Kd.R_slice h.rA
  obtain ⟨AB, cB, rfl⟩ := Kd.R_slice h.rB
  have c0 : W.cell? ⟨g, 0, none⟩ = some (.int .i64 r.n) := (blk_cell h.blk 0).trans rfl
  have c1 : W.cell? ⟨g, 1, none⟩ = some (.slice AA r.at_.length cA) := (blk_cell h.blk 1).trans rfl
  have c2 : W.cell? ⟨g, 2, none⟩ = some (.slice AB r.b.length cB) := (blk_cell h.blk 2).trans rfl
  obtain ⟨n, hnn⟩ : ∃ n, n = r.at_.length := ⟨_, rfl⟩
  have hnb : r.b.length = n := by omega
  have HH := Aside0.mk h
  rw [← hnn] at c1
  rw [hnb] at c2
  have HNA := Aside0.mk hnn
  have HNB := Aside0.mk hnb
  have hn6 : n ≤ 1000000 := by omega
  have HSZ := Aside0.mk (sz_le h.st)
  clear h hlen hn hnn hnb
  unfold bytesR
  by_cases h1 : i < 0
  · rw [if_pos (.inl h1)]
    have e1 : decide (i < 0) = true := decide_eq_true h1
    go_enter Try.func61, Try.ntmps61
    go_wp2
    go_ret
    exact ⟨_, rfl, Kd.R_nil _ _ _ _ _, Below.refl _ _⟩
  · by_cases h2 : r.n ≤ i
    · rw [if_pos (.inr h2)]
      have e1 : decide (i < 0) = false := decide_eq_false h1
      have e2 : decide (r.n ≤ i) = true := decide_eq_true h2
      go_enter Try.func61, Try.ntmps61
      go_wp2
      go_ret
      exact ⟨_, rfl, Kd.R_nil _ _ _ _ _, Below.refl _ _⟩
    · rw [if_neg (by omega)]
      have e1 : decide (i < 0) = false := decide_eq_false h1
      have e2 : decide (r.n ≤ i) = false := decide_eq_false h2
      go_enter Try.func61, Try.ntmps61
      go_wp2_with fail
      go_loopw [5] (fun x wr => ∃ k : Nat, k ≤ n ∧ x = .int .i64 k ∧ wr = W ∧ Aside0 (∀ j, j < k → rd r.at_ (j : Int) ≠ i)) (fun x _ => n - (intOf x).toNat)
      case atStart => exact ⟨0, Nat.zero_le _, rfl, rfl, ⟨fun j hj => absurd hj (Nat.not_lt_zero _)⟩⟩
      case round =>
        obtain ⟨k, hk, rfl, hwr, HF⟩ := hrel
        subst hwr
        by_cases hlt : k < n
        · have e1 : decide ((k : Int) < n) = true := decide_eq_true (by omega)
          have e2 : decide (k < n) = true := decide_eq_true hlt
          obtain ⟨ad, hA, cel⟩ := Kd.at_int (C_ofR HH.out.rA) (k : Int) (by omega) (by rw [← HNA.out]; omega)
          subst hA
          simp only [Int.toNat_natCast] at cel
          obtain ⟨gb, Ak, ck, hB2, hgb, hcs, cbk, hRk⟩ := bs_at HH.out.rB rfl k (by rw [HNB.out]; exact hlt)
          subst hB2
          have HRk := Aside0.mk hRk
          clear hcs hgb hRk
          by_cases hi : rd r.at_ (k : Int) = i
          · rw [hi] at cel
            have e3 : (i == i) = true := by simp
            go_wp2
            go_ret
            refine ⟨_, rfl, ?_, Below.refl _ _⟩
            unfold rfast
            rw [find_at (by rw [← HNA.out]; exact hlt) HF.out hi]
            exact HRk.out
          · have e3 : (rd r.at_ (k : Int) == i) = false := by simp [hi]
            go_wp2
            go_roundw
            case rel => exact ⟨k + 1, by omega, by go_num, by trivial, ⟨fun j hj => by
              by_cases hjk : j = k
              · rw [hjk]; exact hi
              · exact HF.out j (by omega)⟩⟩
            case measure => simp [intOf]; omega
        · obtain rfl : k = n := by omega
          have e1 : decide ((k : Int) < k) = false := decide_eq_false (by omega)
          have hno := Aside0.mk (find_no (l := r.at_) (i := i) (by rw [← HNA.out]; exact HF.out))
          go_wp2_with (first
            | ((with_reducible refine gate_dst (N := 41) rfl ?_); refine Kd.R_make (Kd.int .u8) (w0 := wr) wr.heap.size 5 rfl (N := 41) rfl 56 _ _ rfl 512 rfl rfl Try.underlying56 (.int .u8 0) 1 INF.out rfl (by decide) (by decide) 0 (ok := fun _ => True) (okp := fun _ => True) ?hz (fun _ h => h) trivial (by decide) (by decide) (Below.refl _ _) (Nat.le_refl _) ?_; (case hz => rfl); intro v3 w3 ho hb _ _; have HO := Aside0.mk ho; have HB3 := Aside0.mk hb; clear ho hb))
          go_ret
          refine ⟨_, rfl, ?_, HB3.out⟩
          unfold rfast
          rw [hno.out]
          exact Kd.R_lower HO.out HSZ.out
/-- What stands fast when k writes have been gone through. -/
def keptR (F : Nat → Bool) (r : Rf) : Nat → Rf
  | 0 => r
  | k + 1 => if F k = true then setR (keptR F r k) (r.to_.getD k 0) (r.ws.getD k []) else keptR F r k
def keepsR (r : Rf) (F : Nat → Bool) : Rf := { keptR F r r.to_.length with to_ := [], ws := [] }
theorem setR_same (r : Rf) (i : Int) (s : List Int) : (setR r i s).to_ = r.to_ ∧ (setR r i s).ws = r.ws ∧ (setR r i s).n = r.n ∧ (setR r i s).left = r.left ∧ (setR r i s).armed = r.armed ∧ (setR r i s).dead = r.dead ∧
    (r.at_.length = r.b.length → (setR r i s).at_.length = (setR r i s).b.length) ∧ (setR r i s).at_.length ≤ r.at_.length + 1 := by
  unfold setR
  split
  · exact ⟨rfl, rfl, rfl, rfl, rfl, rfl, fun h => by simp [h], Nat.le_succ _⟩
  · exact ⟨rfl, rfl, rfl, rfl, rfl, rfl, fun h => by simp [h], by simp⟩
theorem keptR_same (F : Nat → Bool) (r : Rf) : ∀ k, (keptR F r k).to_ = r.to_ ∧ (keptR F r k).ws = r.ws ∧ (keptR F r k).n = r.n ∧ (keptR F r k).left = r.left ∧ (keptR F r k).armed = r.armed ∧ (keptR F r k).dead = r.dead ∧
    (r.at_.length = r.b.length → (keptR F r k).at_.length = (keptR F r k).b.length) ∧ (keptR F r k).at_.length ≤ r.at_.length + k
  | 0 => ⟨rfl, rfl, rfl, rfl, rfl, rfl, fun h => h, Nat.le_refl _⟩
  | k + 1 => by
    obtain ⟨h1, h2, h3, h4, h5, h6, h7, h8⟩ := keptR_same F r k
    unfold keptR
    by_cases hF : F k = true
    · rw [if_pos hF]
      obtain ⟨g1, g2, g3, g4, g5, g6, g7, g8⟩ := setR_same (keptR F r k) (r.to_.getD k 0) (r.ws.getD k [])
      exact ⟨g1.trans h1, g2.trans h2, g3.trans h3, g4.trans h4, g5.trans h5, g6.trans h6, fun h => g7 (h7 h), by omega⟩
    · rw [if_neg hF]
      exact ⟨h1, h2, h3, h4, h5, h6, h7, by omega⟩
theorem St.nilT {base g : Nat} {w : World} {c : Array Value} {xA xB xT xW : Value} {lA lT : List Int} {lB lW : List (List Int)} (h : St base w g c xA lA xB lB xT lT xW lW) : St base w g c xA lA xB lB (.slice none 0 0) [] (.slice none 0 0) [] :=
  ⟨h.blk, h.ge, h.rA, h.rB, Kd.R_nil _ _ _ _ _, Kd.R_nil _ _ _ _ _, fun k _ e => by simp [Value.ownBlock] at e, fun k _ e => by simp [Value.ownBlock] at e⟩
set_option maxHeartbeats 4000000 in
set_option maxRecDepth 100000 in
theorem rkeeps_calls (base g : Nat) (r : Rf) (w W : World) (h : IsRf base W g r) (hB : Below base w W) (hn : r.at_.length = r.b.length) (ht : r.to_.length = r.ws.length) (hlen : r.at_.length + r.to_.length ≤ 1000000)
    (Ak : Option Addr) (ck : Nat) (l : List Bool) (hl : ∀ W', KeepR W W' → Below base w W' → Kd.C Kd.bool W' Ak l.length l) (hll : l.length ≤ 9223372036854775807) :
    Calls Try.prog 62 #[.pointer (some ⟨g, 0, none⟩), .slice Ak l.length ck] W fun e w' => e = .returned (.tuple #[]) ∧ IsRf base w' g (keepsR r (kept l)) ∧ Below base w w' ∧ KeepR W w' := by
  have HH := Aside0.mk h
  have HBB := Aside0.mk hB
  have HL := Aside0.mk hl
  have HN := Aside0.mk (And.intro hn (And.intro ht hlen))
  obtain ⟨n, hnn⟩ : ∃ n, n = r.to_.length := ⟨_, rfl⟩
  have HNN := Aside0.mk hnn
  have hn6 : n ≤ 1000000 := by omega
  obtain ⟨m, hm⟩ : ∃ m, m = l.length := ⟨_, rfl⟩
  rw [← hm] at hll ⊢
  have HM := Aside0.mk hm
  clear h hB hl hn ht hlen hnn hm
  go_enter Try.func62, Try.ntmps62
  go_wp2_with fail
  go_loopw [4] (fun x wr => ∃ k : Nat, k ≤ n ∧ x = .int .i64 k ∧ Aside0 (IsRf base wr g (keptR (kept l) r k)) ∧ Aside0 (Below base w wr) ∧ Aside0 (KeepR W wr)) (fun x _ => n - (intOf x).toNat)
  case atStart => exact ⟨0, Nat.zero_le _, rfl, HH, HBB, ⟨KeepR.refl W⟩⟩
  case round =>
    obtain ⟨k, hk, rfl, HDk, HBk, HKk⟩ := hrel
    obtain ⟨q1, q2, q3, q4, q5, q6, q7, q8⟩ := keptR_same (kept l) r k
    obtain ⟨rk, hrk⟩ : ∃ rk, rk = keptR (kept l) r k := ⟨_, rfl⟩
    rw [← hrk] at HDk q1 q2 q7 q8
    have HRK := Aside0.mk hrk
    have HQ := Aside0.mk (And.intro q1 (And.intro q2 (And.intro (q7 HN.out.1) q8)))
    clear q1 q2 q3 q4 q5 q6 q7 q8 hrk
    obtain ⟨vA, vB, vT, vW, h⟩ := HDk.out
    obtain ⟨AT, cT, rfl⟩ := Kd.R_slice h.rT
    obtain ⟨AW, cW, rfl⟩ := Kd.R_slice h.rW
    have hTn : rk.to_.length = n := by rw [HQ.out.1]; exact HNN.out.symm
    have hWn : rk.ws.length = n := by rw [HQ.out.2.1, ← HN.out.2.1]; exact HNN.out.symm
    have c3 : wr.cell? ⟨g, 3, none⟩ = some (.slice AT n cT) := (blk_cell h.blk 3).trans (by rw [← hTn]; rfl)
    have c4 : wr.cell? ⟨g, 4, none⟩ = some (.slice AW n cW) := (blk_cell h.blk 4).trans (by rw [← hWn]; rfl)
    have f3 := blk_frozen h.blk 3
    have f4 := blk_frozen h.blk 4
    have HS := Aside0.mk h
    have HTW := Aside0.mk (And.intro hTn hWn)
    clear h hTn hWn
    by_cases hlt : k < n
    · have e1 : decide ((k : Int) < n) = true := decide_eq_true (by omega)
      have e2 : decide (k < n) = true := decide_eq_true hlt
      by_cases hkm : k < m
      · have e3 : decide ((k : Int) < m) = true := decide_eq_true (by omega)
        have e4 : decide (k < m) = true := decide_eq_true hkm
        obtain ⟨adk, hAk, celk⟩ := Kd.at_bool (HL.out wr HKk.out HBk.out) (k : Int) (by omega) (by rw [← HM.out]; omega)
        subst hAk
        simp only [Int.toNat_natCast] at celk
        obtain ⟨bk, hbk⟩ : ∃ bk, bk = rdOf false l (k : Int) := ⟨_, rfl⟩
        rw [← hbk] at celk
        have hkp : kept l k = bk := by
          rw [hbk]
          unfold kept rdOf
          simp [List.getD_eq_getElem?_getD, List.getElem?_eq_getElem (show k < l.length by rw [← HM.out]; exact hkm)]
        have HKP := Aside0.mk hkp
        clear hbk hkp
        cases bk with
        | false =>
          go_wp2
          go_roundw
          case rel => exact ⟨k + 1, by omega, by go_num, ⟨by unfold keptR; rw [if_neg (by rw [HKP.out]; decide), ← HRK.out]; exact HDk.out⟩, HBk, HKk⟩
          case measure => simp [intOf]; omega
        | true =>
          obtain ⟨adT, hAT, celT⟩ := Kd.at_int (C_ofR HS.out.rT) (k : Int) (by omega) (by rw [HTW.out.1]; omega)
          subst hAT
          simp only [Int.toNat_natCast] at celT
          obtain ⟨gb, Aw, cw, hB2, hgb, hcs, cbk, hRk⟩ := bs_at HS.out.rW rfl k (by rw [HTW.out.2]; exact hlt)
          subst hB2
          have HRk := Aside0.mk hRk
          clear hcs hgb hRk
          obtain ⟨ti, hti⟩ : ∃ ti, ti = rd rk.to_ (k : Int) := ⟨_, rfl⟩
          rw [← hti] at celT
          obtain ⟨ts, hts⟩ : ∃ ts, ts = rk.ws.getD k [] := ⟨_, rfl⟩
          rw [← hts] at HRk cbk
          have HTI := Aside0.mk (And.intro hti hts)
          clear hti hts
          go_upto_region 4 with fail
          refine start_ (n := 16) (S := fun w' => w'.cell? ⟨g, 3, none⟩ = some (.slice (some adT) n cT) ∧ w'.cell? ⟨g, 4, none⟩ = some (.slice (some ⟨gb, 0, none⟩) n cW) ∧ w'.cell? (adT.add k) = some (.int .i64 ti) ∧ w'.cell? ⟨gb, k, none⟩ = some (.slice Aw ts.length cw)) (ds := [15]) #[false, false, false, false, false, false, false, false, false, false, false, false, false, false, false, false] (by kernel_rfl) rfl rfl ⟨c3, c4, celT, cbk⟩ (fun hHeld => ?_)
          refine pure_ (i := 0) (N := some 24) (v := ?_) (a' := ?_) #[true, false, false, false, false, false, false, false, false, false, false, false, false, false, false, false] rfl rfl (by kernel_rfl) (fun _ _ _ h => h) (Or.inl ⟨by rfl, ?_⟩) ?_ ?_
          rotate_left
          · intro w'
            go_simp
            with_reducible rfl
          rotate_left
          · simp only [Act.put, List.setIfInBounds_toArray, List.set_cons_zero, List.set_cons_succ]
            rfl
          refine pure_ (i := 1) (N := some 25) (v := ?_) (a' := ?_) #[true, true, false, false, false, false, false, false, false, false, false, false, false, false, false, false] rfl rfl (by kernel_rfl) (fun _ _ _ h => h) (Or.inl ⟨by rfl, ?_⟩) ?_ ?_
          rotate_left
          · intro w'
            go_simp
            with_reducible rfl
          rotate_left
          · simp only [Act.put, List.setIfInBounds_toArray, List.set_cons_zero, List.set_cons_succ]
            rfl
          refine pure_ (i := 2) (N := some 26) (v := ?_) (a' := ?_) #[true, true, true, false, false, false, false, false, false, false, false, false, false, false, false, false] rfl rfl (by kernel_rfl) (fun _ _ _ h => h) (Or.inl ⟨by rfl, ?_⟩) ?_ ?_
          rotate_left
          · intro w'
            go_simp
            with_reducible rfl
          rotate_left
          · simp only [Act.put, List.setIfInBounds_toArray, List.set_cons_zero, List.set_cons_succ]
            rfl
          refine pure_ (i := 3) (N := some 27) (v := ?_) (a' := ?_) #[true, true, true, true, false, false, false, false, false, false, false, false, false, false, false, false] rfl rfl (by kernel_rfl) (fun _ _ _ h => h) (Or.inl ⟨by rfl, ?_⟩) ?_ ?_
          rotate_left
          · intro w'
            go_simp
            with_reducible rfl
          rotate_left
          · simp only [Act.put, List.setIfInBounds_toArray, List.set_cons_zero, List.set_cons_succ]
            rfl
          refine take_ (i := 4) (N := some 28) (v := ?_) (a' := ?_) #[true, true, true, true, true, false, false, false, false, false, false, false, false, false, false, false] rfl rfl (by kernel_rfl) (fun _ _ _ h => h) (Or.inl ⟨by rfl, ?_⟩) hHeld ?_ ?_
          rotate_left
          · rintro w' ⟨s0, s1⟩
            obtain ⟨s1, s2, s3⟩ := s1
            go_simp
            with_reducible rfl
          rotate_left
          · simp only [Act.put, List.setIfInBounds_toArray, List.set_cons_zero, List.set_cons_succ]
            rfl
          refine pure_ (i := 5) (N := some 29) (v := ?_) (a' := ?_) #[true, true, true, true, true, true, false, false, false, false, false, false, false, false, false, false] rfl rfl (by kernel_rfl) (fun _ _ _ h => h) (Or.inl ⟨by rfl, ?_⟩) ?_ ?_
          rotate_left
          · intro w'
            go_simp
            with_reducible rfl
          rotate_left
          · simp only [Act.put, List.setIfInBounds_toArray, List.set_cons_zero, List.set_cons_succ]
            rfl
          refine pure_ (i := 6) (N := some 30) (v := .pointer (some (adT.add k))) (a' := ?_) #[true, true, true, true, true, true, true, false, false, false, false, false, false, false, false, false] rfl rfl (by kernel_rfl) (fun _ _ _ h => h) (Or.inl ⟨by rfl, ?_⟩) ?_ ?_
          · intro w'
            have hi_ : (k : Int) < n := by omega
            go_simp
          rotate_left
          · simp only [Act.put, List.setIfInBounds_toArray, List.set_cons_zero, List.set_cons_succ]
            rfl
          refine take_ (i := 7) (N := some 31) (v := ?_) (a' := ?_) #[true, true, true, true, true, true, true, true, false, false, false, false, false, false, false, false] rfl rfl (by kernel_rfl) (fun _ _ _ h => h) (Or.inl ⟨by rfl, ?_⟩) hHeld ?_ ?_
          rotate_left
          · rintro w' ⟨s0, s1⟩
            obtain ⟨s1, s2, s3⟩ := s1
            go_simp
            with_reducible rfl
          rotate_left
          · simp only [Act.put, List.setIfInBounds_toArray, List.set_cons_zero, List.set_cons_succ]
            rfl
          refine pure_ (i := 8) (N := some 32) (v := ?_) (a' := ?_) #[true, true, true, true, true, true, true, true, true, false, false, false, false, false, false, false] rfl rfl (by kernel_rfl) (fun _ _ _ h => h) (Or.inl ⟨by rfl, ?_⟩) ?_ ?_
          rotate_left
          · intro w'
            go_simp
            with_reducible rfl
          rotate_left
          · simp only [Act.put, List.setIfInBounds_toArray, List.set_cons_zero, List.set_cons_succ]
            rfl
          refine pure_ (i := 9) (N := some 33) (v := ?_) (a' := ?_) #[true, true, true, true, true, true, true, true, true, true, false, false, false, false, false, false] rfl rfl (by kernel_rfl) (fun _ _ _ h => h) (Or.inl ⟨by rfl, ?_⟩) ?_ ?_
          rotate_left
          · intro w'
            go_simp
            with_reducible rfl
          rotate_left
          · simp only [Act.put, List.setIfInBounds_toArray, List.set_cons_zero, List.set_cons_succ]
            rfl
          refine pure_ (i := 10) (N := some 34) (v := ?_) (a' := ?_) #[true, true, true, true, true, true, true, true, true, true, true, false, false, false, false, false] rfl rfl (by kernel_rfl) (fun _ _ _ h => h) (Or.inl ⟨by rfl, ?_⟩) ?_ ?_
          rotate_left
          · intro w'
            go_simp
            with_reducible rfl
          rotate_left
          · simp only [Act.put, List.setIfInBounds_toArray, List.set_cons_zero, List.set_cons_succ]
            rfl
          refine take_ (i := 11) (N := some 35) (v := ?_) (a' := ?_) #[true, true, true, true, true, true, true, true, true, true, true, true, false, false, false, false] rfl rfl (by kernel_rfl) (fun _ _ _ h => h) (Or.inl ⟨by rfl, ?_⟩) hHeld ?_ ?_
          rotate_left
          · rintro w' ⟨s0, s1⟩
            obtain ⟨s1, s2, s3⟩ := s1
            go_simp
            with_reducible rfl
          rotate_left
          · simp only [Act.put, List.setIfInBounds_toArray, List.set_cons_zero, List.set_cons_succ]
            rfl
          refine pure_ (i := 12) (N := some 36) (v := ?_) (a' := ?_) #[true, true, true, true, true, true, true, true, true, true, true, true, true, false, false, false] rfl rfl (by kernel_rfl) (fun _ _ _ h => h) (Or.inl ⟨by rfl, ?_⟩) ?_ ?_
          rotate_left
          · intro w'
            go_simp
            with_reducible rfl
          rotate_left
          · simp only [Act.put, List.setIfInBounds_toArray, List.set_cons_zero, List.set_cons_succ]
            rfl
          refine pure_ (i := 13) (N := some 37) (v := .pointer (some ⟨gb, k, none⟩)) (a' := ?_) #[true, true, true, true, true, true, true, true, true, true, true, true, true, true, false, false] rfl rfl (by kernel_rfl) (fun _ _ _ h => h) (Or.inl ⟨by rfl, ?_⟩) ?_ ?_
          · intro w'
            have hi_ : (k : Int) < n := by omega
            go_simp
          rotate_left
          · simp only [Act.put, List.setIfInBounds_toArray, List.set_cons_zero, List.set_cons_succ]
            rfl
          refine take_ (i := 14) (N := some 38) (v := ?_) (a' := ?_) #[true, true, true, true, true, true, true, true, true, true, true, true, true, true, true, false] rfl rfl (by kernel_rfl) (fun _ _ _ h => h) (Or.inl ⟨by rfl, ?_⟩) hHeld ?_ ?_
          rotate_left
          · rintro w' ⟨s0, s1⟩
            obtain ⟨s1, s2, s3⟩ := s1
            go_simp
            with_reducible rfl
          rotate_left
          · simp only [Act.put, List.setIfInBounds_toArray, List.set_cons_zero, List.set_cons_succ]
            rfl
          refine last_ (i := 15) (N := some 39) #[true, true, true, true, true, true, true, true, true, true, true, true, true, true, true, true] rfl rfl (by kernel_rfl) (by decide) (fun K hK => ?_)
          refine goes_ Try.func74 (by kernel_rfl) rfl #[.pointer (some ⟨g, 0, none⟩), .int .i64 ti, .slice Aw ts.length cw] (by rfl) rfl rfl (by (try simp only [List.map_toArray, List.map_cons, List.map_nil]); first | done | rfl) ?_
          refine (set_calls base g rk ti Aw cw ts w _ (HDk.out.below (below_drew (Below.refl _ _))) (below_drew HBk.out) (Kd.R_drew HRk.out) HQ.out.2.2.1 (by have h1 := HQ.out.2.2.2; have h2 := HN.out.2.2; have h3 := HNN.out; omega)).mono ?_
          rintro e w5 ⟨rfl, h4, h5, h6⟩
          refine ⟨_, rfl, ?_⟩
          have HD5 := Aside0.mk h4
          have HB5 := Aside0.mk h5
          have HK5 := Aside0.mk (HKk.out.trans ((KeepR.of_below (below_drew (Below.refl _ _))).trans h6))
          clear h4 h5 h6
          refine hK.out _ _ ?_
          clear hK K
          refine done_ (by kernel_rfl) ?_
          go_wp2
          go_roundw
          case rel => exact ⟨k + 1, by omega, by go_num, ⟨by
            unfold keptR
            rw [if_pos HKP.out, ← HRK.out, show r.to_.getD k 0 = ti by rw [HTI.out.1, ← HQ.out.1]; rfl, show r.ws.getD k [] = ts by rw [HTI.out.2, ← HQ.out.2.1]]
            exact HD5.out⟩, HB5, HK5⟩
          case measure => simp [intOf]; omega
      · have e3 : decide ((k : Int) < m) = false := decide_eq_false (by omega)
        have hkp : kept l k = false := by
          unfold kept
          simp [show ¬ k < l.length by rw [← HM.out]; exact hkm]
        go_wp2
        go_roundw
        case rel => exact ⟨k + 1, by omega, by go_num, ⟨by unfold keptR; rw [if_neg (by rw [hkp]; decide), ← HRK.out]; exact HDk.out⟩, HBk, HKk⟩
        case measure => simp [intOf]; omega
    · obtain rfl : k = n := by omega
      have e1 : decide ((k : Int) < k) = false := decide_eq_false (by omega)
      go_wp2
      go_end0
      have hp := (HS.out.st.nilT.put 3 (.slice none 0 0)).put 4 (.slice none 0 0)
      have e : keepsR r (kept l) = { rk with to_ := [], ws := [] } := by unfold keepsR; rw [← HNN.out, ← HRK.out]
      rw [e]
      exact ⟨rfl, ⟨_, _, _, _, St.at_ (r := { rk with to_ := [], ws := [] }) hp⟩, (HBk.out.setCell HS.out.ge _).setCell HS.out.ge _, (HKk.out.set HS.out.blk _).set (HS.out.st.put 3 (.slice none 0 0)).blk _⟩
end Go.Proofs.Ytmghgghheebnjaa.Dis
namespace Go.Proofs.Ytmghgghheebnjaa.Dis
open Go.RowKit Go.Proofs.YtmghgghheebnjaaW.PrintWords Go.Proofs.YtmghgghheebnjaaW.PrintLast Go.Proofs.YtmghgghheebnjaaW.PrintMore Go.Maps
set_option linter.unusedVariables false
set_option linter.unusedSimpArgs false
theorem toCell {base g : Nat} {w : World} {r : Rf} (h : IsRf base w g r) : ∃ AT cT, w.cell? ⟨g, 3, none⟩ = some (.slice AT r.to_.length cT) := by
  obtain ⟨_, _, vT, _, h⟩ := h
  obtain ⟨AT, cT, rfl⟩ := Kd.R_slice h.rT
  exact ⟨AT, cT, (blk_cell h.blk 3).trans rfl⟩
theorem keptR_congr (F G : Nat → Bool) (r : Rf) : ∀ k, (∀ j, j < k → F j = G j) → keptR F r k = keptR G r k
  | 0, _ => rfl
  | k + 1, h => by
    unfold keptR
    rw [keptR_congr F G r k (fun j hj => h j (by omega)), h k (by omega)]
def flushR (r : Rf) : Rf × Int := if (callR r).2 = false then ((callR r).1, 190) else (keepsR (callR r).1 (fun _ => true), 0)
def crashR (r : Rf) (l : List Bool) : Rf := { keepsR r (kept l) with armed := false, dead := false }
theorem IsRf.setNew {base g g4 j : Nat} {w : World} {r : Rf} {u : Value} (h : IsRf base w g r) (hc : ∃ cs, w.heap[g4]? = some (.cells cs 4 (0, 0))) : IsRf base (w.setCell ⟨g4, j, none⟩ u) g r := by
  obtain ⟨vA, vB, vT, vW, h⟩ := h
  obtain ⟨cs4, h4⟩ := hc
  exact ⟨vA, vB, vT, vW, h.kept (fun k cs q hq hk => (Below.heap_setCell w ⟨g4, j, none⟩ u k (fun e => by
    have e' : k = g4 := e
    rw [e', h4] at hk
    injection hk with hk
    injection hk with _ ht
    have h5 : (4 : Nat) = q := ht
    omega)).trans hk)⟩
theorem KeepR.setNew {w w' : World} {g4 j : Nat} {u : Value} (h : KeepR w w') (hg : w.heap.size ≤ g4) : KeepR w (w'.setCell ⟨g4, j, none⟩ u) :=
  ⟨by simpa [World.setCell] using h.1, fun i o hi ho => (Below.heap_setCell w' ⟨g4, j, none⟩ u i (fun e => by
    have e' : i = g4 := e
    rcases Nat.lt_or_ge i w.heap.size with h' | h'
    · omega
    · rw [Array.getElem?_eq_none h'] at hi; cases hi)).trans (h.2 i o hi ho)⟩
theorem brow_put {W : World} {base g n c : Nat} {xs : List Bool} (h : Kd.bool.R 4 W base tt (.slice (some ⟨g, 0, none⟩) n c) xs) (hn : xs.length = n) (k : Nat) (x : Bool) : Kd.bool.R 4 (W.setCell ⟨g, k, none⟩ (.bool x)) base tt (.slice (some ⟨g, 0, none⟩) n c) (xs.set k x) := by
  subst hn
  exact (Kd.R_put h (k : Int) x).1
theorem brow_cell {W : World} {base g n c : Nat} {xs : List Bool} (h : Kd.bool.R 4 W base tt (.slice (some ⟨g, 0, none⟩) n c) xs) (hn : xs.length = n) (k : Nat) (hk : k < n) : (∃ x, W.cell? ⟨g, k, none⟩ = some (.bool x)) ∧ W.frozen? ⟨g, k, none⟩ = false := by
  subst hn
  have := Kd.R_cell false h (k : Int) (by omega) (by omega)
  exact ⟨⟨_, this.1⟩, this.2⟩
theorem brow_keep {W W' : World} {b0 : Nat} {A : Option Addr} {n c : Nat} {xs : List Bool} (h : Kd.bool.R 4 W b0 tt (.slice A n c) xs) (hk : KeepR W W') : Kd.C Kd.bool W' A n xs :=
  C_ofR (R_kept h (fun k cs q hq hc => by
    have hq' : q = 4 := by simpa [Kd.bool, Kd.scalar] using hq
    subst hq'
    exact hk.cells hc (by decide) (by decide) (by decide)))
set_option maxHeartbeats 4000000 in
set_option maxRecDepth 100000 in
theorem rflush_calls (base g : Nat) (r : Rf) (w W : World) (h : IsRf base W g r) (hB : Below base w W) (hl : -9223372036854775808 < r.left ∧ r.left ≤ 9223372036854775807) (hn : r.at_.length = r.b.length) (ht : r.to_.length = r.ws.length) (hlen : r.at_.length + r.to_.length ≤ 1000000) :
    Calls Try.prog 60 #[.pointer (some ⟨g, 0, none⟩)] W fun e w' => e = .returned (.int .i64 (flushR r).2) ∧ IsRf base w' g (flushR r).1 ∧ Below base w w' ∧ KeepR W w' := by
  have info4 : (Try.prog.info? 4).map (fun i => (i.zero, i.size, i.bytes)) = some (some (.bool false), 1, 1) := by kernel_rfl
  have INB := Aside0.mk info4
  clear info4
  have HCL := Aside0.mk (rcall_calls base g r w W h hB hl)
  obtain ⟨hn1, ha1, hb1, ht1, hw1, _, _⟩ := callR_same r
  have HN := Aside0.mk (show (callR r).1.at_.length = (callR r).1.b.length ∧ (callR r).1.to_.length = (callR r).1.ws.length ∧ (callR r).1.at_.length + (callR r).1.to_.length ≤ 1000000 by rw [ha1, hb1, ht1, hw1]; exact ⟨hn, ht, hlen⟩)
  clear h hB hl hn ht hlen hn1 ha1 hb1 ht1 hw1
  unfold flushR
  obtain ⟨ok, hok⟩ : ∃ ok, ok = (callR r).2 := ⟨_, rfl⟩
  obtain ⟨r1, hr1⟩ : ∃ r1, r1 = (callR r).1 := ⟨_, rfl⟩
  rw [← hok, ← hr1] at HCL ⊢
  rw [← hr1] at HN
  clear hok hr1
  cases ok with
  | false =>
    rw [if_pos rfl]
    go_enter Try.func60, Try.ntmps60
    go_wp2_with (first
      | (go_at_call 72; refine HCL.out.mono ?_; rintro e w2 ⟨rfl, h4, h5, h6⟩; have HD2 := Aside0.mk h4; have HB2 := Aside0.mk h5; have HK2 := Aside0.mk h6; have cn : w2.cell? ⟨g, 0, none⟩ = some (.int .i64 r1.n) := (by obtain ⟨_, _, _, _, h7⟩ := h4; exact (blk_cell h7.blk 0).trans rfl); clear h4 h5 h6))
    go_ret
    exact ⟨rfl, HD2.out, HB2.out, HK2.out⟩
  | true =>
    rw [if_neg (by simp)]
    obtain ⟨n, hnn⟩ : ∃ n, n = r1.to_.length := ⟨_, rfl⟩
    have hn6 : n ≤ 1000000 := by have := HN.out.2.2; omega
    have HNN := Aside0.mk hnn
    clear hnn
    go_enter Try.func60, Try.ntmps60
    go_upto_block 0 with (first
      | (go_at_call 72; refine HCL.out.mono ?_; rintro e w2 ⟨rfl, h4, h5, h6⟩; have HD2 := Aside0.mk h4; have HB2 := Aside0.mk h5; have HK2 := Aside0.mk h6; obtain ⟨AT, cT, cn⟩ := toCell h4; rw [← HNN.out] at cn; clear h4 h5 h6)
      | ((with_reducible refine gate_dst (N := 13) rfl ?_); refine Kd.R_make Kd.bool (w0 := w2) w2.heap.size 4 rfl (N := 13) rfl 44 _ _ rfl (n : Int) rfl rfl Try.underlying44 (.bool false) 1 INB.out rfl (by decide) (by decide) false (ok := tt) (okp := tt) ?hz (fun _ h => h) trivial (by omega) (by simp only [Int.toNat_natCast]; omega) (Below.refl _ _) (Nat.le_refl _) ?_; (case hz => rfl); intro v3 w3 ho hb _ _; rw [Int.toNat_natCast] at ho; obtain ⟨A3, c3', rfl⟩ := Kd.R_slice ho; rw [List.length_replicate] at ho ⊢; have HO := Aside0.mk ho; have HS3 := Aside0.mk hb; clear ho hb))
    have HD3 := Aside0.mk (HD2.out.below HS3.out)
    have HB3 := Aside0.mk (HB2.out.trans (HS3.out.mono (Nat.le_of_lt (Nat.lt_of_le_of_lt HD2.out.ge HD2.out.lt))))
    have HK3 := Aside0.mk (HK2.out.trans (KeepR.of_below HS3.out))
    go_wp2_with fail
    go_loopw [4] (fun x wr => ∃ (k : Nat) (xs : List Bool), k ≤ n ∧ x = .int .i64 k ∧ xs.length = n ∧ Aside0 (∀ j, j < k → xs[j]? = some true) ∧ Aside0 (Kd.bool.R 4 wr w2.heap.size tt (.slice A3 n c3') xs) ∧ Aside0 (IsRf base wr g r1) ∧ Aside0 (Below base w wr) ∧ Aside0 (KeepR W wr)) (fun x _ => n - (intOf x).toNat)
    case atStart => exact ⟨0, _, Nat.zero_le _, rfl, List.length_replicate, ⟨fun j hj => absurd hj (Nat.not_lt_zero _)⟩, HO, HD3, HB3, HK3⟩
    case round =>
      obtain ⟨k, xs, hk, rfl, hxs, HF, HOk, HDk, HBk, HKk⟩ := hrel
      by_cases hlt : k < n
      · have e1 : decide ((k : Int) < n) = true := decide_eq_true (by omega)
        have e2 : decide (k < n) = true := decide_eq_true hlt
        obtain ⟨g4, cap, he, hg4, _, hc4⟩ := Kd.R_form HOk.out (by omega)
        injection he with he1 he2 he3
        subst he1
        clear he2 he3
        obtain ⟨⟨x4, cx4⟩, fx4⟩ := brow_cell HOk.out hxs k hlt
        have HG4 := Aside0.mk (And.intro hg4 hc4)
        clear hg4 hc4
        go_wp2
        go_roundw
        case rel =>
          refine ⟨k + 1, xs.set k true, by omega, by go_num, by rw [List.length_set]; exact hxs, ⟨fun j hj => ?_⟩, ⟨brow_put HOk.out hxs k true⟩, ⟨HDk.out.setNew HG4.out.2⟩, ⟨HBk.out.setCell (p := ⟨g4, k, none⟩) (by have h1 := HG4.out.1; have h2 := Nat.lt_of_le_of_lt HD2.out.ge HD2.out.lt; show base ≤ g4; omega) _⟩, ⟨HKk.out.setNew (by have h1 := HG4.out.1; have h2 := HK2.out.1; omega)⟩⟩
          by_cases hjk : j = k
          · subst hjk; rw [List.getElem?_set_self (by omega)]
          · rw [List.getElem?_set_ne (fun e => hjk e.symm)]; exact HF.out j (by omega)
        case measure => simp [intOf]; omega
      · obtain rfl : k = n := by omega
        have e1 : decide ((k : Int) < k) = false := decide_eq_false (by omega)
        have hcg : keepsR r1 (kept xs) = keepsR r1 (fun _ => true) := by
          unfold keepsR
          rw [keptR_congr (kept xs) (fun _ => true) r1 _ (fun j hj => by
            unfold kept
            rw [List.getD_eq_getElem?_getD, HF.out j (by rw [HNN.out]; exact hj)]
            rfl)]
        have HCG := Aside0.mk hcg
        have hKE := rkeeps_calls base g r1 w wr HDk.out HBk.out HN.out.1 HN.out.2.1 HN.out.2.2 A3 c3' xs (fun W' h1 _ => by rw [hxs]; exact brow_keep HOk.out h1) (by omega)
        rw [hxs, hcg] at hKE
        have HKE := Aside0.mk hKE
        clear hKE hcg
        go_wp2_with (first
          | (go_at_call 62; refine HKE.out.mono ?_; rintro e w9 ⟨rfl, h4, h5, h6⟩; have HD9 := Aside0.mk h4; have HB9 := Aside0.mk h5; have HK9 := Aside0.mk (HKk.out.trans h6); clear h4 h5 h6))
        go_ret
        exact ⟨rfl, HD9.out, HB9.out, HK9.out⟩
set_option maxHeartbeats 4000000 in
theorem rcrash_calls (base g : Nat) (r : Rf) (w W : World) (h : IsRf base W g r) (hB : Below base w W) (hn : r.at_.length = r.b.length) (ht : r.to_.length = r.ws.length) (hlen : r.at_.length + r.to_.length ≤ 1000000)
    (Ak : Option Addr) (ck : Nat) (l : List Bool) (hl : ∀ W', KeepR W W' → Below base w W' → Kd.C Kd.bool W' Ak l.length l) (hll : l.length ≤ 9223372036854775807) :
    Calls Try.prog 36 #[.pointer (some ⟨g, 0, none⟩), .slice Ak l.length ck] W fun e w' => e = .returned (.tuple #[]) ∧ IsRf base w' g (crashR r l) ∧ Below base w w' ∧ KeepR W w' := by
  have HKE := Aside0.mk (rkeeps_calls base g r w W h hB hn ht hlen Ak ck l hl hll)
  clear h hB hn ht hlen hl hll
  unfold crashR
  obtain ⟨r1, hr1⟩ : ∃ r1, r1 = keepsR r (kept l) := ⟨_, rfl⟩
  rw [← hr1] at HKE ⊢
  clear hr1
  go_enter Try.func36, Try.ntmps36
  go_wp2_with (first
    | (go_at_call 62; refine HKE.out.mono ?_; rintro e w9 ⟨rfl, ⟨vA, vB, vT, vW, h4⟩, h5, h6⟩; have HD9 := Aside0.mk h4; have HB9 := Aside0.mk h5; have HK9 := Aside0.mk h6; have c6 : w9.cell? ⟨g, 6, none⟩ = some (.bool r1.armed) := (blk_cell h4.blk 6).trans rfl; have c7 : w9.cell? ⟨g, 7, none⟩ = some (.bool r1.dead) := (blk_cell h4.blk 7).trans rfl; have f6 := blk_frozen h4.blk 6; have f7 := blk_frozen h4.blk 7; clear h4 h5 h6))
  go_end0
  have h7 := HD9.out.set (j := 6) (u := .bool false) (r' := { r1 with armed := false }) rfl rfl rfl rfl rfl
  exact ⟨rfl, ⟨_, _, _, _, h7.set (r' := { r1 with armed := false, dead := false }) rfl rfl rfl rfl rfl⟩, (HB9.out.setCell HD9.out.ge _).setCell HD9.out.ge _, (HK9.out.set HD9.out.blk _).set h7.blk _⟩
/-- What is read of a sector: the last write of it among the first k, or what stands fast. -/
def lastTo (r : Rf) (i : Int) (s0 : List Int) : Nat → List Int
  | 0 => s0
  | k + 1 => if r.to_.getD k 0 = i then r.ws.getD k [] else lastTo r i s0 k
def readR (r : Rf) (i : Int) : Rf × List Int × Int :=
  if (callR r).2 = false then ((callR r).1, [], 190) else if i < 0 then ((callR r).1, [], 1) else if (callR r).1.n ≤ i then ((callR r).1, [], 8)
  else ((callR r).1, lastTo (callR r).1 i (bytesR (callR r).1 i) (callR r).1.to_.length, 0)
end Go.Proofs.Ytmghgghheebnjaa.Dis
namespace Go.Proofs.Ytmghgghheebnjaa.Dis
open Go.RowKit Go.Proofs.YtmghgghheebnjaaW.PrintWords Go.Proofs.YtmghgghheebnjaaW.PrintLast Go.Proofs.YtmghgghheebnjaaW.PrintMore Go.Maps
set_option linter.unusedVariables false
set_option linter.unusedSimpArgs false
def StillR (W w' : World) (g : Nat) (r r' : Rf) : Prop := (∀ k, k < W.heap.size → k ≠ g → w'.heap[k]? = W.heap[k]?) ∧
  (r'.at_ = r.at_ ∧ r'.b = r.b ∧ r'.to_ = r.to_ ∧ r'.ws = r.ws) ∧ ∀ vA vB vT vW, W.heap[g]? = some (.cells (rcells r vA vB vT vW) 98 (0, 0)) → w'.heap[g]? = some (.cells (rcells r' vA vB vT vW) 98 (0, 0))
def KeepS (W w' : World) (g : Nat) (r r' : Rf) : Prop := KeepR W w' ∧ StillR W w' g r r'
theorem StillR.refl (W : World) (g : Nat) (r : Rf) : StillR W W g r r := ⟨fun _ _ _ => rfl, ⟨rfl, rfl, rfl, rfl⟩, fun _ _ _ _ h => h⟩
theorem StillR.set {W w' : World} {g j : Nat} {r r' r2 : Rf} {u : Value} (h : StillR W w' g r r') (e : ∀ vA vB vT vW, (rcells r' vA vB vT vW).setIfInBounds j u = rcells r2 vA vB vT vW) (e2 : r2.at_ = r'.at_ ∧ r2.b = r'.b ∧ r2.to_ = r'.to_ ∧ r2.ws = r'.ws) : StillR W (w'.setCell ⟨g, j, none⟩ u) g r r2 :=
  ⟨fun k hk hg => (Below.heap_setCell _ _ _ _ (fun e => hg e)).trans (h.1 k hk hg), ⟨e2.1.trans h.2.1.1, e2.2.1.trans h.2.1.2.1, e2.2.2.1.trans h.2.1.2.2.1, e2.2.2.2.trans h.2.1.2.2.2⟩, fun vA vB vT vW hb => blk_put (h.2.2 _ _ _ _ hb) j u (e _ _ _ _)⟩
theorem KeepS.below {W w w' : World} {g : Nat} {r r' : Rf} (h : KeepS W w g r r') (hb : Below w.heap.size w w') : KeepS W w' g r r' :=
  ⟨h.1.trans (KeepR.of_below hb), fun k hk hg => (hb.block k (Nat.lt_of_lt_of_le hk h.1.1)).trans (h.2.1 k hk hg), h.2.2.1, fun vA vB vT vW e => blk_below (h.2.2.2 _ _ _ _ e) hb⟩
/-- The answer's disk stands, also when a block is set that was not there before. -/
theorem IsRf.still {base g q j : Nat} {W0 W w' : World} {r r' : Rf} {u : Value} (h : IsRf base W0 g r) (hk : KeepD W0 W) (hs : StillR W w' g r r') (hq : W0.heap.size ≤ q) : IsRf base (w'.setCell ⟨q, j, none⟩ u) g r' := by
  obtain ⟨vA, vB, vT, vW, h⟩ := h
  have hg : g < W0.heap.size := blk_lt h.blk
  have hkeep : ∀ (k : Nat) (cs : Array Value) (t : Nat), (t = 3 ∨ t = 56 ∨ t = 5) → W0.heap[k]? = some (Obj.cells cs t (0, 0)) → (w'.setCell ⟨q, j, none⟩ u).heap[k]? = some (Obj.cells cs t (0, 0)) := fun k cs t ht hc => by
    have hlt : k < W0.heap.size := blk_lt hc
    have t1 : t ≠ 106 := by omega
    have t2 : t ≠ 88 := by omega
    have h1 := hk.2 k _ _ _ hc t1 t2
    have hne : k ≠ g := fun e => by
      subst e
      rw [h.blk] at hc
      injection hc with hc
      injection hc with _ ht2
      subst ht2
      omega
    rw [Below.heap_setCell _ _ _ _ (fun e => by have : q = k := e.symm; omega), hs.1 k (Nat.lt_of_lt_of_le hlt hk.1) hne]
    exact h1
  refine ⟨vA, vB, vT, vW, ⟨?_, h.ge, ?_, ?_, ?_, ?_, h.sA, h.sB⟩⟩
  · rw [Below.heap_setCell _ _ _ _ (fun e => by have : q = g := e.symm; omega)]
    exact hs.2.2 _ _ _ _ (hk.2 _ _ _ _ h.blk (by decide) (by decide))
  · rw [hs.2.1.1]
    exact R_kept h.rA (fun k cs q hq hc => hkeep k cs q (by have : q = 3 := by simpa [Kd.int, Kd.scalar] using hq
                                                            omega) hc)
  · rw [hs.2.1.2.1]
    exact R_kept h.rB (fun k cs q hq hc => hkeep k cs q (by have : q = 56 ∨ q = 5 := by simpa [bsK, Kd.slice, Kd.int, Kd.scalar] using hq
                                                            omega) hc)
  · rw [hs.2.1.2.2.1]
    exact R_kept h.rT (fun k cs q hq hc => hkeep k cs q (by have : q = 3 := by simpa [Kd.int, Kd.scalar] using hq
                                                            omega) hc)
  · rw [hs.2.1.2.2.2]
    exact R_kept h.rW (fun k cs q hq hc => hkeep k cs q (by have : q = 56 ∨ q = 5 := by simpa [bsK, Kd.slice, Kd.int, Kd.scalar] using hq
                                                            omega) hc)
set_option maxHeartbeats 4000000 in
theorem rcall2_calls (base g : Nat) (r : Rf) (w W : World) (h : IsRf base W g r) (hB : Below base w W) (hl : -9223372036854775808 < r.left ∧ r.left ≤ 9223372036854775807) : Calls Try.prog 72 #[.pointer (some ⟨g, 0, none⟩)] W fun e w' => e = .returned (.bool (callR r).2) ∧ IsRf base w' g (callR r).1 ∧ Below base w w' ∧ KeepS W w' g r (callR r).1 := by
  obtain ⟨vA, vB, vT, vW, h⟩ := h
  have c5 : W.cell? ⟨g, 5, none⟩ = some (.int .i64 r.left) := (blk_cell h.blk 5).trans rfl
  have c6 : W.cell? ⟨g, 6, none⟩ = some (.bool r.armed) := (blk_cell h.blk 6).trans rfl
  have c7 : W.cell? ⟨g, 7, none⟩ = some (.bool r.dead) := (blk_cell h.blk 7).trans rfl
  have f5 := blk_frozen h.blk 5
  have f7 := blk_frozen h.blk 7
  have hw : IntKind.i64.wrap (r.left - 1) = r.left - 1 := by rw [IntKind.wrap_i64]; omega
  have HH := Aside0.mk h
  have HB := Aside0.mk hB
  have h7 := Aside0.mk (h.set (j := 7) (u := .bool true) (r' := { r with dead := true }) rfl rfl rfl rfl rfl)
  clear h hB
  unfold callR
  rcases Bool.eq_false_or_eq_true r.armed with ha | ha
  rotate_left
  · rw [ha] at c6
    rw [if_neg (by rw [ha]; simp)]
    clear ha
    go_enter Try.func72, Try.ntmps72
    go_wp2
    go_ret
    exact ⟨rfl, ⟨vA, vB, vT, vW, HH.out.set (r' := { r with left := r.left - 1 }) rfl rfl rfl rfl rfl⟩, HB.out.setCell HH.out.ge _, ⟨(KeepR.refl W).set HH.out.blk _, (StillR.refl W g r).set (fun _ _ _ _ => rfl) ⟨rfl, rfl, rfl, rfl⟩⟩⟩
  · rw [ha] at c6
    by_cases h0 : r.left ≤ 0
    · rw [if_pos ⟨ha, h0⟩]
      clear ha
      have e1 : decide (r.left ≤ 0) = true := decide_eq_true h0
      go_enter Try.func72, Try.ntmps72
      go_wp2
      go_ret
      exact ⟨rfl, ⟨vA, vB, vT, vW, h7.out.set (r' := { r with dead := true, left := r.left - 1 }) rfl rfl rfl rfl rfl⟩, (HB.out.setCell HH.out.ge _).setCell HH.out.ge _, ⟨((KeepR.refl W).set HH.out.blk _).set h7.out.blk _, ((StillR.refl W g r).set (r2 := { r with dead := true }) (fun _ _ _ _ => rfl) ⟨rfl, rfl, rfl, rfl⟩).set (fun _ _ _ _ => rfl) ⟨rfl, rfl, rfl, rfl⟩⟩⟩
    · rw [if_neg (by intro h; exact h0 h.2)]
      clear ha
      have e1 : decide (r.left ≤ 0) = false := decide_eq_false h0
      go_enter Try.func72, Try.ntmps72
      go_wp2
      go_ret
      exact ⟨rfl, ⟨vA, vB, vT, vW, HH.out.set (r' := { r with left := r.left - 1 }) rfl rfl rfl rfl rfl⟩, HB.out.setCell HH.out.ge _, ⟨(KeepR.refl W).set HH.out.blk _, (StillR.refl W g r).set (fun _ _ _ _ => rfl) ⟨rfl, rfl, rfl, rfl⟩⟩⟩
set_option maxHeartbeats 4000000 in
set_option maxRecDepth 100000 in
theorem rread2_calls (base g : Nat) (r : Rf) (i : Int) (w W : World) (h : IsRf base W g r) (hB : Below base w W) (hl : -9223372036854775808 < r.left ∧ r.left ≤ 9223372036854775807) (hn : r.at_.length = r.b.length) (ht : r.to_.length = r.ws.length) (hlen : r.at_.length + r.to_.length ≤ 1000000) (hbl : ∀ k, (lastTo (callR r).1 i (bytesR (callR r).1 i) k).length ≤ 1000000) :
    Calls Try.prog 58 #[.pointer (some ⟨g, 0, none⟩), .int .i64 i] W fun e w' => ∃ v, e = .returned (.tuple #[v, .int .i64 (readR r i).2.2]) ∧ IsRf base w' g (readR r i).1 ∧ Below base w w' ∧ KeepS W w' g r (readR r i).1 ∧ Kd.R (Kd.int .u8) 5 w' base tt v (readR r i).2.1 := by
  have info5 : (Try.prog.info? 5).map (fun i => (i.zero, i.size, i.bytes)) = some (some (.int .u8 0), 1, 1) := by kernel_rfl
  have INF := Aside0.mk info5
  clear info5
  have HCL := Aside0.mk (rcall2_calls base g r w W h hB hl)
  obtain ⟨hn1, ha1, hb1, ht1, hw1, _, _⟩ := callR_same r
  have HN := Aside0.mk (show (callR r).1.at_.length = (callR r).1.b.length ∧ (callR r).1.to_.length = (callR r).1.ws.length ∧ (callR r).1.at_.length + (callR r).1.to_.length ≤ 1000000 by rw [ha1, hb1, ht1, hw1]; exact ⟨hn, ht, hlen⟩)
  have HBL := Aside0.mk hbl
  clear h hB hl hn ht hlen hn1 ha1 hb1 ht1 hw1 hbl
  unfold readR
  obtain ⟨ok, hok⟩ : ∃ ok, ok = (callR r).2 := ⟨_, rfl⟩
  obtain ⟨r1, hr1⟩ : ∃ r1, r1 = (callR r).1 := ⟨_, rfl⟩
  rw [← hok, ← hr1] at HCL ⊢
  rw [← hr1] at HN HBL
  clear hok hr1
  cases ok with
  | false =>
    rw [if_pos rfl]
    go_enter Try.func58, Try.ntmps58
    go_wp2_with (first
      | (go_at_call 72; refine HCL.out.mono ?_; rintro e w2 ⟨rfl, h4, h5, h6⟩; have HD2 := Aside0.mk h4; have HB2 := Aside0.mk h5; have HK2 := Aside0.mk h6; have cn : w2.cell? ⟨g, 0, none⟩ = some (.int .i64 r1.n) := (by obtain ⟨_, _, _, _, h7⟩ := h4; exact (blk_cell h7.blk 0).trans rfl); clear h4 h5 h6))
    go_ret2
    exact ⟨_, rfl, HD2.out, HB2.out, HK2.out, Kd.R_nil _ _ _ _ _⟩
  | true =>
    rw [if_neg (by simp)]
    by_cases h1 : i < 0
    · rw [if_pos h1]
      have e1 : decide (i < 0) = true := decide_eq_true h1
      go_enter Try.func58, Try.ntmps58
      go_wp2_with (first
        | (go_at_call 72; refine HCL.out.mono ?_; rintro e w2 ⟨rfl, h4, h5, h6⟩; have HD2 := Aside0.mk h4; have HB2 := Aside0.mk h5; have HK2 := Aside0.mk h6; have cn : w2.cell? ⟨g, 0, none⟩ = some (.int .i64 r1.n) := (by obtain ⟨_, _, _, _, h7⟩ := h4; exact (blk_cell h7.blk 0).trans rfl); clear h4 h5 h6))
      go_ret2
      exact ⟨_, rfl, HD2.out, HB2.out, HK2.out, Kd.R_nil _ _ _ _ _⟩
    · rw [if_neg h1]
      have e1 : decide (i < 0) = false := decide_eq_false h1
      by_cases h2 : r1.n ≤ i
      · rw [if_pos h2]
        have e2 : decide (r1.n ≤ i) = true := decide_eq_true h2
        go_enter Try.func58, Try.ntmps58
        go_wp2_with (first
          | (go_at_call 72; refine HCL.out.mono ?_; rintro e w2 ⟨rfl, h4, h5, h6⟩; have HD2 := Aside0.mk h4; have HB2 := Aside0.mk h5; have HK2 := Aside0.mk h6; have cn : w2.cell? ⟨g, 0, none⟩ = some (.int .i64 r1.n) := (by obtain ⟨_, _, _, _, h7⟩ := h4; exact (blk_cell h7.blk 0).trans rfl); clear h4 h5 h6))
        go_ret2
        exact ⟨_, rfl, HD2.out, HB2.out, HK2.out, Kd.R_nil _ _ _ _ _⟩
      · rw [if_neg h2]
        have e2 : decide (r1.n ≤ i) = false := decide_eq_false h2
        obtain ⟨n, hnn⟩ : ∃ n, n = r1.to_.length := ⟨_, rfl⟩
        have hn6 : n ≤ 1000000 := by have := HN.out.2.2; omega
        have HNN := Aside0.mk hnn
        rw [← hnn]
        clear hnn
        go_enter Try.func58, Try.ntmps58
        go_upto_block 0 with (first
          | (go_at_call 72; refine HCL.out.mono ?_; rintro e w2 ⟨rfl, h4, h5, h6⟩; have HD2 := Aside0.mk h4; have HB2 := Aside0.mk h5; have HK2 := Aside0.mk h6; have cn : w2.cell? ⟨g, 0, none⟩ = some (.int .i64 r1.n) := (by obtain ⟨_, _, _, _, h7⟩ := h4; exact (blk_cell h7.blk 0).trans rfl); clear h4 h5 h6)
          | (go_at_call 61; refine (rbytes_calls base g r1 i _ HD2.out HN.out.1 (by have := HN.out.2.2; omega)).mono ?_; rintro e w3 ⟨v3, rfl, h4, h5⟩; obtain ⟨A3, c3, rfl⟩ := Kd.R_slice h4; have HO3 := Aside0.mk h4; have HD3 := Aside0.mk (HD2.out.below h5); have HB3 := Aside0.mk (HB2.out.trans (h5.mono (Nat.le_of_lt (Nat.lt_of_le_of_lt HD2.out.ge HD2.out.lt)))); have HK3 := Aside0.mk (HK2.out.below h5); clear h4 h5 HCL))
        obtain ⟨s0, hs0⟩ : ∃ s0, s0 = bytesR r1 i := ⟨_, rfl⟩
        rw [← hs0] at HO3 HBL ⊢
        have HS0 := Aside0.mk hs0
        clear hs0
        obtain ⟨vA, vB, vT, vW, h⟩ := HD3.out
        obtain ⟨AT, cT, rfl⟩ := Kd.R_slice h.rT
        obtain ⟨AW, cW, rfl⟩ := Kd.R_slice h.rW
        have hTn : r1.to_.length = n := HNN.out.symm
        have hWn : r1.ws.length = n := by rw [← HN.out.2.1]; exact HNN.out.symm
        have k3 : w3.cell? ⟨g, 3, none⟩ = some (.slice AT n cT) := (blk_cell h.blk 3).trans (by rw [← hTn]; rfl)
        have k4 : w3.cell? ⟨g, 4, none⟩ = some (.slice AW n cW) := (blk_cell h.blk 4).trans (by rw [← hWn]; rfl)
        have HS := Aside0.mk h
        have HTW := Aside0.mk (And.intro hTn hWn)
        clear h hTn hWn cn
        go_wp2_with fail
        go_loopw [6, 7] (fun y x wr => ∃ (k : Nat) (A : Option Addr) (c : Nat), k ≤ n ∧ x = .int .i64 k ∧ y = .slice A (lastTo r1 i s0 k).length c ∧ wr = w3 ∧ Aside0 (Kd.R (Kd.int .u8) 5 w3 base tt (.slice A (lastTo r1 i s0 k).length c) (lastTo r1 i s0 k))) (fun _ x _ => n - (intOf x).toNat)
        case atStart => exact ⟨0, _, _, Nat.zero_le _, rfl, rfl, rfl, HO3⟩
        case round =>
          obtain ⟨k, A, c, hk, rfl, rfl, hwr, HRk⟩ := hrel
          subst hwr
          by_cases hlt : k < n
          · have e1 : decide ((k : Int) < n) = true := decide_eq_true (by omega)
            have e2 : decide (k < n) = true := decide_eq_true hlt
            obtain ⟨adT, hAT, celT⟩ := Kd.at_int (C_ofR HS.out.rT) (k : Int) (by omega) (by rw [HTW.out.1]; omega)
            subst hAT
            simp only [Int.toNat_natCast] at celT
            obtain ⟨gb, Aw, cw, hB2, hgb, hcs, cbk, hRw⟩ := bs_at HS.out.rW rfl k (by rw [HTW.out.2]; exact hlt)
            subst hB2
            have HRw := Aside0.mk hRw
            clear hcs hgb hRw
            obtain ⟨ti, hti⟩ : ∃ ti, ti = rd r1.to_ (k : Int) := ⟨_, rfl⟩
            rw [← hti] at celT
            have hti2 : r1.to_.getD k 0 = ti := by rw [hti]; rfl
            have HTI := Aside0.mk hti2
            clear hti hti2
            by_cases hi : ti = i
            · subst hi
              have e3 : (ti == ti) = true := by simp
              have hls : lastTo r1 ti s0 (k + 1) = r1.ws.getD k [] := by show (if _ then _ else _) = _; rw [if_pos HTI.out]
              have HLS := Aside0.mk hls
              clear hls
              go_wp2
              go_roundw
              case rel => exact ⟨k + 1, Aw, cw, by omega, by go_num, by simp [HLS.out], by trivial, ⟨by rw [HLS.out]; exact HRw.out⟩⟩
              case measure => simp [intOf]; omega
            · have e3 : (ti == i) = false := by simp [hi]
              have hls : lastTo r1 i s0 (k + 1) = lastTo r1 i s0 k := by show (if _ then _ else _) = _; rw [if_neg (by rw [HTI.out]; exact hi)]
              have HLS := Aside0.mk hls
              clear hls
              go_wp2
              go_roundw
              case rel => exact ⟨k + 1, A, c, by omega, by go_num, by rw [HLS.out], by trivial, ⟨by rw [HLS.out]; exact HRk.out⟩⟩
              case measure => simp [intOf]; omega
          · obtain rfl : k = n := by omega
            have e1 : decide ((k : Int) < k) = false := decide_eq_false (by omega)
            obtain ⟨xs, hxs⟩ : ∃ xs, xs = lastTo r1 i s0 k := ⟨_, rfl⟩
            have HXL := Aside0.mk (show xs.length ≤ 1000000 by rw [hxs]; exact HBL.out k)
            rw [← hxs] at HRk ⊢
            have HX := Aside0.mk hxs
            clear hxs
            go_wp2_with (first
              | ((with_reducible refine gate_dst (N := 47) rfl ?_); refine Kd.R_lit (Kd.int .u8) wr.heap.size 5 ?hg (N := 47) ?hd (xs := ([] : List Int)) (inner := []) (ok := fun _ => True) (okp := fun _ => True) ?hr ?hp (fun _ hk => hk) trivial (Below.refl _ _) (Nat.le_refl _) (by simp) ?_; (case hd => rfl); (case hg => rfl); (case hr => first | (go_simp; done) | (go_simp; rfl)); (case hp => exact (Reps.none _ _)); intro v8 w8 ho4 hb hg_ hnew_; clear hg_ hnew_; have HO8 := Aside0.mk ho4; have HB8 := Aside0.mk hb; clear hb ho4)
              | ((with_reducible refine gate_dst (N := 49) rfl ?_); at_builtin; refine Kd.R_append_rows (Kd.int .u8) (w0 := wr) wr.heap.size rfl (.tmp 47) (.tmp 48) 56 5 (.int .u8 0) 1 rfl Try.underlying56 INF.out rfl (by decide) (by omega) v8 [] xs _ _ _ (fun _ => True) (fun _ => False) rfl rfl ?aO ?aR (fun _ _ h => h) (fun _ h => h.elim) ?aF ?aB ?aS ?aL ?_; (case aR => exact Kd.C_below (C_ofR HRk.out) HB8.out); (case aB => exact HB8.out); (case aF => exact (fun _ _ => trivial)); (case aO => exact HO8.out); (case aS => exact HB8.out.size); (case aL => have := HXL.out; simp; omega); intro v9 w9 ho hb hg hat; rw [List.nil_append] at ho; have HO9 := Aside0.mk ho; have HB9 := Aside0.mk hb; clear ho hb hg hat))
            go_ret2
            have hsz : base ≤ wr.heap.size := sz_le HS.out.st
            exact ⟨v9, rfl, HD3.out.below HB9.out, HB3.out.trans (HB9.out.mono hsz), HK3.out.below HB9.out, Kd.R_lower (by have h9 := HO9.out; rw [HX.out, HS0.out] at h9; exact h9) hsz⟩
end Go.Proofs.Ytmghgghheebnjaa.Dis
namespace Go.Proofs.Ytmghgghheebnjaa.Dis
open Go.RowKit Go.Proofs.YtmghgghheebnjaaW.PrintWords Go.Proofs.YtmghgghheebnjaaW.PrintLast Go.Proofs.YtmghgghheebnjaaW.PrintMore Go.Maps
set_option linter.unusedVariables false
set_option linter.unusedSimpArgs false
/-- What both disks have in common behind k calls. -/
structure Sim (d : D) (r : Rf) (k : Nat) : Prop where
  n : d.n = r.n
  dead : d.dead = r.dead
  live : r.dead = false → (r.armed = false ∧ d.left = -1) ∨ (r.armed = true ∧ 0 ≤ r.left ∧ d.left = r.left)
  lb : -(k : Int) ≤ r.left
  ub : r.left ≤ 9223372036854775807
  since : d.since = r.to_.zip r.ws
  tw : r.to_.length = r.ws.length
  ab : r.at_.length = r.b.length
  fast : ∀ i, d.fast i = rfast r i
  secb : ∀ s ∈ r.b, Sec s
  secw : ∀ s ∈ r.ws, Sec s
  size : r.at_.length + r.to_.length ≤ k
  cnt : d.cnt ≤ k
theorem Sim.up {d : D} {r : Rf} {k k' : Nat} (h : Sim d r k) (hk : k ≤ k') : Sim d r k' :=
  { h with lb := by have := h.lb; omega, size := Nat.le_trans h.size hk, cnt := Nat.le_trans h.cnt hk }
theorem rfast_eq {r r' : Rf} (h1 : r'.at_ = r.at_) (h2 : r'.b = r.b) (i : Int) : rfast r' i = rfast r i := by unfold rfast; rw [h1, h2]
theorem rfast_len {r : Rf} (hs : ∀ s ∈ r.b, Sec s) (i : Int) : (rfast r i).length ≤ 512 := by
  unfold rfast
  split
  · rename_i k _
    rw [List.getD_eq_getElem?_getD]
    cases h : r.b[k]? with
    | none => simp
    | some s => exact Nat.le_of_eq (hs s (List.mem_of_getElem? h)).1
  · exact Nat.le_of_eq sec_zeros.1
theorem rfast_set {r : Rf} (h : r.at_.length = r.b.length) (i : Int) (s : List Int) (j : Int) : rfast (setR r i s) j = if j = i then s else rfast r j := by
  unfold setR
  cases hf : r.at_.findIdx? (· == i) with
  | some k =>
    obtain ⟨hk, hke, hlt⟩ := List.findIdx?_eq_some_iff_getElem.1 hf
    have hki : r.at_[k] = i := by simpa using hke
    show (match r.at_.findIdx? (· == j) with | some q => (r.b.set k s).getD q [] | none => zeros) = _
    by_cases hj : j = i
    · subst hj
      rw [hf, if_pos rfl]
      simp [List.getD_eq_getElem?_getD, h ▸ hk]
    · rw [if_neg hj]
      unfold rfast
      cases hg : r.at_.findIdx? (· == j) with
      | none => rfl
      | some q =>
        obtain ⟨hq, hqe, _⟩ := List.findIdx?_eq_some_iff_getElem.1 hg
        have hqj : r.at_[q] = j := by simpa using hqe
        have hne : k ≠ q := fun e => by subst e; exact hj (hqj.symm.trans hki)
        simp only [List.getD_eq_getElem?_getD]
        rw [List.getElem?_set_ne hne]
  | none =>
    have hno : ∀ x ∈ r.at_, (x == i) = false := by simpa using List.findIdx?_eq_none_iff.1 hf
    show (match (r.at_ ++ [i]).findIdx? (· == j) with | some q => (r.b ++ [s]).getD q [] | none => zeros) = _
    rw [List.findIdx?_append]
    unfold rfast
    cases hg : r.at_.findIdx? (· == j) with
    | some q =>
      obtain ⟨hq, hqe, _⟩ := List.findIdx?_eq_some_iff_getElem.1 hg
      have hqj : r.at_[q] = j := by simpa using hqe
      have hj : j ≠ i := fun e => by
        have := hno _ (List.getElem_mem hq)
        rw [hqj, e] at this
        simp at this
      rw [if_neg hj]
      simp only [Option.some_or, List.getD_eq_getElem?_getD]
      rw [List.getElem?_append_left (by omega)]
    | none =>
      by_cases hj : j = i
      · subst hj
        rw [if_pos rfl]
        simp [List.findIdx?_cons, List.getD_eq_getElem?_getD, h]
      · rw [if_neg hj]
        have : ((i == j) = false) := by simp; exact fun e => hj e.symm
        simp [List.findIdx?_cons, this]
theorem setR_sec {r : Rf} {i : Int} {s : List Int} (h : ∀ x ∈ r.b, Sec x) (hs : Sec s) : ∀ x ∈ (setR r i s).b, Sec x := by
  unfold setR
  split
  · intro x hx
    rcases List.mem_or_eq_of_mem_set hx with h1 | h1
    · exact h x h1
    · rw [h1]; exact hs
  · intro x hx
    rcases List.mem_append.1 hx with h1 | h1
    · exact h x h1
    · rw [List.mem_singleton.1 h1]; exact hs
/-! ### one call -/
theorem sim_call {d : D} {r : Rf} {k : Nat} (h : Sim d r k) : Sim (callD d).1 (callR r).1 (k + 1) ∧ (((callD d).2 = 0 ∧ (callR r).2 = true) ∨ ((callD d).2 = 190 ∧ (callR r).2 = false)) := by
  obtain ⟨s1, s2, s3, s4, s5, s6, s7⟩ := callR_same r
  have dsame : (callD d).1.n = d.n ∧ (callD d).1.since = d.since ∧ (callD d).1.fast = d.fast ∧ (callD d).1.cnt = d.cnt := by unfold callD; split <;> exact ⟨rfl, rfl, rfl, rfl⟩
  obtain ⟨d1, d2, d3, d4⟩ := dsame
  have key : (callD d).1.dead = (callR r).1.dead ∧ ((callR r).1.dead = false → ((callR r).1.armed = false ∧ (callD d).1.left = -1) ∨ ((callR r).1.armed = true ∧ 0 ≤ (callR r).1.left ∧ (callD d).1.left = (callR r).1.left)) ∧
      (((callD d).2 = 0 ∧ (callR r).2 = true) ∨ ((callD d).2 = 190 ∧ (callR r).2 = false)) := by
    have hd := h.dead
    have hl := h.live
    rcases Bool.eq_false_or_eq_true r.dead with hr | hr
    · rw [hr] at hd
      have eD : callD d = ({ d with dead := true }, 190) := by unfold callD; rw [if_pos (.inr hd)]
      rw [eD]
      by_cases hx : r.armed = true ∧ r.left ≤ 0
      · have eR : callR r = ({ r with dead := true, left := r.left - 1 }, false) := by unfold callR; rw [if_pos hx]
        rw [eR]
        exact ⟨rfl, fun e => (Bool.noConfusion e), .inr ⟨rfl, rfl⟩⟩
      · have eR : callR r = ({ r with left := r.left - 1 }, !r.dead) := by unfold callR; rw [if_neg hx]
        rw [eR]
        exact ⟨hr.symm, fun e => (by rw [show r.dead = false from e] at hr; cases hr), .inr ⟨rfl, by show (!r.dead) = false; rw [hr]; rfl⟩⟩
    · rw [hr] at hd
      rcases hl hr with ⟨ha, hl1⟩ | ⟨ha, hl1, hl2⟩
      · have eD : callD d = ({ d with left := if 0 < d.left then d.left - 1 else d.left }, 0) := by unfold callD; rw [if_neg (show ¬ (d.left = 0 ∨ d.dead = true) by rw [hl1, hd]; decide)]
        have eR : callR r = ({ r with left := r.left - 1 }, !r.dead) := by unfold callR; rw [if_neg (show ¬ (r.armed = true ∧ r.left ≤ 0) by rw [ha]; simp)]
        rw [eD, eR]
        refine ⟨by show d.dead = r.dead; rw [hd, hr], fun _ => .inl ⟨ha, ?_⟩, .inl ⟨rfl, by show (!r.dead) = true; rw [hr]; rfl⟩⟩
        show (if 0 < d.left then d.left - 1 else d.left) = -1
        rw [hl1]; decide
      · by_cases h0 : r.left ≤ 0
        · have eD : callD d = ({ d with dead := true }, 190) := by unfold callD; rw [if_pos (show d.left = 0 ∨ d.dead = true from .inl (by omega))]
          have eR : callR r = ({ r with dead := true, left := r.left - 1 }, false) := by unfold callR; rw [if_pos ⟨ha, h0⟩]
          rw [eD, eR]
          exact ⟨rfl, fun e => (Bool.noConfusion e), .inr ⟨rfl, rfl⟩⟩
        · have eD : callD d = ({ d with left := if 0 < d.left then d.left - 1 else d.left }, 0) := by unfold callD; rw [if_neg (show ¬ (d.left = 0 ∨ d.dead = true) by rw [hd]; simp; omega)]
          have eR : callR r = ({ r with left := r.left - 1 }, !r.dead) := by unfold callR; rw [if_neg (show ¬ (r.armed = true ∧ r.left ≤ 0) from fun e => h0 e.2)]
          rw [eD, eR]
          refine ⟨by show d.dead = r.dead; rw [hd, hr], fun _ => .inr ⟨ha, by show 0 ≤ r.left - 1; omega, ?_⟩, .inl ⟨rfl, by show (!r.dead) = true; rw [hr]; rfl⟩⟩
          show (if 0 < d.left then d.left - 1 else d.left) = r.left - 1
          rw [if_pos (by omega), hl2]
  refine ⟨⟨by rw [d1, s1, h.n], key.1, key.2.1, by rw [s6]; have := h.lb; omega, by rw [s6]; have := h.ub; omega, by rw [d2, s4, s5]; exact h.since, by rw [s4, s5]; exact h.tw, by rw [s2, s3]; exact h.ab, fun i => by rw [d3, h.fast, rfast_eq s2 s3], by rw [s3]; exact h.secb, by rw [s5]; exact h.secw, by rw [s2, s4]; have := h.size; omega, by rw [d4]; have := h.cnt; omega⟩, key.2.2⟩
theorem sim_write {d : D} {r : Rf} {k : Nat} (h : Sim d r k) (i : Int) (b : List Int) (ho : OkB b) : Sim (writeD d i b).1 (writeR r i b).1 (k + 2) ∧ (writeD d i b).2 = (writeR r i b).2 := by
  obtain ⟨hc, he⟩ := sim_call h
  unfold writeD writeR
  rcases he with ⟨e1, e2⟩ | ⟨e1, e2⟩
  · rw [if_neg (show ¬ (callD d).2 ≠ 0 by rw [e1]; simp), if_neg (show ¬ (callR r).2 = false by rw [e2]; simp)]
    by_cases h1 : i < 0
    · have eT : thereD (callD d).1 i = 1 := by unfold thereD; rw [if_pos h1]
      rw [eT, if_pos (show (1 : Int) ≠ 0 by decide), if_pos h1]
      exact ⟨hc.up (by omega), rfl⟩
    · by_cases h2 : (callR r).1.n ≤ i
      · have eT : thereD (callD d).1 i = 8 := by unfold thereD; rw [if_neg h1, hc.n, if_pos h2]
        rw [eT, if_pos (show (8 : Int) ≠ 0 by decide), if_neg h1, if_pos h2]
        exact ⟨hc.up (by omega), rfl⟩
      · have eT : thereD (callD d).1 i = 0 := by unfold thereD; rw [if_neg h1, hc.n, if_neg h2]
        rw [eT, if_neg (show ¬ (0 : Int) ≠ 0 by decide), if_neg h1, if_neg h2]
        by_cases h3 : 512 < b.length
        · rw [if_pos h3, if_pos h3]
          exact ⟨hc.up (by omega), rfl⟩
        · rw [if_neg h3, if_neg h3]
          refine ⟨{ hc with lb := (by have := hc.lb; show _ ≤ (callR r).1.left; omega), since := ?_, tw := ?_, secw := ?_, size := ?_, cnt := ?_, fast := hc.fast }, rfl⟩
          · show (callD d).1.since ++ [(i, pad b)] = ((callR r).1.to_ ++ [i]).zip ((callR r).1.ws ++ [pad b])
            rw [hc.since, List.zip_append hc.tw]
            rfl
          · show ((callR r).1.to_ ++ [i]).length = ((callR r).1.ws ++ [pad b]).length
            simp [hc.tw]
          · intro s hs
            rcases List.mem_append.1 hs with h4 | h4
            · exact hc.secw s h4
            · rw [List.mem_singleton.1 h4]; exact pad_sec (by omega) ho
          · show (callR r).1.at_.length + ((callR r).1.to_ ++ [i]).length ≤ _
            have := hc.size
            simp; omega
          · show (callD d).1.cnt + 1 ≤ _
            have := hc.cnt
            omega
  · rw [if_pos (by rw [e1]; decide), if_pos e2]
    exact ⟨hc.up (by omega), e1⟩
theorem read_last (r : Rf) (i : Int) (s0 : List Int) (ht : r.to_.length = r.ws.length) : ∀ k, k ≤ r.to_.length → readF ((r.to_.zip r.ws).take k) i s0 = lastTo r i s0 k
  | 0, _ => rfl
  | k + 1, hk => by
    have ih := read_last r i s0 ht k (by omega)
    have h1 : k < r.to_.length := hk
    have h2 : k < r.ws.length := by omega
    have hz : k < (r.to_.zip r.ws).length := by rw [List.length_zip]; omega
    have e : (r.to_.zip r.ws).take (k + 1) = (r.to_.zip r.ws).take k ++ [(r.to_[k], r.ws[k])] := by
      rw [List.take_add_one, List.getElem?_eq_getElem hz]
      simp
    unfold readF at ih ⊢
    rw [e, List.reverse_append]
    show _ = (if r.to_.getD k 0 = i then r.ws.getD k [] else lastTo r i s0 k)
    have e1 : r.to_.getD k 0 = r.to_[k] := by simp [List.getD_eq_getElem?_getD, h1]
    have e2 : r.ws.getD k [] = r.ws[k] := by simp [List.getD_eq_getElem?_getD, h2]
    rw [e1, e2]
    simp only [List.reverse_cons, List.reverse_nil, List.nil_append, List.singleton_append, List.find?_cons]
    by_cases hi : r.to_[k] = i
    · rw [if_pos hi]
      simp [hi]
    · rw [if_neg hi]
      have hb : (r.to_[k] == i) = false := by simp [hi]
      simp only [hb]
      exact ih
theorem read_all {d : D} {r : Rf} {k : Nat} (h : Sim d r k) (i : Int) (s0 : List Int) : readF d.since i s0 = lastTo r i s0 r.to_.length := by
  rw [← read_last r i s0 h.tw _ (Nat.le_refl _), h.since, List.take_of_length_le (by rw [List.length_zip]; omega)]
theorem last_len {r : Rf} (hs : ∀ s ∈ r.ws, Sec s) (i : Int) (s0 : List Int) (h0 : s0.length ≤ 512) : ∀ k, (lastTo r i s0 k).length ≤ 512
  | 0 => h0
  | k + 1 => by
    show (if r.to_.getD k 0 = i then r.ws.getD k [] else lastTo r i s0 k).length ≤ 512
    by_cases hi : r.to_.getD k 0 = i
    · rw [if_pos hi, List.getD_eq_getElem?_getD]
      cases h : r.ws[k]? with
      | none => simp
      | some s => exact Nat.le_of_eq (hs s (List.mem_of_getElem? h)).1
    · rw [if_neg hi]
      exact last_len hs i s0 h0 k
theorem bytes_len {r : Rf} (hs : ∀ s ∈ r.b, Sec s) (i : Int) : (bytesR r i).length ≤ 512 := by
  unfold bytesR
  split
  · simp
  · exact rfast_len hs i
theorem sim_read {d : D} {r : Rf} {k : Nat} (h : Sim d r k) (i : Int) : Sim (readD d i).1 (readR r i).1 (k + 2) ∧ (readD d i).2 = (readR r i).2 := by
  obtain ⟨hc, he⟩ := sim_call h
  unfold readD readR
  rcases he with ⟨e1, e2⟩ | ⟨e1, e2⟩
  · rw [if_neg (show ¬ (callD d).2 ≠ 0 by rw [e1]; simp), if_neg (show ¬ (callR r).2 = false by rw [e2]; simp)]
    by_cases h1 : i < 0
    · have eT : thereD (callD d).1 i = 1 := by unfold thereD; rw [if_pos h1]
      rw [eT, if_pos (show (1 : Int) ≠ 0 by decide), if_pos h1]
      exact ⟨hc.up (by omega), rfl⟩
    · by_cases h2 : (callR r).1.n ≤ i
      · have eT : thereD (callD d).1 i = 8 := by unfold thereD; rw [if_neg h1, hc.n, if_pos h2]
        rw [eT, if_pos (show (8 : Int) ≠ 0 by decide), if_neg h1, if_pos h2]
        exact ⟨hc.up (by omega), rfl⟩
      · have eT : thereD (callD d).1 i = 0 := by unfold thereD; rw [if_neg h1, hc.n, if_neg h2]
        rw [eT, if_neg (show ¬ (0 : Int) ≠ 0 by decide), if_neg h1, if_neg h2]
        refine ⟨hc.up (by omega), ?_⟩
        have hb : bytesR (callR r).1 i = (callD d).1.fast i := by unfold bytesR; rw [if_neg (by omega), hc.fast]
        show (_, _) = (_, _)
        rw [read_all hc, hb]
  · rw [if_pos (by rw [e1]; decide), if_pos e2]
    exact ⟨hc.up (by omega), by rw [e1]⟩
/-! ### what is kept -/
theorem kept_alike {d : D} {r : Rf} {k : Nat} (h : Sim d r k) (F : Nat → Bool) : ∀ j, j ≤ r.to_.length → (∀ i, keptTo F d.since d.fast j i = rfast (keptR F r j) i) ∧ ∀ s ∈ (keptR F r j).b, Sec s
  | 0, _ => ⟨h.fast, h.secb⟩
  | j + 1, hj => by
    obtain ⟨ih, ih2⟩ := kept_alike h F j (by omega)
    unfold keptTo keptR
    by_cases hF : F j = true
    · rw [if_pos hF, if_pos hF]
      have h1 : j < r.to_.length := hj
      have h2 : j < r.ws.length := by have := h.tw; omega
      have hz : j < (r.to_.zip r.ws).length := by rw [List.length_zip]; omega
      have e1 : r.to_.getD j 0 = r.to_[j] := by simp [List.getD_eq_getElem?_getD, h1]
      have e2 : r.ws.getD j [] = r.ws[j] := by simp [List.getD_eq_getElem?_getD, h2]
      have e3 : d.since.getD j (0, zeros) = (r.to_[j], r.ws[j]) := by
        rw [h.since, List.getD_eq_getElem?_getD, List.getElem?_eq_getElem hz]
        simp
      rw [e1, e2, e3]
      refine ⟨fun i => ?_, setR_sec ih2 (h.secw _ (List.getElem_mem h2))⟩
      rw [rfast_set ((keptR_same F r j).2.2.2.2.2.2.1 h.ab)]
      unfold upd
      rw [← ih i]
    · rw [if_neg hF, if_neg hF]
      exact ⟨ih, ih2⟩
theorem sim_keeps {d : D} {r : Rf} {k : Nat} (h : Sim d r k) (F : Nat → Bool) : Sim (keepsD d F) (keepsR r F) k := by
  obtain ⟨q1, q2, q3, q4, q5, q6, q7, q8⟩ := keptR_same F r r.to_.length
  obtain ⟨k1, k2⟩ := kept_alike h F r.to_.length (Nat.le_refl _)
  have hs := h.size
  have hlen : d.since.length = r.to_.length := by rw [h.since, List.length_zip, ← h.tw]; omega
  refine ⟨by show d.n = _; rw [h.n]; exact q3.symm, by show d.dead = _; rw [h.dead]; exact q6.symm, ?_, by show _ ≤ (keptR F r r.to_.length).left; rw [q4]; exact h.lb, by show (keptR F r r.to_.length).left ≤ _; rw [q4]; exact h.ub, rfl, rfl, q7 h.ab, fun i => ?_, k2, fun s hs => (List.not_mem_nil hs).elim, ?_, h.cnt⟩
  · intro hd
    have hd2 : r.dead = false := by rw [← q6]; exact hd
    show ((keptR F r r.to_.length).armed = false ∧ d.left = -1) ∨ ((keptR F r r.to_.length).armed = true ∧ 0 ≤ (keptR F r r.to_.length).left ∧ d.left = (keptR F r r.to_.length).left)
    rw [q5, q4]
    exact h.live hd2
  · show keptTo F d.since d.fast d.since.length i = _
    rw [hlen, k1 i]
    exact rfast_eq rfl rfl i
  · show (keptR F r r.to_.length).at_.length + ([] : List Int).length ≤ k
    simp; omega
theorem sim_flush {d : D} {r : Rf} {k : Nat} (h : Sim d r k) : Sim (flushD d).1 (flushR r).1 (k + 2) ∧ (flushD d).2 = (flushR r).2 := by
  obtain ⟨hc, he⟩ := sim_call h
  unfold flushD flushR
  rcases he with ⟨e1, e2⟩ | ⟨e1, e2⟩
  · rw [if_pos e1, if_neg (by rw [e2]; simp)]
    exact ⟨(sim_keeps hc _).up (by omega), rfl⟩
  · rw [if_neg (by rw [e1]; decide), if_pos e2]
    exact ⟨hc.up (by omega), e1⟩
theorem sim_arm {d : D} {r : Rf} {k : Nat} (h : Sim d r k) (c : Int) (hc : c ≤ 9223372036854775807) : Sim (armD d c) (armR r c) (k + 2) := by
  have hnn : 0 ≤ (if c < 0 then 0 else c) := by split <;> omega
  refine { h.up (show k ≤ k + 2 by omega) with dead := h.dead, n := h.n, since := h.since, live := fun _ => .inr ⟨rfl, hnn, rfl⟩, lb := ?_, ub := ?_, fast := fun i => (h.fast i).trans (rfast_eq (r := r) rfl rfl i).symm, cnt := by have := h.cnt; show d.cnt ≤ _; omega }
  · show _ ≤ (if c < 0 then 0 else c)
    omega
  · show (if c < 0 then 0 else c) ≤ _
    split <;> omega
theorem sim_crash {d : D} {r : Rf} {k : Nat} (h : Sim d r k) (l : List Bool) : Sim (crashD d l) (crashR r l) (k + 2) := by
  have h1 := (sim_keeps h (kept l)).up (show k ≤ k + 2 by omega)
  exact { h1 with dead := rfl, n := h1.n, since := h1.since, live := fun _ => .inl ⟨rfl, rfl⟩, fast := fun i => (h1.fast i).trans (rfast_eq (r := keepsR r (kept l)) rfl rfl i).symm, cnt := h1.cnt }
theorem sim_bytes {d : D} {r : Rf} {k : Nat} (h : Sim d r k) (i : Int) : bytesD d i = bytesR r i := by unfold bytesD bytesR; rw [h.n, h.fast]
end Go.Proofs.Ytmghgghheebnjaa.Dis
namespace Go.Proofs.Ytmghgghheebnjaa.Dis
open Go.RowKit Go.Proofs.YtmghgghheebnjaaW.PrintWords Go.Proofs.YtmghgghheebnjaaW.PrintLast Go.Proofs.YtmghgghheebnjaaW.PrintMore Go.Maps
set_option linter.unusedVariables false
set_option linter.unusedSimpArgs false
def NoOwn (k0 : Nat) (a b t w : Value) : Prop := a.ownBlock ≠ some k0 ∧ b.ownBlock ≠ some k0 ∧ t.ownBlock ≠ some k0 ∧ w.ownBlock ≠ some k0
def IsRfX (k0 base : Nat) (w : World) (g : Nat) (r : Rf) : Prop := ∃ vA vB vT vW, RfAt base w g r vA vB vT vW ∧ NoOwn k0 vA vB vT vW ∧ k0 ≠ g ∧ k0 < w.heap.size
def KeepX (k0 : Nat) (w w' : World) : Prop := KeepR w w' ∧ w'.heap[k0]? = w.heap[k0]?
theorem IsRfX.rf {k0 base g : Nat} {w : World} {r : Rf} (h : IsRfX k0 base w g r) : IsRf base w g r := by obtain ⟨a, b, c, d, h, _⟩ := h; exact ⟨a, b, c, d, h⟩
theorem KeepX.below' {k0 : Nat} {W w w' : World} (h : KeepX k0 W w) (hk : k0 < W.heap.size) (hb : Below w.heap.size w w') : KeepX k0 W w' := ⟨h.1.trans (KeepR.of_below hb), (hb.block k0 (Nat.lt_of_lt_of_le hk h.1.1)).trans h.2⟩
theorem KeepX.row' {k0 : Nat} {W w w' : World} {row : Option Nat} (h : KeepX k0 W w) (hk : k0 < W.heap.size) (hg : w.grownBy w' row) (hne : row ≠ some k0) (ht : ∀ k, row = some k → ∃ cs t, w.heap[k]? = some (.cells cs t (0, 0)) ∧ (t = 98 ∨ t = 3 ∨ t = 56)) : KeepX k0 W w' :=
  ⟨h.1.trans (KeepR.row hg ht), (hg.block k0 (Nat.lt_of_lt_of_le hk h.1.1) (fun e => hne e.symm)).trans h.2⟩
theorem KeepX.set' {k0 : Nat} {w w' : World} (h : KeepX k0 w w') {g j : Nat} {cs : Array Value} (hb : w'.heap[g]? = some (.cells cs 98 (0, 0))) (hne : k0 ≠ g) (u : Value) : KeepX k0 w (w'.setCell ⟨g, j, none⟩ u) :=
  ⟨h.1.set hb u, (Below.heap_setCell _ _ _ _ hne).trans h.2⟩
theorem no_next {k0 : Nat} {W w : World} {x v : Value} (hk : k0 < W.heap.size) (hW : W.heap.size ≤ w.heap.size) (h : x.ownBlock ≠ some k0) (hat : v.ownBlock = x.ownBlock ∨ ∃ b, v.ownBlock = some b ∧ w.heap.size ≤ b) : v.ownBlock ≠ some k0 := by
  rcases hat with e | ⟨b, e, hb⟩
  · rw [e]; exact h
  · rw [e]; intro e2; injection e2 with e2; omega
/-- The disk's rows, when a call has left all blocks but its own. -/
theorem RfAt.of_still {base g : Nat} {W w' : World} {r r' : Rf} {vA vB vT vW : Value} (h : RfAt base W g r vA vB vT vW) (hs : StillR W w' g r r') : RfAt base w' g r' vA vB vT vW := by
  have hkeep : ∀ (k : Nat) (cs : Array Value) (t : Nat), (t = 3 ∨ t = 56 ∨ t = 5) → W.heap[k]? = some (Obj.cells cs t (0, 0)) → w'.heap[k]? = some (Obj.cells cs t (0, 0)) := fun k cs t ht hc => by
    have hne : k ≠ g := fun e => by
      subst e
      rw [h.blk] at hc
      injection hc with hc
      injection hc with _ ht2
      subst ht2
      omega
    exact (hs.1 k (blk_lt hc) hne).trans hc
  refine ⟨hs.2.2 _ _ _ _ h.blk, h.ge, ?_, ?_, ?_, ?_, h.sA, h.sB⟩
  · rw [hs.2.1.1]
    exact R_kept h.rA (fun k cs q hq hc => hkeep k cs q (by have : q = 3 := by simpa [Kd.int, Kd.scalar] using hq
                                                            omega) hc)
  · rw [hs.2.1.2.1]
    exact R_kept h.rB (fun k cs q hq hc => hkeep k cs q (by have : q = 56 ∨ q = 5 := by simpa [bsK, Kd.slice, Kd.int, Kd.scalar] using hq
                                                            omega) hc)
  · rw [hs.2.1.2.2.1]
    exact R_kept h.rT (fun k cs q hq hc => hkeep k cs q (by have : q = 3 := by simpa [Kd.int, Kd.scalar] using hq
                                                            omega) hc)
  · rw [hs.2.1.2.2.2]
    exact R_kept h.rW (fun k cs q hq hc => hkeep k cs q (by have : q = 56 ∨ q = 5 := by simpa [bsK, Kd.slice, Kd.int, Kd.scalar] using hq
                                                            omega) hc)
theorem rcallX_calls (k0 base g : Nat) (r : Rf) (w W : World) (h : IsRfX k0 base W g r) (hB : Below base w W) (hl : -9223372036854775808 < r.left ∧ r.left ≤ 9223372036854775807) : Calls Try.prog 72 #[.pointer (some ⟨g, 0, none⟩)] W fun e w' => e = .returned (.bool (callR r).2) ∧ IsRfX k0 base w' g (callR r).1 ∧ Below base w w' ∧ KeepX k0 W w' := by
  refine (rcall2_calls base g r w W h.rf hB hl).mono ?_
  rintro e w' ⟨h1, h2, h3, h4⟩
  obtain ⟨vA, vB, vT, vW, ha, hn, hg, hk⟩ := h
  exact ⟨h1, ⟨vA, vB, vT, vW, ha.of_still h4.2, hn, hg, Nat.lt_of_lt_of_le hk h4.1.1⟩, h3, h4.1, h4.2.1 k0 hk hg⟩
set_option maxHeartbeats 4000000 in
set_option maxRecDepth 100000 in
theorem rwriteX_calls (k0 base g : Nat) (r : Rf) (i : Int) (Ab : Option Addr) (cb : Nat) (b : List Int) (w W : World) (h : IsRfX k0 base W g r) (hB : Below base w W) (hl : -9223372036854775808 < r.left ∧ r.left ≤ 9223372036854775807) (hC : ∀ W', KeepR W W' → Kd.C (Kd.int .u8) W' Ab b.length b) (hlen : r.to_.length ≤ 1000000 ∧ r.ws.length ≤ 1000000) :
    Calls Try.prog 59 #[.pointer (some ⟨g, 0, none⟩), .int .i64 i, .slice Ab b.length cb] W fun e w' => e = .returned (.int .i64 (writeR r i b).2) ∧ IsRfX k0 base w' g (writeR r i b).1 ∧ Below base w w' ∧ KeepX k0 W w' := by
  have info3 : (Try.prog.info? 3).map (fun i => (i.zero, i.size, i.bytes)) = some (some (.int .i64 0), 1, 8) := by kernel_rfl
  have INF3 := Aside0.mk info3
  have info28 : (Try.prog.info? 56).map (fun i => (i.zero, i.size, i.bytes)) = some (some (.slice none 0 0), 1, 24) := by kernel_rfl
  have INF28 := Aside0.mk info28
  clear info3 info28
  have HCL := Aside0.mk (rcallX_calls k0 base g r w W h hB hl)
  have HK0 := Aside0.mk (show k0 < W.heap.size from by obtain ⟨_, _, _, _, _, _, _, h0⟩ := h; exact h0)
  obtain ⟨hn1, ha1, hb1, ht1, hw1, _, _⟩ := callR_same r
  have HLN := Aside0.mk (show (callR r).1.to_.length ≤ 1000000 ∧ (callR r).1.ws.length ≤ 1000000 by rw [ht1, hw1]; exact hlen)
  have HCB := Aside0.mk hC
  clear h hB hl hC hlen hn1 ha1 hb1 ht1 hw1
  unfold writeR
  obtain ⟨ok, hok⟩ : ∃ ok, ok = (callR r).2 := ⟨_, rfl⟩
  obtain ⟨r1, hr1⟩ : ∃ r1, r1 = (callR r).1 := ⟨_, rfl⟩
  rw [← hok, ← hr1] at HCL ⊢
  rw [← hr1] at HLN
  clear hok hr1
  cases ok with
  | false =>
    rw [if_pos rfl]
    go_enter Try.func59, Try.ntmps59
    go_wp2_with (first
      | (go_at_call 72; refine HCL.out.mono ?_; rintro e w2 ⟨rfl, h4, h5, h6⟩; have HD2 := Aside0.mk h4; have HB2 := Aside0.mk h5; have HK2 := Aside0.mk h6; have cn : w2.cell? ⟨g, 0, none⟩ = some (.int .i64 r1.n) := (by obtain ⟨_, _, _, _, h7⟩ := h4; exact (blk_cell h7.1.blk 0).trans rfl); clear h4 h5 h6))
    go_ret
    exact ⟨rfl, HD2.out, HB2.out, HK2.out⟩
  | true =>
    rw [if_neg (by simp)]
    by_cases h1 : i < 0
    · rw [if_pos h1]
      have e1 : decide (i < 0) = true := decide_eq_true h1
      go_enter Try.func59, Try.ntmps59
      go_wp2_with (first
        | (go_at_call 72; refine HCL.out.mono ?_; rintro e w2 ⟨rfl, h4, h5, h6⟩; have HD2 := Aside0.mk h4; have HB2 := Aside0.mk h5; have HK2 := Aside0.mk h6; have cn : w2.cell? ⟨g, 0, none⟩ = some (.int .i64 r1.n) := (by obtain ⟨_, _, _, _, h7⟩ := h4; exact (blk_cell h7.1.blk 0).trans rfl); clear h4 h5 h6))
      go_ret
      exact ⟨rfl, HD2.out, HB2.out, HK2.out⟩
    · rw [if_neg h1]
      have e1 : decide (i < 0) = false := decide_eq_false h1
      by_cases h2 : r1.n ≤ i
      · rw [if_pos h2]
        have e2 : decide (r1.n ≤ i) = true := decide_eq_true h2
        go_enter Try.func59, Try.ntmps59
        go_wp2_with (first
          | (go_at_call 72; refine HCL.out.mono ?_; rintro e w2 ⟨rfl, h4, h5, h6⟩; have HD2 := Aside0.mk h4; have HB2 := Aside0.mk h5; have HK2 := Aside0.mk h6; have cn : w2.cell? ⟨g, 0, none⟩ = some (.int .i64 r1.n) := (by obtain ⟨_, _, _, _, h7⟩ := h4; exact (blk_cell h7.1.blk 0).trans rfl); clear h4 h5 h6))
        go_ret
        exact ⟨rfl, HD2.out, HB2.out, HK2.out⟩
      · rw [if_neg h2]
        have e2 : decide (r1.n ≤ i) = false := decide_eq_false h2
        by_cases h3 : 512 < b.length
        · rw [if_pos h3]
          have e3 : decide ((512 : Int) < (b.length : Int)) = true := decide_eq_true (by omega)
          go_enter Try.func59, Try.ntmps59
          go_wp2_with (first
            | (go_at_call 72; refine HCL.out.mono ?_; rintro e w2 ⟨rfl, h4, h5, h6⟩; have HD2 := Aside0.mk h4; have HB2 := Aside0.mk h5; have HK2 := Aside0.mk h6; have cn : w2.cell? ⟨g, 0, none⟩ = some (.int .i64 r1.n) := (by obtain ⟨_, _, _, _, h7⟩ := h4; exact (blk_cell h7.1.blk 0).trans rfl); clear h4 h5 h6))
          go_ret
          exact ⟨rfl, HD2.out, HB2.out, HK2.out⟩
        · rw [if_neg h3]
          have e3 : decide ((512 : Int) < (b.length : Int)) = false := decide_eq_false (by omega)
          have HL5 := Aside0.mk (show b.length ≤ 512 by omega)
          go_enter Try.func59, Try.ntmps59
          go_upto_region 9 with (first
            | (go_at_call 72; refine HCL.out.mono ?_; rintro e w2 ⟨rfl, h4, h5, h6⟩; have HD2 := Aside0.mk h4; have HB2 := Aside0.mk h5; have HK2 := Aside0.mk h6; have cn : w2.cell? ⟨g, 0, none⟩ = some (.int .i64 r1.n) := (by obtain ⟨_, _, _, _, h7⟩ := h4; exact (blk_cell h7.1.blk 0).trans rfl); clear h4 h5 h6))
          obtain ⟨vA, vB, vT, vW, h, hno, hkg, _⟩ := HD2.out
          obtain ⟨AT, cT, rfl⟩ := Kd.R_slice h.rT
          obtain ⟨AW, cW, rfl⟩ := Kd.R_slice h.rW
          have HNO := Aside0.mk hno
          have HNT := Aside0.mk hno.2.2.1
          have HNW := Aside0.mk hno.2.2.2
          have HKG := Aside0.mk hkg
          clear hno hkg
          have c3 : w2.cell? ⟨g, 3, none⟩ = some (.slice AT r1.to_.length cT) := (blk_cell h.blk 3).trans rfl
          have c4 : w2.cell? ⟨g, 4, none⟩ = some (.slice AW r1.ws.length cW) := (blk_cell h.blk 4).trans rfl
          have HS := Aside0.mk (h.st.below (below_drew (Below.refl w2.heap.size w2)))
          have HB := Aside0.mk (HB2.out.trans (below_drew (Below.refl base w2)))
          have HK := Aside0.mk (HK2.out.below' HK0.out (below_drew (Below.refl w2.heap.size w2)))
          clear h HCL cn
          refine start_ (n := 23) (S := fun w' => w'.cell? ⟨g, 3, none⟩ = some (.slice AT r1.to_.length cT) ∧ w'.cell? ⟨g, 4, none⟩ = some (.slice AW r1.ws.length cW)) (ds := [19, 22]) #[false, false, false, false, false, false, false, false, false, false, false, false, false, false, false, false, false, false, false, false, false, false, false] (by kernel_rfl) rfl rfl ⟨c3, c4⟩ (fun hHeld => ?_)
          refine pure_ (i := 0) (N := some 21) (v := ?_) (a' := ?_) #[true, false, false, false, false, false, false, false, false, false, false, false, false, false, false, false, false, false, false, false, false, false, false] rfl rfl (by kernel_rfl) (fun _ _ _ h => h) (Or.inl ⟨by rfl, ?_⟩) ?_ ?_
          rotate_left
          · intro w'
            go_simp
            with_reducible rfl
          rotate_left
          · simp only [Act.put, List.setIfInBounds_toArray, List.set_cons_zero, List.set_cons_succ]
            rfl
          refine pure_ (i := 1) (N := some 22) (v := ?_) (a' := ?_) #[true, true, false, false, false, false, false, false, false, false, false, false, false, false, false, false, false, false, false, false, false, false, false] rfl rfl (by kernel_rfl) (fun _ _ _ h => h) (Or.inl ⟨by rfl, ?_⟩) ?_ ?_
          rotate_left
          · intro w'
            go_simp
            with_reducible rfl
          rotate_left
          · simp only [Act.put, List.setIfInBounds_toArray, List.set_cons_zero, List.set_cons_succ]
            rfl
          refine pure_ (i := 2) (N := some 23) (v := ?_) (a' := ?_) #[true, true, true, false, false, false, false, false, false, false, false, false, false, false, false, false, false, false, false, false, false, false, false] rfl rfl (by kernel_rfl) (fun _ _ _ h => h) (Or.inl ⟨by rfl, ?_⟩) ?_ ?_
          rotate_left
          · intro w'
            go_simp
            with_reducible rfl
          rotate_left
          · simp only [Act.put, List.setIfInBounds_toArray, List.set_cons_zero, List.set_cons_succ]
            rfl
          refine pure_ (i := 3) (N := some 24) (v := ?_) (a' := ?_) #[true, true, true, true, false, false, false, false, false, false, false, false, false, false, false, false, false, false, false, false, false, false, false] rfl rfl (by kernel_rfl) (fun _ _ _ h => h) (Or.inl ⟨by rfl, ?_⟩) ?_ ?_
          rotate_left
          · intro w'
            go_simp
            with_reducible rfl
          rotate_left
          · simp only [Act.put, List.setIfInBounds_toArray, List.set_cons_zero, List.set_cons_succ]
            rfl
          refine pure_ (i := 4) (N := some 25) (v := ?_) (a' := ?_) #[true, true, true, true, true, false, false, false, false, false, false, false, false, false, false, false, false, false, false, false, false, false, false] rfl rfl (by kernel_rfl) (fun _ _ _ h => h) (Or.inl ⟨by rfl, ?_⟩) ?_ ?_
          rotate_left
          · intro w'
            go_simp
            with_reducible rfl
          rotate_left
          · simp only [Act.put, List.setIfInBounds_toArray, List.set_cons_zero, List.set_cons_succ]
            rfl
          refine take_ (i := 5) (N := some 26) (v := ?_) (a' := ?_) #[true, true, true, true, true, true, false, false, false, false, false, false, false, false, false, false, false, false, false, false, false, false, false] rfl rfl (by kernel_rfl) (fun _ _ _ h => h) (Or.inl ⟨by rfl, ?_⟩) hHeld ?_ ?_
          rotate_left
          · rintro w' ⟨s0, s1⟩
            go_simp
            with_reducible rfl
          rotate_left
          · simp only [Act.put, List.setIfInBounds_toArray, List.set_cons_zero, List.set_cons_succ]
            rfl
          refine pure_ (i := 6) (N := some 27) (v := ?_) (a' := ?_) #[true, true, true, true, true, true, true, false, false, false, false, false, false, false, false, false, false, false, false, false, false, false, false] rfl rfl (by kernel_rfl) (fun _ _ _ h => h) (Or.inl ⟨by rfl, ?_⟩) ?_ ?_
          rotate_left
          · intro w'
            go_simp
            with_reducible rfl
          rotate_left
          · simp only [Act.put, List.setIfInBounds_toArray, List.set_cons_zero, List.set_cons_succ]
            rfl
          refine pure_ (i := 9) (N := some 30) (v := ?_) (a' := ?_) #[true, true, true, true, true, true, true, false, false, true, false, false, false, false, false, false, false, false, false, false, false, false, false] rfl rfl (by kernel_rfl) (fun _ _ _ h => h) (Or.inl ⟨by rfl, ?_⟩) ?_ ?_
          rotate_left
          · intro w'
            go_simp
            with_reducible rfl
          rotate_left
          · simp only [Act.put, List.setIfInBounds_toArray, List.set_cons_zero, List.set_cons_succ]
            rfl
          refine pure_ (i := 10) (N := some 31) (v := ?_) (a' := ?_) #[true, true, true, true, true, true, true, false, false, true, true, false, false, false, false, false, false, false, false, false, false, false, false] rfl rfl (by kernel_rfl) (fun _ _ _ h => h) (Or.inl ⟨by rfl, ?_⟩) ?_ ?_
          rotate_left
          · intro w'
            go_simp
            with_reducible rfl
          rotate_left
          · simp only [Act.put, List.setIfInBounds_toArray, List.set_cons_zero, List.set_cons_succ]
            rfl
          refine pure_ (i := 11) (N := some 32) (v := ?_) (a' := ?_) #[true, true, true, true, true, true, true, false, false, true, true, true, false, false, false, false, false, false, false, false, false, false, false] rfl rfl (by kernel_rfl) (fun _ _ _ h => h) (Or.inl ⟨by rfl, ?_⟩) ?_ ?_
          rotate_left
          · intro w'
            go_simp
            with_reducible rfl
          rotate_left
          · simp only [Act.put, List.setIfInBounds_toArray, List.set_cons_zero, List.set_cons_succ]
            rfl
          refine take_ (i := 12) (N := some 33) (v := ?_) (a' := ?_) #[true, true, true, true, true, true, true, false, false, true, true, true, true, false, false, false, false, false, false, false, false, false, false] rfl rfl (by kernel_rfl) (fun _ _ _ h => h) (Or.inl ⟨by rfl, ?_⟩) hHeld ?_ ?_
          rotate_left
          · rintro w' ⟨s0, s1⟩
            go_simp
            with_reducible rfl
          rotate_left
          · simp only [Act.put, List.setIfInBounds_toArray, List.set_cons_zero, List.set_cons_succ]
            rfl
          refine pure_ (i := 13) (N := some 34) (v := ?_) (a' := ?_) #[true, true, true, true, true, true, true, false, false, true, true, true, true, true, false, false, false, false, false, false, false, false, false] rfl rfl (by kernel_rfl) (fun _ _ _ h => h) (Or.inl ⟨by rfl, ?_⟩) ?_ ?_
          rotate_left
          · intro w'
            go_simp
            with_reducible rfl
          rotate_left
          · simp only [Act.put, List.setIfInBounds_toArray, List.set_cons_zero, List.set_cons_succ]
            rfl
          refine one_ (i := 7) (N := some 28) #[true, true, true, true, true, true, true, true, false, true, true, true, true, true, false, false, false, false, false, false, false, false, false] rfl rfl (by kernel_rfl) (by decide) (fun K hK => ?_)
          refine Kd.R_lit_step aKi (w0 := w) base 3 (by rfl) (N := 28) rfl (xs := [i]) (inner := [.int .i64 i]) (ok := tt) (okp := tt) ?hr12 ?hrep12 (fun _ h => h) trivial HB.out ?hS12 (by simp) ?_
          case hr12 => first | (go_simp; done) | (go_simp; rfl)
          case hrep12 => exact Kd.reps_scalar (enc := Value.int .i64) [i]
          case hS12 => exact sz_le HS.out
          intro vI w35_1 ho hb hg _
          have bl := grown_below hg
          obtain ⟨AI, cI, rfl⟩ := Kd.R_slice ho
          have HI := Aside0.mk ho
          have HS' := Aside0.mk (HS.out.below bl)
          have HB' := Aside0.mk hb
          have HK' := Aside0.mk (HK.out.below' HK0.out bl)
          clear HS HB HK  bl hb hg ho
          have HS := HS'
          have HB := HB'
          have HK := HK'
          clear HS' HB' HK' 
          show K (Act.put _ (some 28) _) _
          simp only [Act.put, List.setIfInBounds_toArray, List.set_cons_zero, List.set_cons_succ]
          refine hK.out _ _ ⟨(blk_cell HS.out.blk 3).trans rfl, (blk_cell HS.out.blk 4).trans rfl⟩ (fun hHeld => ?_)
          clear hK K
          refine one_ (i := 8) (N := some 29) #[true, true, true, true, true, true, true, true, true, true, true, true, true, true, false, false, false, false, false, false, false, false, false] rfl rfl (by kernel_rfl) (by decide) (fun K hK => ?_)
          refine Kd.R_append_rows_step aKi (w0 := w) base (by rfl) (.tmp 26) (.tmp 28) 96 3 (.int .i64 0) 8 rfl Try.underlying96 INF3.out rfl (by decide) (by decide) (.slice AT r1.to_.length cT) r1.to_ [i] _ _ _ tt (fun _ => False) rfl rfl HS.out.rT (C_ofR HI.out) (fun _ _ h => h) (fun _ h => h.elim) (fun _ _ => trivial) HB.out (sz_le HS.out) ?hl13 ?_
          case hl13 => have := HLN.out; simp; omega
          intro v29 w35_2 ho hb hg hat
          have HS' := Aside0.mk (HS.out.growT ho hg hat)
          have HB' := Aside0.mk hb
          have HK' := Aside0.mk (HK.out.row' HK0.out hg HNT.out (fun q e => by obtain ⟨cs, hc⟩ := own_of HS.out.rT q e; exact ⟨cs, 3, hc, .inr (.inl rfl)⟩))
          have HNT2 := Aside0.mk (no_next HK0.out HK.out.1.1 HNT.out hat)
          clear HS HB HK  hb hg ho hat
          have HS := HS'
          have HB := HB'
          have HK := HK'
          clear HS' HB' HK' 
          show K (Act.put _ (some 29) _) _
          simp only [Act.put, List.setIfInBounds_toArray, List.set_cons_zero, List.set_cons_succ]
          refine hK.out _ _ ⟨(blk_cell HS.out.blk 3).trans rfl, (blk_cell HS.out.blk 4).trans rfl⟩ (fun hHeld => ?_)
          clear hK K
          refine one_ (i := 14) (N := some 35) #[true, true, true, true, true, true, true, true, true, true, true, true, true, true, true, false, false, false, false, false, false, false, false] rfl rfl (by kernel_rfl) (by decide) (fun K hK => ?_)
          refine goes_ Try.func73 (by kernel_rfl) rfl #[.slice Ab b.length cb] (by rfl) rfl rfl (by (try simp only [List.map_toArray, List.map_cons, List.map_nil]); first | done | rfl) ?_
          refine (full_calls Ab cb b _ (HCB.out _ HK.out.1) HL5.out).mono ?_
          rintro e w35_3 ⟨v35, rfl, ho, bl⟩
          refine ⟨v35, rfl, ?_⟩
          obtain ⟨AV, cV, rfl⟩ := Kd.R_slice ho
          have HV := Aside0.mk (Kd.R_lower ho (sz_le HS.out))
          have hb := HB.out.trans (bl.mono (sz_le HS.out))
          have hg : True := trivial
          have HS' := Aside0.mk (HS.out.below bl)
          have HB' := Aside0.mk hb
          have HK' := Aside0.mk (HK.out.below' HK0.out bl)
          clear HS HB HK  bl hb hg ho
          have HS := HS'
          have HB := HB'
          have HK := HK'
          clear HS' HB' HK' 
          refine hK.out _ _ ⟨(blk_cell HS.out.blk 3).trans rfl, (blk_cell HS.out.blk 4).trans rfl⟩ (fun hHeld => ?_)
          clear hK K
          refine one_ (i := 15) (N := some 36) #[true, true, true, true, true, true, true, true, true, true, true, true, true, true, true, true, false, false, false, false, false, false, false] rfl rfl (by kernel_rfl) (by decide) (fun K hK => ?_)
          refine Kd.R_lit_step bsK (w0 := w) base 56 (by rfl) (N := 36) rfl (xs := [(pad b)]) (inner := [.slice AV (pad b).length cV]) (ok := tt) (okp := tt) ?hr14 ?hrep14 (fun _ h => h) trivial HB.out ?hS14 (by simp) ?_
          case hr14 => first | (go_simp; done) | (go_simp; rfl)
          case hrep14 => exact reps_bs HV.out
          case hS14 => exact sz_le HS.out
          intro vM w35_4 ho hb hg _
          have bl := grown_below hg
          obtain ⟨AM, cM, rfl⟩ := Kd.R_slice ho
          have HM := Aside0.mk ho
          have HS' := Aside0.mk (HS.out.below bl)
          have HB' := Aside0.mk hb
          have HK' := Aside0.mk (HK.out.below' HK0.out bl)
          clear HS HB HK  bl hb hg ho
          have HS := HS'
          have HB := HB'
          have HK := HK'
          clear HS' HB' HK' 
          show K (Act.put _ (some 36) _) _
          simp only [Act.put, List.setIfInBounds_toArray, List.set_cons_zero, List.set_cons_succ]
          refine hK.out _ _ ⟨(blk_cell HS.out.blk 3).trans rfl, (blk_cell HS.out.blk 4).trans rfl⟩ (fun hHeld => ?_)
          clear hK K
          refine one_ (i := 16) (N := some 37) #[true, true, true, true, true, true, true, true, true, true, true, true, true, true, true, true, true, false, false, false, false, false, false] rfl rfl (by kernel_rfl) (by decide) (fun K hK => ?_)
          refine Kd.R_append_rows_step bsK (w0 := w) base (by rfl) (.tmp 33) (.tmp 36) 24 56 (.slice none 0 0) 24 rfl Try.underlying24 INF28.out rfl (by decide) (by decide) (.slice AW r1.ws.length cW) r1.ws [(pad b)] _ _ _ tt (fun q => tt q ∧ some q ≠ (Value.slice AW r1.ws.length cW).ownBlock) rfl rfl HS.out.rW (bs_reads HM.out) (fun x c h => M_ne h HS.out.rW) (fun q h => ⟨trivial, h.2⟩) (fun _ _ => trivial) HB.out (sz_le HS.out) ?hl15 ?_
          case hl15 => have := HLN.out; simp; omega
          intro v37 w35_5 ho hb hg hat
          have HS' := Aside0.mk (HS.out.growW ho hg hat)
          have HB' := Aside0.mk hb
          have HK' := Aside0.mk (HK.out.row' HK0.out hg HNW.out (fun q e => by obtain ⟨cs, hc⟩ := own_of HS.out.rW q e; exact ⟨cs, 56, hc, .inr (.inr rfl)⟩))
          have HNW2 := Aside0.mk (no_next HK0.out HK.out.1.1 HNW.out hat)
          clear HS HB HK  hb hg ho hat
          have HS := HS'
          have HB := HB'
          have HK := HK'
          clear HS' HB' HK' 
          show K (Act.put _ (some 37) _) _
          simp only [Act.put, List.setIfInBounds_toArray, List.set_cons_zero, List.set_cons_succ]
          refine hK.out _ _ ⟨(blk_cell HS.out.blk 3).trans rfl, (blk_cell HS.out.blk 4).trans rfl⟩ (fun hHeld => ?_)
          clear hK K
          obtain ⟨A29, c29, rfl⟩ := Kd.R_slice HS.out.rT
          obtain ⟨A37, c37, rfl⟩ := Kd.R_slice HS.out.rW
          refine pure_ (i := 17) (N := some 38) (v := ?_) (a' := ?_) #[true, true, true, true, true, true, true, true, true, true, true, true, true, true, true, true, true, true, false, false, false, false, false] rfl rfl (by kernel_rfl) (fun _ _ _ h => h) (Or.inl ⟨by rfl, ?_⟩) ?_ ?_
          rotate_left
          · intro w'
            go_simp
            with_reducible rfl
          rotate_left
          · simp only [Act.put, List.setIfInBounds_toArray, List.set_cons_zero, List.set_cons_succ]
            rfl
          refine pure_ (i := 18) (N := some 39) (v := ?_) (a' := ?_) #[true, true, true, true, true, true, true, true, true, true, true, true, true, true, true, true, true, true, true, false, false, false, false] rfl rfl (by kernel_rfl) (fun _ _ _ h => h) (Or.inl ⟨by rfl, ?_⟩) ?_ ?_
          rotate_left
          · intro w'
            go_simp
            with_reducible rfl
          rotate_left
          · simp only [Act.put, List.setIfInBounds_toArray, List.set_cons_zero, List.set_cons_succ]
            rfl
          refine last_ (i := 19) (N := none) #[true, true, true, true, true, true, true, true, true, true, true, true, true, true, true, true, true, true, true, true, false, false, false] rfl rfl (by kernel_rfl) (by decide) (fun K hK => ?_)
          refine skip_ (by rfl) rfl (exec_stA (x := .tmp 39) (v := .tmp 29) rfl (by kernel_rfl) rfl rfl ((blk_cell HS.out.blk 3).trans rfl) (blk_frozen HS.out.blk 3)) ?_
          have HS' := Aside0.mk (HS.out.put 3 (.slice A29 (r1.to_ ++ [i]).length c29))
          have HB' := Aside0.mk (HB.out.setCell (p := ⟨g, 3, none⟩) HS.out.ge (.slice A29 (r1.to_ ++ [i]).length c29))
          have HK' := Aside0.mk (HK.out.set' HS.out.blk HKG.out (j := 3) (.slice A29 (r1.to_ ++ [i]).length c29))
          clear HS HB HK
          have HS := HS'
          have HB := HB'
          have HK := HK'
          clear HS' HB' HK'
          refine hK.out _ _ ?_
          clear hK K
          refine pure_ (i := 20) (N := some 40) (v := ?_) (a' := ?_) #[true, true, true, true, true, true, true, true, true, true, true, true, true, true, true, true, true, true, true, true, true, false, false] rfl rfl (by kernel_rfl) (fun _ _ _ h => h) (Or.inl ⟨by rfl, ?_⟩) ?_ ?_
          rotate_left
          · intro w'
            go_simp
            with_reducible rfl
          rotate_left
          · simp only [Act.put, List.setIfInBounds_toArray, List.set_cons_zero, List.set_cons_succ]
            rfl
          refine pure_ (i := 21) (N := some 41) (v := ?_) (a' := ?_) #[true, true, true, true, true, true, true, true, true, true, true, true, true, true, true, true, true, true, true, true, true, true, false] rfl rfl (by kernel_rfl) (fun _ _ _ h => h) (Or.inl ⟨by rfl, ?_⟩) ?_ ?_
          rotate_left
          · intro w'
            go_simp
            with_reducible rfl
          rotate_left
          · simp only [Act.put, List.setIfInBounds_toArray, List.set_cons_zero, List.set_cons_succ]
            rfl
          refine last_ (i := 22) (N := none) #[true, true, true, true, true, true, true, true, true, true, true, true, true, true, true, true, true, true, true, true, true, true, true] rfl rfl (by kernel_rfl) (by decide) (fun K hK => ?_)
          refine skip_ (by rfl) rfl (exec_stA (x := .tmp 41) (v := .tmp 37) rfl (by kernel_rfl) rfl rfl ((blk_cell HS.out.blk 4).trans rfl) (blk_frozen HS.out.blk 4)) ?_
          have HS' := Aside0.mk (HS.out.put 4 (.slice A37 (r1.ws ++ [pad b]).length c37))
          have HB' := Aside0.mk (HB.out.setCell (p := ⟨g, 4, none⟩) HS.out.ge (.slice A37 (r1.ws ++ [pad b]).length c37))
          have HK' := Aside0.mk (HK.out.set' HS.out.blk HKG.out (j := 4) (.slice A37 (r1.ws ++ [pad b]).length c37))
          clear HS HB HK
          have HS := HS'
          have HB := HB'
          have HK := HK'
          clear HS' HB' HK'
          refine hK.out _ _ ?_
          clear hK K
          refine done_ (by kernel_rfl) ?_
          go_wp2
          go_ret
          exact ⟨rfl, ⟨_, _, _, _, St.at_ (r := { r1 with to_ := r1.to_ ++ [i], ws := r1.ws ++ [pad b] }) HS.out, ⟨HNO.out.1, HNO.out.2.1, HNT2.out, HNW2.out⟩, HKG.out, Nat.lt_of_lt_of_le HK0.out HK.out.1.1⟩, HB.out, HK.out⟩
end Go.Proofs.Ytmghgghheebnjaa.Dis
