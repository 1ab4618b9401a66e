/- The answer's disk: its four rows as they grow; laws for the steps of set and Write. -/
import Derived.Test.YtnaegemldpfllaaRfB
namespace Go.Proofs.Ytnaegemldpfllaa.Dis
open Go.RowKit Go.Proofs.YtnaegemldpfllaaW.PrintWords Go.Proofs.YtnaegemldpfllaaW.PrintLast Go.Proofs.YtnaegemldpfllaaW.PrintMore Go.Maps
set_option linter.unusedVariables false
set_option linter.unusedSimpArgs false
abbrev tt : Nat → Prop := fun _ => True
/-- The block and the four rows, while they grow. -/
structure St (base : Nat) (w : World) (g : Nat) (c : Array Value) (xA : Value) (lA : List Int) (xB : Value) (lB : List (List Int)) (xT : Value) (lT : List Int) (xW : Value) (lW : List (List Int)) : Prop where
  blk : w.heap[g]? = some (.cells c 51 (0, 0))
  ge : base ≤ g
  rA : aKi.R 3 w base tt xA lA
  rB : bsK.R 28 w base tt xB lB
  rT : aKi.R 3 w base tt xT lT
  rW : bsK.R 28 w base tt xW lW
  sA : ∀ k, xA.ownBlock = some k → xT.ownBlock ≠ some k
  sB : ∀ k, xB.ownBlock = some k → xW.ownBlock ≠ some k
theorem RfAt.st {base g : Nat} {w : World} {r : Rf} {vA vB vT vW : Value} (h : RfAt base w g r vA vB vT vW) : St base w g (rcells r vA vB vT vW) vA r.at_ vB r.b vT r.to_ vW r.ws := ⟨h.blk, h.ge, h.rA, h.rB, h.rT, h.rW, h.sA, h.sB⟩
theorem St.at_ {base g : Nat} {w : World} {r : Rf} {vA vB vT vW : Value} (h : St base w g (rcells r vA vB vT vW) vA r.at_ vB r.b vT r.to_ vW r.ws) : RfAt base w g r vA vB vT vW := ⟨h.blk, h.ge, h.rA, h.rB, h.rT, h.rW, h.sA, h.sB⟩
section
variable {base g : Nat} {w w1 : World} {c : Array Value} {xA xB xT xW : Value} {lA lT : List Int} {lB lW : List (List Int)}
theorem iE (e' : Nat) : ∀ q ∈ aKi.E, q ≠ e' := fun q hq => by simp [Kd.int, Kd.scalar] at hq
theorem bE {e' : Nat} (h : e' ≠ 5) : ∀ q ∈ bsK.E, q ≠ e' := fun q hq => by
  have : q = 5 := by simpa [bsK, Kd.slice, Kd.int, Kd.scalar] using hq
  rw [this]; exact fun e => h e.symm
/-- Two rows of different types. -/
theorem own_types {α β : Type} {d : Kd α} {d' : Kd β} {e e' : Nat} {W : World} {b b' : Nat} {ok ok' : Nat → Prop} {v v' : Value} {xs : List α} {ys : List β} (h : d.R e W b ok v xs) (h' : d'.R e' W b' ok' v' ys) (hne : e ≠ e') (k : Nat) (hk : v.ownBlock = some k) : v'.ownBlock ≠ some k := fun hk' => by
  obtain ⟨cs, hc⟩ := own_of h k hk
  obtain ⟨cs', hc'⟩ := own_of h' k hk'
  rw [hc] at hc'; injection hc' with hc'; injection hc' with _ ht; exact hne ht
theorem St.below (h : St base w g c xA lA xB lB xT lT xW lW) (hb : Below w.heap.size w w1) : St base w1 g c xA lA xB lB xT lT xW lW :=
  ⟨blk_below h.blk hb, h.ge, Kd.R_below h.rA hb, Kd.R_below h.rB hb, Kd.R_below h.rT hb, Kd.R_below h.rW hb, h.sA, h.sB⟩
theorem blk_own {α : Type} {d : Kd α} {e : Nat} {v : Value} {xs : List α} {t : Nat} {cs : Array Value} (hb : w.heap[g]? = some (.cells cs t (0, 0))) (hr : d.R e w base tt v xs) (ht : t ≠ e) (hg : w.grownBy w1 v.ownBlock) : w1.heap[g]? = some (.cells cs t (0, 0)) :=
  blk_grown hb hg (fun e' => by
    obtain ⟨cs', hc⟩ := own_of hr g e'.symm
    rw [hb] at hc; injection hc with hc; injection hc with _ h5; exact ht h5)
/-- One of the rows has grown. -/
theorem St.growA (h : St base w g c xA lA xB lB xT lT xW lW) {v1 : Value} {l1 : List Int} (hr : aKi.R 3 w1 base tt v1 l1) (hg : w.grownBy w1 xA.ownBlock) (hat : v1.ownBlock = xA.ownBlock ∨ ∃ b, v1.ownBlock = some b ∧ w.heap.size ≤ b) : St base w1 g c v1 l1 xB lB xT lT xW lW where
  blk := blk_own h.blk h.rA (by decide) hg
  ge := h.ge
  rA := hr
  rB := R_side h.rB (bE (by decide)) hg (fun k hk => ⟨own_of h.rA k hk, fun e => own_types h.rB h.rA (by decide) k e hk⟩)
  rT := R_side h.rT (iE 3) hg (fun k hk => ⟨own_of h.rA k hk, h.sA k hk⟩)
  rW := R_side h.rW (bE (by decide)) hg (fun k hk => ⟨own_of h.rA k hk, fun e => own_types h.rW h.rA (by decide) k e hk⟩)
  sA := fun k hk e => by
    rcases hat with h1 | ⟨b, h1, h2⟩
    · exact h.sA k (h1 ▸ hk) e
    · rw [h1] at hk; injection hk with hk; have := Kd.R_lt h.rT k e; omega
  sB := h.sB
theorem St.growB (h : St base w g c xA lA xB lB xT lT xW lW) {v1 : Value} {l1 : List (List Int)} (hr : bsK.R 28 w1 base tt v1 l1) (hg : w.grownBy w1 xB.ownBlock) (hat : v1.ownBlock = xB.ownBlock ∨ ∃ b, v1.ownBlock = some b ∧ w.heap.size ≤ b) : St base w1 g c xA lA v1 l1 xT lT xW lW where
  blk := blk_own h.blk h.rB (by decide) hg
  ge := h.ge
  rA := R_side h.rA (iE 28) hg (fun k hk => ⟨own_of h.rB k hk, fun e => own_types h.rA h.rB (by decide) k e hk⟩)
  rB := hr
  rT := R_side h.rT (iE 28) hg (fun k hk => ⟨own_of h.rB k hk, fun e => own_types h.rT h.rB (by decide) k e hk⟩)
  rW := R_side h.rW (bE (by decide)) hg (fun k hk => ⟨own_of h.rB k hk, h.sB k hk⟩)
  sA := h.sA
  sB := fun k hk e => by
    rcases hat with h1 | ⟨b, h1, h2⟩
    · exact h.sB k (h1 ▸ hk) e
    · rw [h1] at hk; injection hk with hk; have := Kd.R_lt h.rW k e; omega
theorem St.growT (h : St base w g c xA lA xB lB xT lT xW lW) {v1 : Value} {l1 : List Int} (hr : aKi.R 3 w1 base tt v1 l1) (hg : w.grownBy w1 xT.ownBlock) (hat : v1.ownBlock = xT.ownBlock ∨ ∃ b, v1.ownBlock = some b ∧ w.heap.size ≤ b) : St base w1 g c xA lA xB lB v1 l1 xW lW where
  blk := blk_own h.blk h.rT (by decide) hg
  ge := h.ge
  rA := R_side h.rA (iE 3) hg (fun k hk => ⟨own_of h.rT k hk, fun e => h.sA k e hk⟩)
  rB := R_side h.rB (bE (by decide)) hg (fun k hk => ⟨own_of h.rT k hk, fun e => own_types h.rB h.rT (by decide) k e hk⟩)
  rT := hr
  rW := R_side h.rW (bE (by decide)) hg (fun k hk => ⟨own_of h.rT k hk, fun e => own_types h.rW h.rT (by decide) k e hk⟩)
  sA := fun k hk e => by
    rcases hat with h1 | ⟨b, h1, h2⟩
    · exact h.sA k hk (h1 ▸ e)
    · rw [h1] at e; injection e with e; have := Kd.R_lt h.rA k hk; omega
  sB := h.sB
theorem St.growW (h : St base w g c xA lA xB lB xT lT xW lW) {v1 : Value} {l1 : List (List Int)} (hr : bsK.R 28 w1 base tt v1 l1) (hg : w.grownBy w1 xW.ownBlock) (hat : v1.ownBlock = xW.ownBlock ∨ ∃ b, v1.ownBlock = some b ∧ w.heap.size ≤ b) : St base w1 g c xA lA xB lB xT lT v1 l1 where
  blk := blk_own h.blk h.rW (by decide) hg
  ge := h.ge
  rA := R_side h.rA (iE 28) hg (fun k hk => ⟨own_of h.rW k hk, fun e => own_types h.rA h.rW (by decide) k e hk⟩)
  rB := R_side h.rB (bE (by decide)) hg (fun k hk => ⟨own_of h.rW k hk, fun e => h.sB k e hk⟩)
  rT := R_side h.rT (iE 28) hg (fun k hk => ⟨own_of h.rW k hk, fun e => own_types h.rT h.rW (by decide) k e hk⟩)
  rW := hr
  sA := h.sA
  sB := fun k hk e => by
    rcases hat with h1 | ⟨b, h1, h2⟩
    · exact h.sB k hk (h1 ▸ e)
    · rw [h1] at e; injection e with e; have := Kd.R_lt h.rB k hk; omega
/-- The disk's own block turns in any cell. -/
theorem St.put (h : St base w g c xA lA xB lB xT lT xW lW) (j : Nat) (u : Value) : St base (w.setCell ⟨g, j, none⟩ u) g (c.setIfInBounds j u) xA lA xB lB xT lT xW lW := by
  have hn : ∀ (k : Nat), some g = some k → (∃ cs, w.heap[k]? = some (.cells cs 51 (0, 0))) := fun k hk => by cases hk; exact ⟨_, h.blk⟩
  have nA : ∀ {v : Value} {α : Type} {d : Kd α} {q : Nat} {xs : List α}, d.R q w base tt v xs → q ≠ 51 → ∀ k, some g = some k → v.ownBlock ≠ some k := fun hr hq k hk e => by
    cases hk
    obtain ⟨cs, hc⟩ := own_of hr _ e
    rw [h.blk] at hc
    injection hc with hc
    injection hc with _ ht
    exact hq ht.symm
  exact ⟨blk_put h.blk j u rfl, h.ge, R_side h.rA (iE 51) (set_grown w g j u) (fun k hk => ⟨hn k hk, nA h.rA (by decide) k hk⟩), R_side h.rB (bE (by decide)) (set_grown w g j u) (fun k hk => ⟨hn k hk, nA h.rB (by decide) k hk⟩),
    R_side h.rT (iE 51) (set_grown w g j u) (fun k hk => ⟨hn k hk, nA h.rT (by decide) k hk⟩), R_side h.rW (bE (by decide)) (set_grown w g j u) (fun k hk => ⟨hn k hk, nA h.rW (by decide) k hk⟩), h.sA, h.sB⟩
end
theorem R_okb {w : World} {base : Nat} {ok : Nat → Prop} {v : Value} {xs : List Int} {g : Option Nat} (h : Kd.R (Kd.int .u8) 5 w base ok v xs) (h' : ∀ k, v.ownBlock = some k → some k ≠ g) : Kd.R (Kd.int .u8) 5 w base (fun q => tt q ∧ some q ≠ g) v xs := Kd.R_of_own (Kd.own_of_R h) (fun k hk => ⟨trivial, h' k hk⟩)
/-- An element of a row of rows, put anew. -/
theorem bs_put {W : World} {base g n cap : Nat} {xs : List (List Int)} {u : Value} {s : List Int} (h : bsK.R 28 W base tt (.slice (some ⟨g, 0, none⟩) n cap) xs) (hn : xs.length = n) (k : Nat) (hk : k < n) (hs : (Kd.int .u8).R 5 W base tt u s) :
    bsK.R 28 (W.setCell ⟨g, k, none⟩ u) base tt (.slice (some ⟨g, 0, none⟩) n cap) (xs.set k s) ∧ W.grownBy (W.setCell ⟨g, k, none⟩ u) (some g) := by
  subst hn
  obtain ⟨cg, hcg⟩ := own_of h g (by simp [Value.ownBlock])
  obtain ⟨h0, inner, ho, hr⟩ := h
  have hst := ho.stored k u
  refine ⟨⟨fun _ _ => trivial, inner.set k u, by rw [List.length_set]; exact hst.1, ⟨?_, fun j p hj => ?_⟩⟩, hst.2⟩
  · rw [List.length_set, List.length_set]; exact hr.1
  · have hsz : bsK.sz = 1 := rfl
    have hil : inner.length = xs.length := by have := hr.1; rw [hsz, Nat.mul_one] at this; exact this
    have mv : ∀ {x : List Int} {cs : List Value}, bsK.M W base (fun q => tt q ∧ some q ≠ (Value.slice (some ⟨g, 0, none⟩) xs.length cap).ownBlock) x cs → bsK.M (W.setCell ⟨g, k, none⟩ u) base (fun q => tt q ∧ some q ≠ (Value.slice (some ⟨g, 0, none⟩) xs.length cap).ownBlock) x cs := fun hm =>
      Kd.M_step hm (fun q hq _ => Below.heap_setCell W ⟨g, k, none⟩ u q (fun e => hq.2 (by rw [e]; rfl)))
    obtain ⟨hj1, hj2⟩ := List.getElem?_eq_some_iff.1 hj
    have hjl : j < xs.length := by rw [List.length_set] at hj1; exact hj1
    by_cases hjk : k = j
    · subst hjk
      rw [List.getElem_set_self] at hj2
      subst hj2
      have e : ((inner.set k u).drop (k * bsK.sz)).take bsK.sz = [u] := by
        rw [hsz, Nat.mul_one, List.drop_eq_getElem_cons (by rw [List.length_set]; omega), List.getElem_set_self]
        rfl
      rw [e]
      refine mv ⟨u, rfl, R_okb hs (fun q hq e => ?_)⟩
      obtain ⟨cs, hc⟩ := own_of hs q hq
      have : q = g := by simpa [Value.ownBlock] using e
      rw [this, hcg] at hc; injection hc with hc; injection hc with _ ht; exact absurd ht (by decide)
    · rw [List.getElem_set_ne hjk] at hj2
      have e : ((inner.set k u).drop (j * bsK.sz)).take bsK.sz = (inner.drop (j * bsK.sz)).take bsK.sz := by
        rw [hsz, Nat.mul_one, List.drop_eq_getElem_cons (by rw [List.length_set]; omega), List.drop_eq_getElem_cons (l := inner) (i := j) (by omega), List.getElem_set_ne hjk]
        rfl
      rw [e]
      exact mv (hr.2 j p (by rw [List.getElem?_eq_getElem hjl, hj2]))
end Go.Proofs.Ytnaegemldpfllaa.Dis
