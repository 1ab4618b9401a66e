/- The document's Merge, walked by hand (written by mkmrgc.py). -/
import Derived.Test.YtbpnkgaomobpkaaMrgB
namespace Go.Proofs.Ytbpnkgaomobpkaa.Mrg
open Go.RowKit Go.Proofs.Ytbpnkgaomobpkaa.PNxu Go.Proofs.YtbpnkgaomobpkaaW.PrintWords Go.Proofs.YtbpnkgaomobpkaaW.PrintLast Go.Proofs.YtbpnkgaomobpkaaW.PrintMore Go.Proofs.Ytbpnkgaomobpkaa.Pure
set_option linter.unusedVariables false
set_option linter.unusedSimpArgs false
/-- A row of the call's own, of one block. -/
def RowS {α : Type} (d : Kd α) (e : Nat) (base : Nat) (w : World) (x : Value) (l : List α) : Prop := d.R e w base (fun k => x.ownBlock = some k) x l
theorem rowS_s {base : Nat} {w : World} {ok : Nat → Prop} {x : Value} {l : List ByteArray} (h : Kd.string.R 9 w base ok x l) : RowS Kd.string 9 base w x l := ⟨fun _ h => h, h.2⟩
theorem rowS_i {base : Nat} {w : World} {ok : Nat → Prop} {x : Value} {l : List Int} (h : (Kd.int .i64).R 3 w base ok x l) : RowS (Kd.int .i64) 3 base w x l := ⟨fun _ h => h, h.2⟩
theorem RowS.tt {α : Type} {d : Kd α} {e base : Nat} {w : World} {x : Value} {l : List α} (h : RowS d e base w x l) : d.R e w base tt x l := Kd.R_mono h (fun _ _ => trivial)
theorem RowS.below {α : Type} {d : Kd α} {e base : Nat} {w w' : World} {x : Value} {l : List α} (h : RowS d e base w x l) (hb : Below w.heap.size w w') : RowS d e base w' x l := Kd.R_below h hb
def Sep (x y : Value) : Prop := ∀ k, x.ownBlock = some k → y.ownBlock ≠ some k
theorem Sep.symm {x y : Value} (h : Sep x y) : Sep y x := fun k h1 h2 => h k h2 h1
/-- A row's block is there. -/
def Lt (w : World) (x : Value) : Prop := ∀ k, x.ownBlock = some k → k < w.heap.size
theorem Lt.up {w w' : World} {x : Value} (h : Lt w x) (hs : w.heap.size ≤ w'.heap.size) : Lt w' x := fun k hk => Nat.lt_of_lt_of_le (h k hk) hs
theorem RowS.lt {α : Type} {d : Kd α} {e base : Nat} {w : World} {x : Value} {l : List α} (h : RowS d e base w x l) : Lt w x := Kd.R_lt h
theorem sep_fresh {w : World} {v y : Value} (h : ∃ b, v.ownBlock = some b ∧ w.heap.size ≤ b) (hy : Lt w y) : Sep v y := fun k hk hyk => by
  obtain ⟨b, hb, hs⟩ := h
  rw [hb] at hk
  injection hk with hk
  subst hk
  have := hy b hyk
  omega
theorem sep_next {w : World} {x v y : Value} (h : v.ownBlock = x.ownBlock ∨ ∃ b, v.ownBlock = some b ∧ w.heap.size ≤ b) (hxy : Sep x y) (hy : Lt w y) : Sep v y := by
  rcases h with h | h
  · intro k hk
    exact hxy k (by rw [← h]; exact hk)
  · exact sep_fresh h hy
theorem RowS.grown {α : Type} {d : Kd α} {e base : Nat} {w w' : World} {x y : Value} {l : List α} (h : RowS d e base w x l) (hg : w.grownBy w' y.ownBlock) (hs : Sep x y) : RowS d e base w' x l :=
  Kd.R_grown h hg (fun k hk e => hs k hk e.symm)
theorem RowS.grown0 {α : Type} {d : Kd α} {e base : Nat} {w w' : World} {x : Value} {l : List α} (h : RowS d e base w x l) (hg : w.grownBy w' none) : RowS d e base w' x l :=
  Kd.R_grown h hg (fun k hk e => by cases e)
theorem sep_types {α β : Type} {d : Kd α} {d' : Kd β} {e e' base base' : Nat} {w : World} {x y : Value} {l : List α} {l' : List β} (h : RowS d e base w x l) (h' : RowS d' e' base' w y l') (he : e ≠ e') : Sep x y := fun k hk hy => by
  obtain ⟨_, h1⟩ := own_typed (Kd.R_own h).choose_spec k hk
  obtain ⟨_, h2⟩ := own_typed (Kd.R_own h').choose_spec k hy
  rw [h1] at h2
  injection h2 with h2
  injection h2 with _ h3
  exact he h3
/-- A struct's block stays when a row is written. -/
theorem blk_grown {α : Type} {d : Kd α} {e base : Nat} {w w' : World} {y : Value} {l : List α} {g : Nat} {cs : Array Value} (hb : w.heap[g]? = some (.cells cs 25 (0, 0))) (h : RowS d e base w y l) (he : e ≠ 25) (hg : w.grownBy w' y.ownBlock) : w'.heap[g]? = some (.cells cs 25 (0, 0)) := by
  rw [hg.block g (Array.getElem?_eq_some_iff.1 hb).1 (fun hk => by
    obtain ⟨_, h1⟩ := own_typed (Kd.R_own h).choose_spec g hk.symm
    rw [hb] at h1
    injection h1 with h1
    injection h1 with _ h3
    exact he h3.symm)]
  exact hb
theorem BoxAt.grown {α : Type} {d : Kd α} {e base base' : Nat} {w w' : World} {x y : Value} {l : List α} {cs : Array Value} (h : BoxAt base' w x cs) (hy : RowS d e base w y l) (he : e ≠ 25) (hg : w.grownBy w' y.ownBlock) : BoxAt base' w' x cs := by
  obtain ⟨g, h1, h2, h3⟩ := h
  exact ⟨g, h1, blk_grown h2 hy he hg, h3⟩
theorem BoxAt.grown0 {base' : Nat} {w w' : World} {x : Value} {cs : Array Value} (h : BoxAt base' w x cs) (hg : w.grownBy w' none) : BoxAt base' w' x cs := by
  obtain ⟨g, h1, h2, h3⟩ := h
  exact ⟨g, h1, (hg.block g (Array.getElem?_eq_some_iff.1 h2).1 (by simp)).trans h2, h3⟩
theorem RowS.set1 {α : Type} {d : Kd α} {e base g j : Nat} {w : World} {x : Value} {l : List α} {cs : Array Value} (h : RowS d e base w x l) (hg : w.heap[g]? = some (.cells cs 25 (0, 0))) (he : e ≠ 25) (v : Value) : RowS d e base (w.setCell ⟨g, j, none⟩ v) x l :=
  Kd.R_far (p := ⟨g, j, none⟩) h (fun k hk hkg => by
    obtain ⟨_, h1⟩ := own_typed (Kd.R_own h).choose_spec k hk
    have hkg : k = g := hkg
    subst hkg
    rw [hg] at h1
    injection h1 with h1
    injection h1 with _ h3
    exact he h3.symm) v
theorem RowS.set4 {α : Type} {d : Kd α} {e base g : Nat} {w : World} {x : Value} {l : List α} {u0 u1 u2 u3 : Value} (h : RowS d e base w x l) (hg : w.heap[g]? = some (.cells #[u0, u1, u2, u3] 25 (0, 0))) (he : e ≠ 25) (v0 v1 v2 v3 : Value) : RowS d e base (set4 w g v0 v1 v2 v3) x l := by
  have q0 := blk_put (cs := #[u0, u1, u2, u3]) (cs' := #[v0, u1, u2, u3]) hg 0 v0 rfl
  have q1 := blk_put (cs' := #[v0, v1, u2, u3]) q0 1 v1 rfl
  have q2 := blk_put (cs' := #[v0, v1, v2, u3]) q1 2 v2 rfl
  exact (((h.set1 hg he v0).set1 q0 he v1).set1 q1 he v2).set1 q2 he v3
theorem bkS_of {base : Nat} {w : World} {A7 A8 A9 : Option Addr} {c7 c8 c9 : Nat} {b : Bool} {K V : List ByteArray} {D : List Int} (h1 : RowS Kd.string 9 base w (.slice A7 K.length c7) K) (h2 : RowS Kd.string 9 base w (.slice A8 V.length c8) V) (h3 : RowS (Kd.int .i64) 3 base w (.slice A9 D.length c9) D) : Bk w ⟨A7, c7, A8, c8, A9, c9⟩ b K V D :=
  bk_of (RowS.tt h1) (RowS.tt h2) (RowS.tt h3)
theorem on_att : ∀ (d : List Bool) (j : Nat), (on d j).getD j true = true
  | [], j => by cases j <;> rfl
  | b :: bs, 0 => rfl
  | b :: bs, j + 1 => by
    have := on_att bs j
    simpa [on] using this
theorem on_net : ∀ (d : List Bool) (j i : Nat), i ≠ j → (on d j).getD i true = d.getD i true
  | [], j, i, _ => rfl
  | b :: bs, 0, 0, h => absurd rfl h
  | b :: bs, 0, i + 1, h => rfl
  | b :: bs, j + 1, 0, h => rfl
  | b :: bs, j + 1, i + 1, h => by
    have := on_net bs j i (by omega)
    simpa [on] using this
end Go.Proofs.Ytbpnkgaomobpkaa.Mrg
