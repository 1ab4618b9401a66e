/- Words of blocks, without the walks of Merge (written by splwords.py). -/
import Derived.Test.YtbpnkgaomobpkaaMrgE
namespace Go.Proofs.Ytbpnkgaomobpkaa.Mrg
open Go.RowKit Go.Proofs.Ytbpnkgaomobpkaa.PNxu Go.Proofs.YtbpnkgaomobpkaaW.PrintWords Go.Proofs.YtbpnkgaomobpkaaW.PrintLast Go.Proofs.YtbpnkgaomobpkaaW.PrintMore Go.Proofs.Ytbpnkgaomobpkaa.Pure
set_option linter.unusedVariables false
set_option linter.unusedSimpArgs false
/-- Where a block's rows lie. -/
structure At where
  a1 : Option Addr
  c1 : Nat
  a2 : Option Addr
  c2 : Nat
  a3 : Option Addr
  c3 : Nat
structure Bk (w : World) (p : At) (b : Bool) (K V : List ByteArray) (D : List Int) : Prop where
  k : Kd.C Kd.string w p.a1 K.length K
  kc : K.length ≤ p.c1
  v : Kd.C Kd.string w p.a2 V.length V
  vc : V.length ≤ p.c2
  d : Kd.C (Kd.int .i64) w p.a3 D.length D
  dc : D.length ≤ p.c3
theorem Bk.below {w w' : World} {p : At} {b : Bool} {K V : List ByteArray} {D : List Int} (h : Bk w p b K V D) (hb : Below w.heap.size w w') : Bk w' p b K V D := ⟨Kd.C_below h.k hb, h.kc, Kd.C_below h.v hb, h.vc, Kd.C_below h.d hb, h.dc⟩
def cellsB (p : At) (b : Bool) (nk nv nd : Nat) : Array Value := #[.bool b, .slice p.a1 nk p.c1, .slice p.a2 nv p.c2, .slice p.a3 nd p.c3]
theorem ncan_c {w : World} {p : At} {b : Bool} {K V : List ByteArray} {D : List Int} (h : Bk w p b K V D) (h1 : K.length ≤ 1000000 ∧ V.length ≤ 1000000 ∧ D.length ≤ 1000000) (r : Bool) (hr : r = true ↔ CanP b K V D) :
    Calls Try.prog 35 #[.agg #[.bool b, .slice p.a1 K.length p.c1, .slice p.a2 V.length p.c2, .slice p.a3 D.length p.c3]] w fun e w' => e = .returned (.bool r) ∧ Below w.heap.size w w' := by
  obtain ⟨r', hr', he⟩ := ncan_ev b K V D h1.1 h1.2.1 h1.2.2
  obtain ⟨k, hk⟩ := hr'.rounds
  rw [bool_of hr he]
  exact node_can.calls k b p.a1 p.c1 K p.a2 p.c2 V p.a3 p.c3 D r' w h.k h.kc h.v h.vc h.d h.dc hk
theorem rcan_c {w : World} {p : At} {b : Bool} {K V : List ByteArray} {D : List Int} (h : Bk w p b K V D) (h1 : K.length ≤ 1000000 ∧ V.length ≤ 1000000 ∧ D.length ≤ 1000000) (r : Bool) (hr : r = true ↔ CanP b K V D) :
    Calls Try.prog 9 #[.agg #[.bool b, .slice p.a1 K.length p.c1, .slice p.a2 V.length p.c2, .slice p.a3 D.length p.c3]] w fun e w' => e = .returned (.bool r) ∧ Below w.heap.size w w' := by
  obtain ⟨r', hr', he⟩ := rcan_ev b K V D h1.1 h1.2.1 h1.2.2
  obtain ⟨k, hk⟩ := hr'.rounds
  rw [bool_of hr he]
  exact aukletref22_Can.calls k b p.a1 p.c1 K p.a2 p.c2 V p.a3 p.c3 D r' w h.k h.kc h.v h.vc h.d h.dc hk
theorem is_bool (p : Prop) : ∃ r : Bool, (r = true ↔ p) := by
  rcases Classical.em p with h | h
  · exact ⟨true, ⟨fun _ => h, fun _ => rfl⟩⟩
  · exact ⟨false, ⟨fun e => (by cases e), fun e => absurd e h⟩⟩
theorem nneed_c {w : World} {p : At} {b : Bool} {K V : List ByteArray} {D : List Int} (h : Bk w p b K V D) (hK : Small K) (hV : Small V) (n : Nat) (hn : n ≤ K.length) (hb : b = true → n ≤ V.length) :
    Calls Try.prog 36 #[.agg #[.bool b, .slice p.a1 K.length p.c1, .slice p.a2 V.length p.c2, .slice p.a3 D.length p.c3], .int .i64 n] w fun e w' => e = .returned (.int .i64 (needTo b K V n)) ∧ Below w.heap.size w w' := by
  obtain ⟨k, hk⟩ := (nneed_ev b K V D hK hV n hn hb).rounds
  exact node_need.calls k b p.a1 p.c1 K p.a2 p.c2 V p.a3 p.c3 D n _ w h.k h.kc h.v h.vc h.d h.dc hk
theorem rneed_c {w : World} {p : At} {b : Bool} {K V : List ByteArray} {D : List Int} (h : Bk w p b K V D) (hK : Small K) (hV : Small V) (n : Nat) (hn : n ≤ K.length) :
    Calls Try.prog 20 #[.agg #[.bool b, .slice p.a1 K.length p.c1, .slice p.a2 V.length p.c2, .slice p.a3 D.length p.c3], .int .i64 n] w fun e w' => e = .returned (.int .i64 (needTo b K V n)) ∧ Below w.heap.size w w' := by
  obtain ⟨k, hk⟩ := (rneed_ev b K V D hK hV n hn).rounds
  exact aukletref22_Need.calls k b p.a1 p.c1 K p.a2 p.c2 V p.a3 p.c3 D n _ w h.k h.kc h.v h.vc h.d h.dc hk
/-- What two blocks and a key between them become. -/
def btw (b : Bool) (key : ByteArray) : List ByteArray := if b then [] else [key]
def outK (b : Bool) (K1 : List ByteArray) (key : ByteArray) (K2 : List ByteArray) : List ByteArray := K1 ++ (btw b key ++ K2)
def MergeP (b1 : Bool) (K1 V1 : List ByteArray) (D1 : List Int) (key : ByteArray) (b2 : Bool) (K2 V2 : List ByteArray) (D2 : List Int) : Prop :=
  CanP b1 K1 V1 D1 ∧ CanP b2 K2 V2 D2 ∧ b1 = b2 ∧ CanP b1 (outK b1 K1 key K2) (V1 ++ V2) (D1 ++ D2) ∧ needTo b1 (outK b1 K1 key K2) (V1 ++ V2) (outK b1 K1 key K2).length ≤ 509
theorem small_can {b : Bool} {K V : List ByteArray} {D : List Int} (h : CanP b K V D) (h1 : K.length ≤ 100000) (h2 : V.length ≤ 100000) : Small K ∧ Small V ∧ (b = true → K.length ≤ V.length) := by
  have hk : ∀ i, sz K i ≤ 1000 := fun i => by
    by_cases c : i < K.length
    · exact Nat.le_trans (h.1 i (Nat.zero_le _) c).1 (by decide)
    · rw [sz_out (by omega)]; omega
  cases b with
  | true =>
    obtain ⟨_, t1, t2⟩ := tail_v h.2
    refine ⟨⟨h1, hk⟩, ⟨h2, fun i => ?_⟩, fun _ => by omega⟩
    by_cases c : i < V.length
    · exact Nat.le_trans (t2 i c) (by decide)
    · rw [sz_out (by omega)]; omega
  | false =>
    obtain ⟨t1, _⟩ := tail_d h.2
    exact ⟨⟨h1, hk⟩, ⟨h2, fun i => by rw [sz_out (by omega)]; omega⟩, fun h => by cases h⟩
theorem cell_heap {w : World} {g : Nat} {cs : Array Value} {T : TypeId} {fr : Nat × Nat} (h : w.heap[g]? = some (.cells cs T fr)) (j : Nat) : w.cell? ⟨g, j, none⟩ = cs[j]? := by
  unfold World.cell?
  simp [h]
theorem cells_of {w : World} {g : Nat} {v0 v1 v2 v3 : Value} (h : w.heap[g]? = some (.cells #[v0, v1, v2, v3] 25 (0, 0))) : w.cell? ⟨g, 0, none⟩ = some v0 ∧ w.cell? ⟨g, 1, none⟩ = some v1 ∧ w.cell? ⟨g, 2, none⟩ = some v2 ∧ w.cell? ⟨g, 3, none⟩ = some v3 := ⟨cell_heap h 0, cell_heap h 1, cell_heap h 2, cell_heap h 3⟩
theorem frz_of {w : World} {g : Nat} {cs : Array Value} {T : TypeId} (h : w.heap[g]? = some (.cells cs T (0, 0))) (j : Nat) : w.frozen? ⟨g, j, none⟩ = false := by simp [World.frozen?, h]
def set4 (w : World) (g : Nat) (v0 v1 v2 v3 : Value) : World := (((w.setCell ⟨g, 0, none⟩ v0).setCell ⟨g, 1, none⟩ v1).setCell ⟨g, 2, none⟩ v2).setCell ⟨g, 3, none⟩ v3
theorem set4_blk {w : World} {g : Nat} {u0 u1 u2 u3 : Value} (h : w.heap[g]? = some (.cells #[u0, u1, u2, u3] 25 (0, 0))) (v0 v1 v2 v3 : Value) : (set4 w g v0 v1 v2 v3).heap[g]? = some (.cells #[v0, v1, v2, v3] 25 (0, 0)) :=
  blk_put (cs := #[v0, v1, v2, u3]) (blk_put (cs := #[v0, v1, u2, u3]) (blk_put (cs := #[v0, u1, u2, u3]) (blk_put (cs := #[u0, u1, u2, u3]) h 0 _ rfl) 1 _ rfl) 2 _ rfl) 3 _ rfl
theorem set4_far (w : World) (g : Nat) (v0 v1 v2 v3 : Value) (k : Nat) (hk : k ≠ g) : (set4 w g v0 v1 v2 v3).heap[k]? = w.heap[k]? := by
  unfold set4
  rw [Below.heap_setCell _ _ _ _ hk, Below.heap_setCell _ _ _ _ hk, Below.heap_setCell _ _ _ _ hk, Below.heap_setCell _ _ _ _ hk]
theorem set4_below {base g : Nat} {w w1 : World} (h : Below base w w1) (hg : base ≤ g) (v0 v1 v2 v3 : Value) : Below base w (set4 w1 g v0 v1 v2 v3) := (((h.setCell hg _).setCell hg _).setCell hg _).setCell hg _
theorem boxes3 (W : World) (o3 o5 o6 : Obj) : (((W.alloc o3).alloc o5).alloc o6).heap[W.heap.size]? = some o3 ∧ (((W.alloc o3).alloc o5).alloc o6).heap[W.heap.size + 1]? = some o5 ∧ (((W.alloc o3).alloc o5).alloc o6).heap[W.heap.size + 1 + 1]? = some o6 ∧ Below W.heap.size W (((W.alloc o3).alloc o5).alloc o6) ∧ (((W.alloc o3).alloc o5).alloc o6).heap.size = W.heap.size + 1 + 1 + 1 := by
  have s1 : (W.alloc o3).heap.size = W.heap.size + 1 := by simp
  have s2 : ((W.alloc o3).alloc o5).heap.size = W.heap.size + 1 + 1 := by simp
  have b1 : Below W.heap.size W (W.alloc o3) := below_alloc (Below.refl _ _) _
  have b2 : Below W.heap.size W ((W.alloc o3).alloc o5) := b1.alloc b1.size _
  have c1 : Below (W.alloc o3).heap.size (W.alloc o3) (((W.alloc o3).alloc o5).alloc o6) := by
    have := below_alloc (Below.refl (W.alloc o3).heap.size (W.alloc o3)) o5
    exact this.alloc this.size _
  have c2 : Below ((W.alloc o3).alloc o5).heap.size ((W.alloc o3).alloc o5) (((W.alloc o3).alloc o5).alloc o6) := below_alloc (Below.refl _ _) _
  refine ⟨?_, ?_, ?_, b2.alloc b2.size _, by simp⟩
  · exact blk_below (blk_new W o3) c1
  · have := blk_below (blk_new (W.alloc o3) o5) c2
    rw [s1] at this
    exact this
  · have := blk_new ((W.alloc o3).alloc o5) o6
    rw [s2] at this
    exact this
theorem blk_ext {w w' : World} {g : Nat} {o : Obj} (h : w.heap[g]? = some o) (hb : Below w.heap.size w w') : w'.heap[g]? = some o := blk_below h hb
/-- A row of values just made. -/
def RowsAt (w : World) (x : Value) (vs : Array Value) (T : TypeId) : Prop := ∃ g, x = .slice (some ⟨g, 0, none⟩) vs.size vs.size ∧ w.heap[g]? = some (.cells vs T (0, 0))
theorem RowsAt.below {w w' : World} {x : Value} {vs : Array Value} {T : TypeId} (h : RowsAt w x vs T) (hb : Below w.heap.size w w') : RowsAt w' x vs T := by
  obtain ⟨g, h1, h2⟩ := h
  exact ⟨g, h1, blk_below h2 hb⟩
def RowR {α : Type} (d : Kd α) (e : Nat) (base : Nat) (w : World) (x : Value) (l : List α) : Prop := d.R e w base tt x l
theorem RowR.below {α : Type} {d : Kd α} {e base : Nat} {w w' : World} {x : Value} {l : List α} (h : RowR d e base w x l) (hb : Below w.heap.size w w') : RowR d e base w' x l := Kd.R_below h hb
def BoxAt (base : Nat) (w : World) (x : Value) (cs : Array Value) : Prop := ∃ g, x = .pointer (some ⟨g, 0, none⟩) ∧ w.heap[g]? = some (.cells cs 25 (0, 0)) ∧ base ≤ g
theorem BoxAt.below {base : Nat} {w w' : World} {x : Value} {cs : Array Value} (h : BoxAt base w x cs) (hb : Below w.heap.size w w') : BoxAt base w' x cs := by
  obtain ⟨g, h1, h2, h3⟩ := h
  exact ⟨g, h1, blk_below h2 hb, h3⟩
/-- A row of rows, read. -/
theorem rowsC {α : Type} {d : Kd α} {e T g : Nat} {w : World} (rs : List (List α × Option Addr × Nat)) (h : w.heap[g]? = some (.cells (rs.map fun r => Value.slice r.2.1 r.1.length r.2.2).toArray T (0, 0))) (hr : ∀ r ∈ rs, r.1.length ≤ r.2.2 ∧ d.C w r.2.1 r.1.length r.1) (hl : rs.length ≤ 1000) :
    (Kd.slice e d).C w (some ⟨g, 0, none⟩) rs.length (rs.map (·.1)) := by
  refine ⟨by simp, by omega, fun _ => ⟨_, rfl, fun j p hj => ?_⟩⟩
  rw [List.getElem?_map] at hj
  obtain ⟨r, hr1, rfl⟩ := Option.map_eq_some_iff.1 hj
  have hm := hr r (List.mem_of_getElem? hr1)
  refine ⟨[.slice r.2.1 r.1.length r.2.2], rfl, ⟨r.2.1, r.2.2, rfl, hm.1, hm.2⟩, fun i u hi => ?_⟩
  match i, hi with
  | 0, hi =>
    obtain rfl : Value.slice r.2.1 r.1.length r.2.2 = u := by simpa using hi
    have hs : (Kd.slice e d).sz = 1 := rfl
    rw [hs, Nat.mul_one, Nat.add_zero]
    have hadd : (⟨g, 0, none⟩ : Addr).add j = ⟨g, j, none⟩ := by
      unfold Addr.add
      by_cases hj0 : j = 0 <;> simp [hj0]
    rw [hadd, cell_heap h j]
    simp [hr1]
theorem strC {w : World} {g : Nat} {key : ByteArray} (h : w.heap[g]? = some (.cells #[.string key] 9 (0, 0))) : Kd.C Kd.string w (some ⟨g, 0, none⟩) 1 [key] := by
  refine ⟨rfl, by decide, fun _ => ⟨_, rfl, fun j p hj => ?_⟩⟩
  match j, hj with
  | 0, hj =>
    obtain rfl : key = p := by simpa using hj
    refine ⟨[.string key], rfl, rfl, fun i u hi => ?_⟩
    match i, hi with
    | 0, hi =>
      obtain rfl : Value.string key = u := by simpa using hi
      exact (cell_heap h 0).trans rfl
/-- A row of the call's own is not the block of a struct. -/
theorem RowR.set4 {α : Type} {d : Kd α} {e base g : Nat} {w : World} {x : Value} {l : List α} {cs : Array Value} (h : RowR d e base w x l) (hg : w.heap[g]? = some (.cells cs 25 (0, 0))) (ht : ∀ q, q ∈ e :: d.E → q ≠ 25) (v0 v1 v2 v3 : Value) : RowR d e base (set4 w g v0 v1 v2 v3) x l :=
  Kd.R_mono (Kd.R_far (p := ⟨g, 3, none⟩) (Kd.R_far (p := ⟨g, 2, none⟩) (Kd.R_far (p := ⟨g, 1, none⟩) (Kd.R_far (p := ⟨g, 0, none⟩) (Kd.R_types h hg ht) (fun _ hk => hk.2) v0) (fun _ hk => hk.2) v1) (fun _ hk => hk.2) v2) (fun _ hk => hk.2) v3) (fun _ _ => trivial)
theorem bk_of {base : Nat} {w : World} {A7 A8 A9 : Option Addr} {c7 c8 c9 : Nat} {b : Bool} {K V : List ByteArray} {D : List Int} (h1 : RowR Kd.string 9 base w (.slice A7 K.length c7) K) (h2 : RowR Kd.string 9 base w (.slice A8 V.length c8) V) (h3 : RowR (Kd.int .i64) 3 base w (.slice A9 D.length c9) D) : Bk w ⟨A7, c7, A8, c8, A9, c9⟩ b K V D :=
  ⟨(Kd.R_reads' h1).2.2, (Kd.R_reads' h1).2.1, (Kd.R_reads' h2).2.2, (Kd.R_reads' h2).2.1, (Kd.R_reads' h3).2.2, (Kd.R_reads' h3).2.1⟩
/-- What is given back: the block if m, else none. -/
def resL {α : Type} (m : Bool) (l : List α) : List α := if m then l else []
def p0 : At := ⟨none, 0, none, 0, none, 0⟩
theorem Bk.none (w : World) (b : Bool) : Bk w p0 b [] [] [] := ⟨⟨rfl, by simp, fun h => absurd h (by simp)⟩, Nat.le_refl _, ⟨rfl, by simp, fun h => absurd h (by simp)⟩, Nat.le_refl _, ⟨rfl, by simp, fun h => absurd h (by simp)⟩, Nat.le_refl _⟩
/-- A block of the call's own. -/
structure BkR (base : Nat) (w : World) (p : At) (K V : List ByteArray) (D : List Int) : Prop where
  k : RowR Kd.string 9 base w (.slice p.a1 K.length p.c1) K
  v : RowR Kd.string 9 base w (.slice p.a2 V.length p.c2) V
  d : RowR (Kd.int .i64) 3 base w (.slice p.a3 D.length p.c3) D
theorem BkR.bk {base : Nat} {w : World} {p : At} {K V : List ByteArray} {D : List Int} (h : BkR base w p K V D) (b : Bool) : Bk w p b K V D := bk_of h.k h.v h.d
theorem BkR.below {base : Nat} {w w' : World} {p : At} {K V : List ByteArray} {D : List Int} (h : BkR base w p K V D) (hb : Below w.heap.size w w') : BkR base w' p K V D := ⟨h.k.below hb, h.v.below hb, h.d.below hb⟩
theorem BkR.set4 {base g : Nat} {w : World} {p : At} {K V : List ByteArray} {D : List Int} {cs : Array Value} (h : BkR base w p K V D) (hg : w.heap[g]? = some (.cells cs 25 (0, 0))) (v0 v1 v2 v3 : Value) : BkR base (set4 w g v0 v1 v2 v3) p K V D :=
  ⟨h.k.set4 hg (by intro q hq; simp [Kd.string, Kd.scalar] at hq; subst hq; decide) _ _ _ _, h.v.set4 hg (by intro q hq; simp [Kd.string, Kd.scalar] at hq; subst hq; decide) _ _ _ _, h.d.set4 hg (by intro q hq; simp [Kd.int, Kd.scalar] at hq; subst hq; decide) _ _ _ _⟩
theorem BkR.lower {base base' : Nat} {w : World} {p : At} {K V : List ByteArray} {D : List Int} (h : BkR base w p K V D) (hb : base' ≤ base) : BkR base' w p K V D := ⟨Kd.R_lower h.k hb, Kd.R_lower h.v hb, Kd.R_lower h.d hb⟩
theorem BkR.none (base : Nat) (w : World) : BkR base w p0 [] [] [] := ⟨Kd.R_nil _ _ _ _ _, Kd.R_nil _ _ _ _ _, Kd.R_nil _ _ _ _ _⟩
/-- A row of the call's own, of one block. -/
def RowS {α : Type} (d : Kd α) (e : Nat) (base : Nat) (w : World) (x : Value) (l : List α) : Prop := d.R e w base (fun k => x.ownBlock = some k) x l
theorem rowS_s {base : Nat} {w : World} {ok : Nat → Prop} {x : Value} {l : List ByteArray} (h : Kd.string.R 9 w base ok x l) : RowS Kd.string 9 base w x l := ⟨fun _ h => h, h.2⟩
theorem rowS_i {base : Nat} {w : World} {ok : Nat → Prop} {x : Value} {l : List Int} (h : (Kd.int .i64).R 3 w base ok x l) : RowS (Kd.int .i64) 3 base w x l := ⟨fun _ h => h, h.2⟩
theorem RowS.tt {α : Type} {d : Kd α} {e base : Nat} {w : World} {x : Value} {l : List α} (h : RowS d e base w x l) : d.R e w base tt x l := Kd.R_mono h (fun _ _ => trivial)
theorem RowS.below {α : Type} {d : Kd α} {e base : Nat} {w w' : World} {x : Value} {l : List α} (h : RowS d e base w x l) (hb : Below w.heap.size w w') : RowS d e base w' x l := Kd.R_below h hb
def Sep (x y : Value) : Prop := ∀ k, x.ownBlock = some k → y.ownBlock ≠ some k
theorem Sep.symm {x y : Value} (h : Sep x y) : Sep y x := fun k h1 h2 => h k h2 h1
/-- A row's block is there. -/
def Lt (w : World) (x : Value) : Prop := ∀ k, x.ownBlock = some k → k < w.heap.size
theorem Lt.up {w w' : World} {x : Value} (h : Lt w x) (hs : w.heap.size ≤ w'.heap.size) : Lt w' x := fun k hk => Nat.lt_of_lt_of_le (h k hk) hs
theorem RowS.lt {α : Type} {d : Kd α} {e base : Nat} {w : World} {x : Value} {l : List α} (h : RowS d e base w x l) : Lt w x := Kd.R_lt h
theorem sep_fresh {w : World} {v y : Value} (h : ∃ b, v.ownBlock = some b ∧ w.heap.size ≤ b) (hy : Lt w y) : Sep v y := fun k hk hyk => by
  obtain ⟨b, hb, hs⟩ := h
  rw [hb] at hk
  injection hk with hk
  subst hk
  have := hy b hyk
  omega
theorem sep_next {w : World} {x v y : Value} (h : v.ownBlock = x.ownBlock ∨ ∃ b, v.ownBlock = some b ∧ w.heap.size ≤ b) (hxy : Sep x y) (hy : Lt w y) : Sep v y := by
  rcases h with h | h
  · intro k hk
    exact hxy k (by rw [← h]; exact hk)
  · exact sep_fresh h hy
theorem RowS.grown {α : Type} {d : Kd α} {e base : Nat} {w w' : World} {x y : Value} {l : List α} (h : RowS d e base w x l) (hg : w.grownBy w' y.ownBlock) (hs : Sep x y) : RowS d e base w' x l :=
  Kd.R_grown h hg (fun k hk e => hs k hk e.symm)
theorem RowS.grown0 {α : Type} {d : Kd α} {e base : Nat} {w w' : World} {x : Value} {l : List α} (h : RowS d e base w x l) (hg : w.grownBy w' none) : RowS d e base w' x l :=
  Kd.R_grown h hg (fun k hk e => by cases e)
theorem sep_types {α β : Type} {d : Kd α} {d' : Kd β} {e e' base base' : Nat} {w : World} {x y : Value} {l : List α} {l' : List β} (h : RowS d e base w x l) (h' : RowS d' e' base' w y l') (he : e ≠ e') : Sep x y := fun k hk hy => by
  obtain ⟨_, h1⟩ := own_typed (Kd.R_own h).choose_spec k hk
  obtain ⟨_, h2⟩ := own_typed (Kd.R_own h').choose_spec k hy
  rw [h1] at h2
  injection h2 with h2
  injection h2 with _ h3
  exact he h3
/-- A struct's block stays when a row is written. -/
theorem blk_grown {α : Type} {d : Kd α} {e base : Nat} {w w' : World} {y : Value} {l : List α} {g : Nat} {cs : Array Value} (hb : w.heap[g]? = some (.cells cs 25 (0, 0))) (h : RowS d e base w y l) (he : e ≠ 25) (hg : w.grownBy w' y.ownBlock) : w'.heap[g]? = some (.cells cs 25 (0, 0)) := by
  rw [hg.block g (Array.getElem?_eq_some_iff.1 hb).1 (fun hk => by
    obtain ⟨_, h1⟩ := own_typed (Kd.R_own h).choose_spec g hk.symm
    rw [hb] at h1
    injection h1 with h1
    injection h1 with _ h3
    exact he h3.symm)]
  exact hb
theorem BoxAt.grown {α : Type} {d : Kd α} {e base base' : Nat} {w w' : World} {x y : Value} {l : List α} {cs : Array Value} (h : BoxAt base' w x cs) (hy : RowS d e base w y l) (he : e ≠ 25) (hg : w.grownBy w' y.ownBlock) : BoxAt base' w' x cs := by
  obtain ⟨g, h1, h2, h3⟩ := h
  exact ⟨g, h1, blk_grown h2 hy he hg, h3⟩
theorem BoxAt.grown0 {base' : Nat} {w w' : World} {x : Value} {cs : Array Value} (h : BoxAt base' w x cs) (hg : w.grownBy w' none) : BoxAt base' w' x cs := by
  obtain ⟨g, h1, h2, h3⟩ := h
  exact ⟨g, h1, (hg.block g (Array.getElem?_eq_some_iff.1 h2).1 (by simp)).trans h2, h3⟩
theorem RowS.set1 {α : Type} {d : Kd α} {e base g j : Nat} {w : World} {x : Value} {l : List α} {cs : Array Value} (h : RowS d e base w x l) (hg : w.heap[g]? = some (.cells cs 25 (0, 0))) (he : e ≠ 25) (v : Value) : RowS d e base (w.setCell ⟨g, j, none⟩ v) x l :=
  Kd.R_far (p := ⟨g, j, none⟩) h (fun k hk hkg => by
    obtain ⟨_, h1⟩ := own_typed (Kd.R_own h).choose_spec k hk
    have hkg : k = g := hkg
    subst hkg
    rw [hg] at h1
    injection h1 with h1
    injection h1 with _ h3
    exact he h3.symm) v
theorem RowS.set4 {α : Type} {d : Kd α} {e base g : Nat} {w : World} {x : Value} {l : List α} {u0 u1 u2 u3 : Value} (h : RowS d e base w x l) (hg : w.heap[g]? = some (.cells #[u0, u1, u2, u3] 25 (0, 0))) (he : e ≠ 25) (v0 v1 v2 v3 : Value) : RowS d e base (set4 w g v0 v1 v2 v3) x l := by
  have q0 := blk_put (cs := #[u0, u1, u2, u3]) (cs' := #[v0, u1, u2, u3]) hg 0 v0 rfl
  have q1 := blk_put (cs' := #[v0, v1, u2, u3]) q0 1 v1 rfl
  have q2 := blk_put (cs' := #[v0, v1, v2, u3]) q1 2 v2 rfl
  exact (((h.set1 hg he v0).set1 q0 he v1).set1 q1 he v2).set1 q2 he v3
theorem bkS_of {base : Nat} {w : World} {A7 A8 A9 : Option Addr} {c7 c8 c9 : Nat} {b : Bool} {K V : List ByteArray} {D : List Int} (h1 : RowS Kd.string 9 base w (.slice A7 K.length c7) K) (h2 : RowS Kd.string 9 base w (.slice A8 V.length c8) V) (h3 : RowS (Kd.int .i64) 3 base w (.slice A9 D.length c9) D) : Bk w ⟨A7, c7, A8, c8, A9, c9⟩ b K V D :=
  bk_of (RowS.tt h1) (RowS.tt h2) (RowS.tt h3)
theorem on_att : ∀ (d : List Bool) (j : Nat), (on d j).getD j true = true
  | [], j => by cases j <;> rfl
  | b :: bs, 0 => rfl
  | b :: bs, j + 1 => by
    have := on_att bs j
    simpa [on] using this
theorem on_net : ∀ (d : List Bool) (j i : Nat), i ≠ j → (on d j).getD i true = d.getD i true
  | [], j, i, _ => rfl
  | b :: bs, 0, 0, h => absurd rfl h
  | b :: bs, 0, i + 1, h => rfl
  | b :: bs, j + 1, 0, h => rfl
  | b :: bs, j + 1, i + 1, h => by
    have := on_net bs j i (by omega)
    simpa [on] using this
theorem lives_c (w : World) : Calls Try.prog 10 #[] w fun e w' => e = .returned (.bool true) ∧ Below w.heap.size w w' := by
  obtain ⟨k, hk⟩ := node_lives.rounds
  exact aukletlaw22_lives.calls k true w hk
theorem few_c {b : Bool} {K V : List ByteArray} {D : List Int} : ∃ r : Bool, (r = true → Small K ∧ Small V ∧ D.length ≤ 300 ∧ K.length ≤ 300 ∧ V.length ≤ 300) ∧ ∀ (w : World) (p : At), Bk w p b K V D →
    Calls Try.prog 8 #[.agg #[.bool b, .slice p.a1 K.length p.c1, .slice p.a2 V.length p.c2, .slice p.a3 D.length p.c3]] w fun e w' => e = .returned (.bool r) ∧ Below w.heap.size w w' := by
  obtain ⟨r, hr, he⟩ := few_ev b K V D
  obtain ⟨k, hk⟩ := hr.rounds
  exact ⟨r, he, fun w p h => aukletlaw22_few.calls k b p.a1 p.c1 K p.a2 p.c2 V p.a3 p.c3 D r w h.k h.kc h.v h.vc h.d h.dc hk⟩
theorem same_c {w : World} {p q : At} {b : Bool} {K V : List ByteArray} {D : List Int} (h : Bk w p b K V D) (h' : Bk w q b K V D) (hl : K.length ≤ 1000000 ∧ V.length ≤ 1000000 ∧ D.length ≤ 1000000) :
    Calls Try.prog 15 #[.agg #[.bool b, .slice p.a1 K.length p.c1, .slice p.a2 V.length p.c2, .slice p.a3 D.length p.c3], .agg #[.bool b, .slice q.a1 K.length q.c1, .slice q.a2 V.length q.c2, .slice q.a3 D.length q.c3]] w fun e w' => e = .returned (.bool true) ∧ Below w.heap.size w w' := by
  obtain ⟨k, hk⟩ := (same_b b K V D hl.1 hl.2.1 hl.2.2).rounds
  exact aukletref22_Same.calls k b p.a1 p.c1 K p.a2 p.c2 V p.a3 p.c3 D b q.a1 q.c1 K q.a2 q.c2 V q.a3 q.c3 D true w h.k h.kc h.v h.vc h.d h.dc h'.k h'.kc h'.v h'.vc h'.d h'.dc hk
/-- A block of the call's own; in a pair with a truth; in a struct's block. -/
def OwnR (base : Nat) (w : World) (x : Value) (b : Bool) (K V : List ByteArray) (D : List Int) : Prop := ∃ p : At, x = .agg #[.bool b, .slice p.a1 K.length p.c1, .slice p.a2 V.length p.c2, .slice p.a3 D.length p.c3] ∧ BkR base w p K V D
theorem OwnR.below {base : Nat} {w w' : World} {x : Value} {b : Bool} {K V : List ByteArray} {D : List Int} (h : OwnR base w x b K V D) (hb : Below w.heap.size w w') : OwnR base w' x b K V D := by
  obtain ⟨p, h1, h2⟩ := h
  exact ⟨p, h1, h2.below hb⟩
def TupR (base : Nat) (w : World) (x : Value) (m b : Bool) (K V : List ByteArray) (D : List Int) : Prop := ∃ p : At, x = .tuple #[.agg #[.bool b, .slice p.a1 K.length p.c1, .slice p.a2 V.length p.c2, .slice p.a3 D.length p.c3], .bool m] ∧ BkR base w p K V D
theorem TupR.below {base : Nat} {w w' : World} {x : Value} {m b : Bool} {K V : List ByteArray} {D : List Int} (h : TupR base w x m b K V D) (hb : Below w.heap.size w w') : TupR base w' x m b K V D := by
  obtain ⟨p, h1, h2⟩ := h
  exact ⟨p, h1, h2.below hb⟩
theorem TupR.set4 {base g : Nat} {w : World} {x : Value} {m b : Bool} {K V : List ByteArray} {D : List Int} {cs : Array Value} (h : TupR base w x m b K V D) (hg : w.heap[g]? = some (.cells cs 25 (0, 0))) (v0 v1 v2 v3 : Value) : TupR base (set4 w g v0 v1 v2 v3) x m b K V D := by
  obtain ⟨p, h1, h2⟩ := h
  exact ⟨p, h1, h2.set4 hg _ _ _ _⟩
theorem TupR.lower {base base' : Nat} {w : World} {x : Value} {m b : Bool} {K V : List ByteArray} {D : List Int} (h : TupR base w x m b K V D) (hb : base' ≤ base) : TupR base' w x m b K V D := by
  obtain ⟨p, h1, h2⟩ := h
  exact ⟨p, h1, h2.lower hb⟩
def StoredAt (base : Nat) (w : World) (x : Value) (b : Bool) (K V : List ByteArray) (D : List Int) : Prop := ∃ (g : Nat) (p : At), x = .pointer (some ⟨g, 0, none⟩) ∧ w.heap[g]? = some (.cells #[.bool b, .slice p.a1 K.length p.c1, .slice p.a2 V.length p.c2, .slice p.a3 D.length p.c3] 25 (0, 0)) ∧ base ≤ g ∧ BkR base w p K V D
theorem StoredAt.below {base : Nat} {w w' : World} {x : Value} {b : Bool} {K V : List ByteArray} {D : List Int} (h : StoredAt base w x b K V D) (hb : Below w.heap.size w w') : StoredAt base w' x b K V D := by
  obtain ⟨g, p, h1, h2, h3, h4⟩ := h
  exact ⟨g, p, h1, blk_below h2 hb, h3, h4.below hb⟩
/-- A block in memory, and in a pair with a truth. -/
def OwnAt (w : World) (x : Value) (b : Bool) (K V : List ByteArray) (D : List Int) : Prop := ∃ p : At, x = .agg #[.bool b, .slice p.a1 K.length p.c1, .slice p.a2 V.length p.c2, .slice p.a3 D.length p.c3] ∧ Bk w p b K V D
theorem OwnAt.below {w w' : World} {x : Value} {b : Bool} {K V : List ByteArray} {D : List Int} (h : OwnAt w x b K V D) (hb : Below w.heap.size w w') : OwnAt w' x b K V D := by
  obtain ⟨p, h1, h2⟩ := h
  exact ⟨p, h1, h2.below hb⟩
theorem own_c {w : World} {p : At} {b : Bool} {K V : List ByteArray} {D : List Int} (h : Bk w p b K V D) (hl : K.length ≤ 1000000 ∧ V.length ≤ 1000000 ∧ D.length ≤ 1000000) :
    Calls Try.prog 18 #[.agg #[.bool b, .slice p.a1 K.length p.c1, .slice p.a2 V.length p.c2, .slice p.a3 D.length p.c3]] w fun e w' => ∃ v, e = .returned v ∧ OwnAt w' v b K V D ∧ Below w.heap.size w w' := by
  have hf : aukletref22_Own.f b K V D = some (b, K, V, D) := by
    unfold aukletref22_Own.f
    simp only [Option.bind_some, List.nil_append, List.length_nil]
    rw [if_pos (by omega), if_pos (by omega), if_pos (by omega)]
  refine (aukletref22_Own.calls b p.a1 p.c1 K p.a2 p.c2 V p.a3 p.c3 D b K V D w h.k h.kc h.v h.vc h.d h.dc hf).mono ?_
  rintro e w' ⟨v1, v2, v3, rfl, h1, h2, h3, hb⟩
  obtain ⟨A1, c1, rfl⟩ := Kd.R_slice h1
  obtain ⟨A2, c2, rfl⟩ := Kd.R_slice h2
  obtain ⟨A3, c3, rfl⟩ := Kd.R_slice h3
  exact ⟨_, rfl, ⟨⟨A1, c1, A2, c2, A3, c3⟩, rfl, ⟨(Kd.R_reads' h1).2.2, (Kd.R_reads' h1).2.1, (Kd.R_reads' h2).2.2, (Kd.R_reads' h2).2.1, (Kd.R_reads' h3).2.2, (Kd.R_reads' h3).2.1⟩⟩, hb⟩
theorem resL_len {α : Type} (m : Bool) (l : List α) : (resL m l).length ≤ l.length := by cases m <;> simp [resL]
theorem boxes2 (W : World) (o3 o5 : Obj) : ((W.alloc o3).alloc o5).heap[W.heap.size]? = some o3 ∧ ((W.alloc o3).alloc o5).heap[W.heap.size + 1]? = some o5 ∧ Below W.heap.size W ((W.alloc o3).alloc o5) := by
  obtain ⟨h3, h5, _, hb, _⟩ := boxes3 W o3 o5 o3
  have s1 : (W.alloc o3).heap.size = W.heap.size + 1 := by simp
  have b1 : Below W.heap.size W (W.alloc o3) := below_alloc (Below.refl _ _) _
  refine ⟨blk_below (blk_new W o3) (below_alloc (Below.refl _ _) _), ?_, b1.alloc b1.size _⟩
  have := blk_new (W.alloc o3) o5
  rw [s1] at this
  exact this
end Go.Proofs.Ytbpnkgaomobpkaa.Mrg
