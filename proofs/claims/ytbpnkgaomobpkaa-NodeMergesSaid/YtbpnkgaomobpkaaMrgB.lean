/- The blocks' functions in short form; node.Merge and the document's Merge, walked by hand. -/
import Derived.Test.YtbpnkgaomobpkaaMrgE
namespace Go.Proofs.Ytbpnkgaomobpkaa.Mrg
open Go.RowKit Go.Proofs.Ytbpnkgaomobpkaa.PNxu Go.Proofs.YtbpnkgaomobpkaaW.PrintWords Go.Proofs.YtbpnkgaomobpkaaW.PrintLast Go.Proofs.YtbpnkgaomobpkaaW.PrintMore Go.Proofs.Ytbpnkgaomobpkaa.Pure
set_option linter.unusedVariables false
set_option linter.unusedSimpArgs false
/-- Where a block's rows lie. -/
structure At where
  a1 : Option Addr
  c1 : Nat
  a2 : Option Addr
  c2 : Nat
  a3 : Option Addr
  c3 : Nat
structure Bk (w : World) (p : At) (b : Bool) (K V : List ByteArray) (D : List Int) : Prop where
  k : Kd.C Kd.string w p.a1 K.length K
  kc : K.length ≤ p.c1
  v : Kd.C Kd.string w p.a2 V.length V
  vc : V.length ≤ p.c2
  d : Kd.C (Kd.int .i64) w p.a3 D.length D
  dc : D.length ≤ p.c3
theorem Bk.below {w w' : World} {p : At} {b : Bool} {K V : List ByteArray} {D : List Int} (h : Bk w p b K V D) (hb : Below w.heap.size w w') : Bk w' p b K V D := ⟨Kd.C_below h.k hb, h.kc, Kd.C_below h.v hb, h.vc, Kd.C_below h.d hb, h.dc⟩
def cellsB (p : At) (b : Bool) (nk nv nd : Nat) : Array Value := #[.bool b, .slice p.a1 nk p.c1, .slice p.a2 nv p.c2, .slice p.a3 nd p.c3]
theorem ncan_c {w : World} {p : At} {b : Bool} {K V : List ByteArray} {D : List Int} (h : Bk w p b K V D) (h1 : K.length ≤ 1000000 ∧ V.length ≤ 1000000 ∧ D.length ≤ 1000000) (r : Bool) (hr : r = true ↔ CanP b K V D) :
    Calls Try.prog 35 #[.agg #[.bool b, .slice p.a1 K.length p.c1, .slice p.a2 V.length p.c2, .slice p.a3 D.length p.c3]] w fun e w' => e = .returned (.bool r) ∧ Below w.heap.size w w' := by
  obtain ⟨r', hr', he⟩ := ncan_ev b K V D h1.1 h1.2.1 h1.2.2
  obtain ⟨k, hk⟩ := hr'.rounds
  rw [bool_of hr he]
  exact node_can.calls k b p.a1 p.c1 K p.a2 p.c2 V p.a3 p.c3 D r' w h.k h.kc h.v h.vc h.d h.dc hk
theorem rcan_c {w : World} {p : At} {b : Bool} {K V : List ByteArray} {D : List Int} (h : Bk w p b K V D) (h1 : K.length ≤ 1000000 ∧ V.length ≤ 1000000 ∧ D.length ≤ 1000000) (r : Bool) (hr : r = true ↔ CanP b K V D) :
    Calls Try.prog 9 #[.agg #[.bool b, .slice p.a1 K.length p.c1, .slice p.a2 V.length p.c2, .slice p.a3 D.length p.c3]] w fun e w' => e = .returned (.bool r) ∧ Below w.heap.size w w' := by
  obtain ⟨r', hr', he⟩ := rcan_ev b K V D h1.1 h1.2.1 h1.2.2
  obtain ⟨k, hk⟩ := hr'.rounds
  rw [bool_of hr he]
  exact aukletref22_Can.calls k b p.a1 p.c1 K p.a2 p.c2 V p.a3 p.c3 D r' w h.k h.kc h.v h.vc h.d h.dc hk
theorem is_bool (p : Prop) : ∃ r : Bool, (r = true ↔ p) := by
  rcases Classical.em p with h | h
  · exact ⟨true, ⟨fun _ => h, fun _ => rfl⟩⟩
  · exact ⟨false, ⟨fun e => (by cases e), fun e => absurd e h⟩⟩
theorem nneed_c {w : World} {p : At} {b : Bool} {K V : List ByteArray} {D : List Int} (h : Bk w p b K V D) (hK : Small K) (hV : Small V) (n : Nat) (hn : n ≤ K.length) (hb : b = true → n ≤ V.length) :
    Calls Try.prog 36 #[.agg #[.bool b, .slice p.a1 K.length p.c1, .slice p.a2 V.length p.c2, .slice p.a3 D.length p.c3], .int .i64 n] w fun e w' => e = .returned (.int .i64 (needTo b K V n)) ∧ Below w.heap.size w w' := by
  obtain ⟨k, hk⟩ := (nneed_ev b K V D hK hV n hn hb).rounds
  exact node_need.calls k b p.a1 p.c1 K p.a2 p.c2 V p.a3 p.c3 D n _ w h.k h.kc h.v h.vc h.d h.dc hk
theorem rneed_c {w : World} {p : At} {b : Bool} {K V : List ByteArray} {D : List Int} (h : Bk w p b K V D) (hK : Small K) (hV : Small V) (n : Nat) (hn : n ≤ K.length) :
    Calls Try.prog 20 #[.agg #[.bool b, .slice p.a1 K.length p.c1, .slice p.a2 V.length p.c2, .slice p.a3 D.length p.c3], .int .i64 n] w fun e w' => e = .returned (.int .i64 (needTo b K V n)) ∧ Below w.heap.size w w' := by
  obtain ⟨k, hk⟩ := (rneed_ev b K V D hK hV n hn).rounds
  exact aukletref22_Need.calls k b p.a1 p.c1 K p.a2 p.c2 V p.a3 p.c3 D n _ w h.k h.kc h.v h.vc h.d h.dc hk
/-- What two blocks and a key between them become. -/
def btw (b : Bool) (key : ByteArray) : List ByteArray := if b then [] else [key]
def outK (b : Bool) (K1 : List ByteArray) (key : ByteArray) (K2 : List ByteArray) : List ByteArray := K1 ++ (btw b key ++ K2)
def MergeP (b1 : Bool) (K1 V1 : List ByteArray) (D1 : List Int) (key : ByteArray) (b2 : Bool) (K2 V2 : List ByteArray) (D2 : List Int) : Prop :=
  CanP b1 K1 V1 D1 ∧ CanP b2 K2 V2 D2 ∧ b1 = b2 ∧ CanP b1 (outK b1 K1 key K2) (V1 ++ V2) (D1 ++ D2) ∧ needTo b1 (outK b1 K1 key K2) (V1 ++ V2) (outK b1 K1 key K2).length ≤ 509
theorem small_can {b : Bool} {K V : List ByteArray} {D : List Int} (h : CanP b K V D) (h1 : K.length ≤ 100000) (h2 : V.length ≤ 100000) : Small K ∧ Small V ∧ (b = true → K.length ≤ V.length) := by
  have hk : ∀ i, sz K i ≤ 1000 := fun i => by
    by_cases c : i < K.length
    · exact Nat.le_trans (h.1 i (Nat.zero_le _) c).1 (by decide)
    · rw [sz_out (by omega)]; omega
  cases b with
  | true =>
    obtain ⟨_, t1, t2⟩ := tail_v h.2
    refine ⟨⟨h1, hk⟩, ⟨h2, fun i => ?_⟩, fun _ => by omega⟩
    by_cases c : i < V.length
    · exact Nat.le_trans (t2 i c) (by decide)
    · rw [sz_out (by omega)]; omega
  | false =>
    obtain ⟨t1, _⟩ := tail_d h.2
    exact ⟨⟨h1, hk⟩, ⟨h2, fun i => by rw [sz_out (by omega)]; omega⟩, fun h => by cases h⟩
theorem cell_heap {w : World} {g : Nat} {cs : Array Value} {T : TypeId} {fr : Nat × Nat} (h : w.heap[g]? = some (.cells cs T fr)) (j : Nat) : w.cell? ⟨g, j, none⟩ = cs[j]? := by
  unfold World.cell?
  simp [h]
theorem cells_of {w : World} {g : Nat} {v0 v1 v2 v3 : Value} (h : w.heap[g]? = some (.cells #[v0, v1, v2, v3] 25 (0, 0))) : w.cell? ⟨g, 0, none⟩ = some v0 ∧ w.cell? ⟨g, 1, none⟩ = some v1 ∧ w.cell? ⟨g, 2, none⟩ = some v2 ∧ w.cell? ⟨g, 3, none⟩ = some v3 := ⟨cell_heap h 0, cell_heap h 1, cell_heap h 2, cell_heap h 3⟩
theorem frz_of {w : World} {g : Nat} {cs : Array Value} {T : TypeId} (h : w.heap[g]? = some (.cells cs T (0, 0))) (j : Nat) : w.frozen? ⟨g, j, none⟩ = false := by simp [World.frozen?, h]
def set4 (w : World) (g : Nat) (v0 v1 v2 v3 : Value) : World := (((w.setCell ⟨g, 0, none⟩ v0).setCell ⟨g, 1, none⟩ v1).setCell ⟨g, 2, none⟩ v2).setCell ⟨g, 3, none⟩ v3
theorem set4_blk {w : World} {g : Nat} {u0 u1 u2 u3 : Value} (h : w.heap[g]? = some (.cells #[u0, u1, u2, u3] 25 (0, 0))) (v0 v1 v2 v3 : Value) : (set4 w g v0 v1 v2 v3).heap[g]? = some (.cells #[v0, v1, v2, v3] 25 (0, 0)) :=
  blk_put (cs := #[v0, v1, v2, u3]) (blk_put (cs := #[v0, v1, u2, u3]) (blk_put (cs := #[v0, u1, u2, u3]) (blk_put (cs := #[u0, u1, u2, u3]) h 0 _ rfl) 1 _ rfl) 2 _ rfl) 3 _ rfl
theorem set4_far (w : World) (g : Nat) (v0 v1 v2 v3 : Value) (k : Nat) (hk : k ≠ g) : (set4 w g v0 v1 v2 v3).heap[k]? = w.heap[k]? := by
  unfold set4
  rw [Below.heap_setCell _ _ _ _ hk, Below.heap_setCell _ _ _ _ hk, Below.heap_setCell _ _ _ _ hk, Below.heap_setCell _ _ _ _ hk]
theorem set4_below {base g : Nat} {w w1 : World} (h : Below base w w1) (hg : base ≤ g) (v0 v1 v2 v3 : Value) : Below base w (set4 w1 g v0 v1 v2 v3) := (((h.setCell hg _).setCell hg _).setCell hg _).setCell hg _
theorem boxes3 (W : World) (o3 o5 o6 : Obj) : (((W.alloc o3).alloc o5).alloc o6).heap[W.heap.size]? = some o3 ∧ (((W.alloc o3).alloc o5).alloc o6).heap[W.heap.size + 1]? = some o5 ∧ (((W.alloc o3).alloc o5).alloc o6).heap[W.heap.size + 1 + 1]? = some o6 ∧ Below W.heap.size W (((W.alloc o3).alloc o5).alloc o6) ∧ (((W.alloc o3).alloc o5).alloc o6).heap.size = W.heap.size + 1 + 1 + 1 := by
  have s1 : (W.alloc o3).heap.size = W.heap.size + 1 := by simp
  have s2 : ((W.alloc o3).alloc o5).heap.size = W.heap.size + 1 + 1 := by simp
  have b1 : Below W.heap.size W (W.alloc o3) := below_alloc (Below.refl _ _) _
  have b2 : Below W.heap.size W ((W.alloc o3).alloc o5) := b1.alloc b1.size _
  have c1 : Below (W.alloc o3).heap.size (W.alloc o3) (((W.alloc o3).alloc o5).alloc o6) := by
    have := below_alloc (Below.refl (W.alloc o3).heap.size (W.alloc o3)) o5
    exact this.alloc this.size _
  have c2 : Below ((W.alloc o3).alloc o5).heap.size ((W.alloc o3).alloc o5) (((W.alloc o3).alloc o5).alloc o6) := below_alloc (Below.refl _ _) _
  refine ⟨?_, ?_, ?_, b2.alloc b2.size _, by simp⟩
  · exact blk_below (blk_new W o3) c1
  · have := blk_below (blk_new (W.alloc o3) o5) c2
    rw [s1] at this
    exact this
  · have := blk_new ((W.alloc o3).alloc o5) o6
    rw [s2] at this
    exact this
theorem blk_ext {w w' : World} {g : Nat} {o : Obj} (h : w.heap[g]? = some o) (hb : Below w.heap.size w w') : w'.heap[g]? = some o := blk_below h hb
/-- A row of values just made. -/
def RowsAt (w : World) (x : Value) (vs : Array Value) (T : TypeId) : Prop := ∃ g, x = .slice (some ⟨g, 0, none⟩) vs.size vs.size ∧ w.heap[g]? = some (.cells vs T (0, 0))
theorem RowsAt.below {w w' : World} {x : Value} {vs : Array Value} {T : TypeId} (h : RowsAt w x vs T) (hb : Below w.heap.size w w') : RowsAt w' x vs T := by
  obtain ⟨g, h1, h2⟩ := h
  exact ⟨g, h1, blk_below h2 hb⟩
def RowR {α : Type} (d : Kd α) (e : Nat) (base : Nat) (w : World) (x : Value) (l : List α) : Prop := d.R e w base tt x l
theorem RowR.below {α : Type} {d : Kd α} {e base : Nat} {w w' : World} {x : Value} {l : List α} (h : RowR d e base w x l) (hb : Below w.heap.size w w') : RowR d e base w' x l := Kd.R_below h hb
def BoxAt (base : Nat) (w : World) (x : Value) (cs : Array Value) : Prop := ∃ g, x = .pointer (some ⟨g, 0, none⟩) ∧ w.heap[g]? = some (.cells cs 25 (0, 0)) ∧ base ≤ g
theorem BoxAt.below {base : Nat} {w w' : World} {x : Value} {cs : Array Value} (h : BoxAt base w x cs) (hb : Below w.heap.size w w') : BoxAt base w' x cs := by
  obtain ⟨g, h1, h2, h3⟩ := h
  exact ⟨g, h1, blk_below h2 hb, h3⟩
/-- A row of rows, read. -/
theorem rowsC {α : Type} {d : Kd α} {e T g : Nat} {w : World} (rs : List (List α × Option Addr × Nat)) (h : w.heap[g]? = some (.cells (rs.map fun r => Value.slice r.2.1 r.1.length r.2.2).toArray T (0, 0))) (hr : ∀ r ∈ rs, r.1.length ≤ r.2.2 ∧ d.C w r.2.1 r.1.length r.1) (hl : rs.length ≤ 1000) :
    (Kd.slice e d).C w (some ⟨g, 0, none⟩) rs.length (rs.map (·.1)) := by
  refine ⟨by simp, by omega, fun _ => ⟨_, rfl, fun j p hj => ?_⟩⟩
  rw [List.getElem?_map] at hj
  obtain ⟨r, hr1, rfl⟩ := Option.map_eq_some_iff.1 hj
  have hm := hr r (List.mem_of_getElem? hr1)
  refine ⟨[.slice r.2.1 r.1.length r.2.2], rfl, ⟨r.2.1, r.2.2, rfl, hm.1, hm.2⟩, fun i u hi => ?_⟩
  match i, hi with
  | 0, hi =>
    obtain rfl : Value.slice r.2.1 r.1.length r.2.2 = u := by simpa using hi
    have hs : (Kd.slice e d).sz = 1 := rfl
    rw [hs, Nat.mul_one, Nat.add_zero]
    have hadd : (⟨g, 0, none⟩ : Addr).add j = ⟨g, j, none⟩ := by
      unfold Addr.add
      by_cases hj0 : j = 0 <;> simp [hj0]
    rw [hadd, cell_heap h j]
    simp [hr1]
theorem strC {w : World} {g : Nat} {key : ByteArray} (h : w.heap[g]? = some (.cells #[.string key] 9 (0, 0))) : Kd.C Kd.string w (some ⟨g, 0, none⟩) 1 [key] := by
  refine ⟨rfl, by decide, fun _ => ⟨_, rfl, fun j p hj => ?_⟩⟩
  match j, hj with
  | 0, hj =>
    obtain rfl : key = p := by simpa using hj
    refine ⟨[.string key], rfl, rfl, fun i u hi => ?_⟩
    match i, hi with
    | 0, hi =>
      obtain rfl : Value.string key = u := by simpa using hi
      exact (cell_heap h 0).trans rfl
/-- A row of the call's own is not the block of a struct. -/
theorem RowR.set4 {α : Type} {d : Kd α} {e base g : Nat} {w : World} {x : Value} {l : List α} {cs : Array Value} (h : RowR d e base w x l) (hg : w.heap[g]? = some (.cells cs 25 (0, 0))) (ht : ∀ q, q ∈ e :: d.E → q ≠ 25) (v0 v1 v2 v3 : Value) : RowR d e base (set4 w g v0 v1 v2 v3) x l :=
  Kd.R_mono (Kd.R_far (p := ⟨g, 3, none⟩) (Kd.R_far (p := ⟨g, 2, none⟩) (Kd.R_far (p := ⟨g, 1, none⟩) (Kd.R_far (p := ⟨g, 0, none⟩) (Kd.R_types h hg ht) (fun _ hk => hk.2) v0) (fun _ hk => hk.2) v1) (fun _ hk => hk.2) v2) (fun _ hk => hk.2) v3) (fun _ _ => trivial)
theorem bk_of {base : Nat} {w : World} {A7 A8 A9 : Option Addr} {c7 c8 c9 : Nat} {b : Bool} {K V : List ByteArray} {D : List Int} (h1 : RowR Kd.string 9 base w (.slice A7 K.length c7) K) (h2 : RowR Kd.string 9 base w (.slice A8 V.length c8) V) (h3 : RowR (Kd.int .i64) 3 base w (.slice A9 D.length c9) D) : Bk w ⟨A7, c7, A8, c8, A9, c9⟩ b K V D :=
  ⟨(Kd.R_reads' h1).2.2, (Kd.R_reads' h1).2.1, (Kd.R_reads' h2).2.2, (Kd.R_reads' h2).2.1, (Kd.R_reads' h3).2.2, (Kd.R_reads' h3).2.1⟩
/-- What is given back: the block if m, else none. -/
def resL {α : Type} (m : Bool) (l : List α) : List α := if m then l else []
def p0 : At := ⟨none, 0, none, 0, none, 0⟩
theorem Bk.none (w : World) (b : Bool) : Bk w p0 b [] [] [] := ⟨⟨rfl, by simp, fun h => absurd h (by simp)⟩, Nat.le_refl _, ⟨rfl, by simp, fun h => absurd h (by simp)⟩, Nat.le_refl _, ⟨rfl, by simp, fun h => absurd h (by simp)⟩, Nat.le_refl _⟩
/-- A block of the call's own. -/
structure BkR (base : Nat) (w : World) (p : At) (K V : List ByteArray) (D : List Int) : Prop where
  k : RowR Kd.string 9 base w (.slice p.a1 K.length p.c1) K
  v : RowR Kd.string 9 base w (.slice p.a2 V.length p.c2) V
  d : RowR (Kd.int .i64) 3 base w (.slice p.a3 D.length p.c3) D
theorem BkR.bk {base : Nat} {w : World} {p : At} {K V : List ByteArray} {D : List Int} (h : BkR base w p K V D) (b : Bool) : Bk w p b K V D := bk_of h.k h.v h.d
theorem BkR.below {base : Nat} {w w' : World} {p : At} {K V : List ByteArray} {D : List Int} (h : BkR base w p K V D) (hb : Below w.heap.size w w') : BkR base w' p K V D := ⟨h.k.below hb, h.v.below hb, h.d.below hb⟩
theorem BkR.set4 {base g : Nat} {w : World} {p : At} {K V : List ByteArray} {D : List Int} {cs : Array Value} (h : BkR base w p K V D) (hg : w.heap[g]? = some (.cells cs 25 (0, 0))) (v0 v1 v2 v3 : Value) : BkR base (set4 w g v0 v1 v2 v3) p K V D :=
  ⟨h.k.set4 hg (by intro q hq; simp [Kd.string, Kd.scalar] at hq; subst hq; decide) _ _ _ _, h.v.set4 hg (by intro q hq; simp [Kd.string, Kd.scalar] at hq; subst hq; decide) _ _ _ _, h.d.set4 hg (by intro q hq; simp [Kd.int, Kd.scalar] at hq; subst hq; decide) _ _ _ _⟩
theorem BkR.lower {base base' : Nat} {w : World} {p : At} {K V : List ByteArray} {D : List Int} (h : BkR base w p K V D) (hb : base' ≤ base) : BkR base' w p K V D := ⟨Kd.R_lower h.k hb, Kd.R_lower h.v hb, Kd.R_lower h.d hb⟩
theorem BkR.none (base : Nat) (w : World) : BkR base w p0 [] [] [] := ⟨Kd.R_nil _ _ _ _ _, Kd.R_nil _ _ _ _ _, Kd.R_nil _ _ _ _ _⟩
set_option maxHeartbeats 8000000 in
set_option maxRecDepth 100000 in
theorem node_merge (W : World) (p1 p2 : At) (b1 b2 : Bool) (K1 V1 K2 V2 : List ByteArray) (D1 D2 : List Int) (key : ByteArray) (h1 : Bk W p1 b1 K1 V1 D1) (h2 : Bk W p2 b2 K2 V2 D2)
    (l1 : K1.length ≤ 300 ∧ V1.length ≤ 300 ∧ D1.length ≤ 300) (l2 : K2.length ≤ 300 ∧ V2.length ≤ 300 ∧ D2.length ≤ 300) (m : Bool) (hm : m = true ↔ MergeP b1 K1 V1 D1 key b2 K2 V2 D2) :
    Calls Try.prog 22 #[.agg #[.bool b1, .slice p1.a1 K1.length p1.c1, .slice p1.a2 V1.length p1.c2, .slice p1.a3 D1.length p1.c3], .string key, .agg #[.bool b2, .slice p2.a1 K2.length p2.c1, .slice p2.a2 V2.length p2.c2, .slice p2.a3 D2.length p2.c3]] W fun e w' =>
      ∃ p : At, e = .returned (.tuple #[.agg #[.bool (m && b1), .slice p.a1 (resL m (outK b1 K1 key K2)).length p.c1, .slice p.a2 (resL m (V1 ++ V2)).length p.c2, .slice p.a3 (resL m (D1 ++ D2)).length p.c3], .bool m]) ∧
        BkR W.heap.size w' p (resL m (outK b1 K1 key K2)) (resL m (V1 ++ V2)) (resL m (D1 ++ D2)) ∧ Below W.heap.size W w' := by
  obtain ⟨r1, hr1⟩ := is_bool (CanP b1 K1 V1 D1)
  obtain ⟨r2, hr2⟩ := is_bool (CanP b2 K2 V2 D2)
  have HC1 := Aside0.mk (fun (w : World) (hB : Below W.heap.size W w) => ncan_c (h1.below hB) ⟨by omega, by omega, by omega⟩ r1 hr1)
  have HC2 := Aside0.mk (fun (w : World) (hB : Below W.heap.size W w) => ncan_c (h2.below hB) ⟨by omega, by omega, by omega⟩ r2 hr2)
  have HM := Aside0.mk hm
  have HR := Aside0.mk (And.intro hr1 hr2)
  have HL := Aside0.mk (And.intro l1 l2)
  have HK1 := Aside0.mk h1
  have HK2 := Aside0.mk h2
  clear hm hr1 hr2 l1 l2 h1 h2
  obtain ⟨a1, c1, a2, c2, a3, c3⟩ := p1
  obtain ⟨a4, c4, a5, c5, a6, c6⟩ := p2
  dsimp only at HC1 HC2 ⊢
  obtain ⟨n1, hn1⟩ : ∃ n, n = K1.length := ⟨_, rfl⟩
  obtain ⟨n2, hn2⟩ : ∃ n, n = V1.length := ⟨_, rfl⟩
  obtain ⟨n3, hn3⟩ : ∃ n, n = D1.length := ⟨_, rfl⟩
  obtain ⟨n4, hn4⟩ : ∃ n, n = K2.length := ⟨_, rfl⟩
  obtain ⟨n5, hn5⟩ : ∃ n, n = V2.length := ⟨_, rfl⟩
  obtain ⟨n6, hn6⟩ : ∃ n, n = D2.length := ⟨_, rfl⟩
  rw [← hn1, ← hn2, ← hn3] at HC1
  rw [← hn4, ← hn5, ← hn6] at HC2
  rw [← hn1, ← hn2, ← hn3, ← hn4, ← hn5, ← hn6]
  have HN := Aside0.mk (And.intro hn1 (And.intro hn2 (And.intro hn3 (And.intro hn4 (And.intro hn5 hn6)))))
  clear hn1 hn2 hn3 hn4 hn5 hn6
  go_enter Try.func22, Try.ntmps22
  go_upto_region 1 with fail
  obtain ⟨w0, hw0⟩ : ∃ w0, w0 = ((W.alloc (.cells #[.bool b1, .slice a1 n1 c1, .slice a2 n2 c2, .slice a3 n3 c3] 25)).alloc (.cells #[.bool b2, .slice a4 n4 c4, .slice a5 n5 c5, .slice a6 n6 c6] 25)).alloc (.cells #[.bool false, .slice none 0 0, .slice none 0 0, .slice none 0 0] 25) := ⟨_, rfl⟩
  have hbx := boxes3 W (.cells #[.bool b1, .slice a1 n1 c1, .slice a2 n2 c2, .slice a3 n3 c3] 25) (.cells #[.bool b2, .slice a4 n4 c4, .slice a5 n5 c5, .slice a6 n6 c6] 25) (.cells #[.bool false, .slice none 0 0, .slice none 0 0, .slice none 0 0] 25)
  rw [← hw0] at hbx ⊢
  clear hw0
  obtain ⟨g3, hg3⟩ : ∃ g, g = W.heap.size := ⟨_, rfl⟩
  rw [← hg3] at hbx ⊢
  obtain ⟨g5, hg5⟩ : ∃ g, g = g3 + 1 := ⟨_, rfl⟩
  rw [← hg5] at hbx ⊢
  obtain ⟨g6, hg6⟩ : ∃ g, g = g5 + 1 := ⟨_, rfl⟩
  rw [← hg6] at hbx ⊢
  obtain ⟨q3, q5, q6, hB0, hsz⟩ := hbx
  have HG := Aside0.mk (And.intro hg3 (And.intro hg5 hg6))
  obtain ⟨x0, x1, x2, x3⟩ := cells_of q3
  have HQ3 := Aside0.mk q3
  have HQ5 := Aside0.mk q5
  have HQ6 := Aside0.mk q6
  rw [hg3] at hB0
  have HB0 := Aside0.mk hB0
  have HS0 := Aside0.mk hsz
  have HG6 := Aside0.mk (show W.heap.size ≤ g6 by omega)
  clear q3 q5 q6 hB0 hsz hg3 hg5 hg6
  cases r1 with
  | false =>
    go_wp2_with (first
      | (go_at_call 35; refine (HC1.out w0 HB0.out).mono ?_; rintro e w1 ⟨rfl, h1⟩; have HB1 := Aside0.mk (HB0.out.trans (h1.mono HB0.out.size)); have hq6 := blk_below HQ6.out h1; obtain ⟨y0, y1, y2, y3⟩ := cells_of hq6; have f0 := frz_of hq6 0; have f1 := frz_of hq6 1; have f2 := frz_of hq6 2; have f3 := frz_of hq6 3; have HQ6' := Aside0.mk hq6; clear h1 hq6))
    have hm : m = false := by
      cases m with
      | false => rfl
      | true => exact absurd (HR.out.1.2 (HM.out.1 rfl).1) (by decide)
    subst hm
    refine bodyPost_ret (results_ct rfl _ _ g6 25 #[.bool false, .slice none 0 0, .slice none 0 0, .slice none 0 0] (0, 0) _ rfl (set4_blk HQ6'.out _ _ _ _) Try.underlying25 rfl (by kernel_rfl)) rfl ?_
    exact ⟨p0, rfl, BkR.none _ _, set4_below HB1.out HG6.out _ _ _ _⟩
  | true =>
   cases r2 with
   | false =>
    go_wp2_with (first
      | (go_at_call 35; first
        | (refine (HC2.out w1 HB1.out).mono ?_; rintro e w2 ⟨rfl, h1⟩; have HB2 := Aside0.mk (HB1.out.trans (h1.mono HB1.out.size)); have hq3 := blk_below HQ3a.out h1; have hq5 := blk_below HQ5a.out h1; have hq6 := blk_below HQ6a.out h1; obtain ⟨z0, z1, z2, z3⟩ := cells_of hq3; obtain ⟨t0, t1, t2, t3⟩ := cells_of hq5; obtain ⟨y0, y1, y2, y3⟩ := cells_of hq6; have f0 := frz_of hq6 0; have f1 := frz_of hq6 1; have f2 := frz_of hq6 2; have f3 := frz_of hq6 3; have u0 := (cells_of (blk_alloc hq3 (.cells #[.string key] 9))).1; have HQ3b := Aside0.mk hq3; have HQ5b := Aside0.mk hq5; have HQ6b := Aside0.mk hq6; clear h1 hq3 hq5 hq6)
        | (refine (HC1.out w0 HB0.out).mono ?_; rintro e w1 ⟨rfl, h1⟩; have HB1 := Aside0.mk (HB0.out.trans (h1.mono HB0.out.size)); have hq3 := blk_below HQ3.out h1; have hq5 := blk_below HQ5.out h1; have hq6 := blk_below HQ6.out h1; obtain ⟨s0, s1, s2, s3⟩ := cells_of hq5; have HQ3a := Aside0.mk hq3; have HQ5a := Aside0.mk hq5; have HQ6a := Aside0.mk hq6; clear h1 hq3 hq5 hq6)))
    have hm : m = false := by
      cases m with
      | false => rfl
      | true => exact absurd (HR.out.2.2 (HM.out.1 rfl).2.1) (by decide)
    subst hm
    refine bodyPost_ret (results_ct rfl _ _ g6 25 #[.bool false, .slice none 0 0, .slice none 0 0, .slice none 0 0] (0, 0) _ rfl (set4_blk HQ6b.out _ _ _ _) Try.underlying25 rfl (by kernel_rfl)) rfl ?_
    exact ⟨p0, rfl, BkR.none _ _, set4_below HB2.out HG6.out _ _ _ _⟩
   | true =>
    cases b1 with
    | false =>
     cases b2 with
     | false =>
      go_upto_region 6 with (first
        | (go_at_call 35; first
              | (refine (HC2.out w1 HB1.out).mono ?_; rintro e w2 ⟨rfl, h1⟩; have HB2 := Aside0.mk (HB1.out.trans (h1.mono HB1.out.size)); have hq3 := blk_below HQ3a.out h1; have hq5 := blk_below HQ5a.out h1; have hq6 := blk_below HQ6a.out h1; obtain ⟨z0, z1, z2, z3⟩ := cells_of hq3; obtain ⟨t0, t1, t2, t3⟩ := cells_of hq5; obtain ⟨y0, y1, y2, y3⟩ := cells_of hq6; have f0 := frz_of hq6 0; have f1 := frz_of hq6 1; have f2 := frz_of hq6 2; have f3 := frz_of hq6 3; have u0 := (cells_of (blk_alloc hq3 (.cells #[.string key] 9))).1; have HQ3b := Aside0.mk hq3; have HQ5b := Aside0.mk hq5; have HQ6b := Aside0.mk hq6; clear h1 hq3 hq5 hq6)
              | (refine (HC1.out w0 HB0.out).mono ?_; rintro e w1 ⟨rfl, h1⟩; have HB1 := Aside0.mk (HB0.out.trans (h1.mono HB0.out.size)); have hq3 := blk_below HQ3.out h1; have hq5 := blk_below HQ5.out h1; have hq6 := blk_below HQ6.out h1; obtain ⟨s0, s1, s2, s3⟩ := cells_of hq5; have HQ3a := Aside0.mk hq3; have HQ5a := Aside0.mk hq5; have HQ6a := Aside0.mk hq6; clear h1 hq3 hq5 hq6)))
      obtain ⟨w3, hw3⟩ : ∃ w3, w3 = w2.alloc (.cells #[.string key] 9) := ⟨_, rfl⟩
      obtain ⟨gb, hgb⟩ : ∃ gb, gb = w2.heap.size := ⟨_, rfl⟩
      rw [← hw3, ← hgb]
      have hb3 : Below w2.heap.size w2 w3 := by rw [hw3]; exact below_alloc (Below.refl _ _) _
      have hbk : w3.heap[gb]? = some (.cells #[.string key] 9 (0, 0)) := by rw [hw3, hgb]; exact blk_new w2 _
      have HBT := Aside0.mk (show Kd.C Kd.string w3 (some ⟨gb, 0, none⟩) 1 [key] from strC hbk)
      have HB3 := Aside0.mk (HB2.out.trans (hb3.mono HB2.out.size))
      have HQ3c := Aside0.mk (blk_below HQ3b.out hb3)
      have HQ5c := Aside0.mk (blk_below HQ5b.out hb3)
      have HQ6c := Aside0.mk (blk_below HQ6b.out hb3)
      clear hb3 hw3 hgb z0 z1 z2 z3 t0 t1 t2 t3 y0 y1 y2 y3 f0 f1 f2 f3 u0 s0 s1 s2 s3 x0 x1 x2 x3
      have hdr : Below w3.heap.size w3 w3.drew := below_drew (Below.refl _ _)
      refine start_ (n := 24) (S := fun w' => Below w3.heap.size w3 w') (ds := []) #[false, false, false, false, false, false, false, false, false, false, false, false, false, false, false, false, false, false, false, false, false, false, false, false] (by kernel_rfl) rfl rfl hdr (fun hHeld => ?_)
      refine pure_ (i := 0) (N := some 30) (v := ?_) (a' := ?_) #[true, false, false, false, false, false, false, false, false, false, false, false, false, false, false, false, false, false, false, false, false, false, false, false] rfl rfl (by kernel_rfl) (fun _ _ _ h => h) (Or.inl ⟨by rfl, ?_⟩) ?_ ?_
      rotate_left
      · intro w'
        go_simp
        with_reducible rfl
      rotate_left
      · simp only [Act.put, List.setIfInBounds_toArray, List.set_cons_zero, List.set_cons_succ]
        rfl
      refine pure_ (i := 2) (N := some 32) (v := ?_) (a' := ?_) #[true, false, true, false, false, false, false, false, false, false, false, false, false, false, false, false, false, false, false, false, false, false, false, false] rfl rfl (by kernel_rfl) (fun _ _ _ h => h) (Or.inl ⟨by rfl, ?_⟩) ?_ ?_
      rotate_left
      · intro w'
        go_simp
        with_reducible rfl
      rotate_left
      · simp only [Act.put, List.setIfInBounds_toArray, List.set_cons_zero, List.set_cons_succ]
        rfl
      refine pure_ (i := 4) (N := some 34) (v := ?_) (a' := ?_) #[true, false, true, false, true, false, false, false, false, false, false, false, false, false, false, false, false, false, false, false, false, false, false, false] rfl rfl (by kernel_rfl) (fun _ _ _ h => h) (Or.inl ⟨by rfl, ?_⟩) ?_ ?_
      rotate_left
      · intro w'
        go_simp
        with_reducible rfl
      rotate_left
      · simp only [Act.put, List.setIfInBounds_toArray, List.set_cons_zero, List.set_cons_succ]
        rfl
      refine pure_ (i := 5) (N := some 35) (v := ?_) (a' := ?_) #[true, false, true, false, true, true, false, false, false, false, false, false, false, false, false, false, false, false, false, false, false, false, false, false] rfl rfl (by kernel_rfl) (fun _ _ _ h => h) (Or.inl ⟨by rfl, ?_⟩) ?_ ?_
      rotate_left
      · intro w'
        go_simp
        with_reducible rfl
      rotate_left
      · simp only [Act.put, List.setIfInBounds_toArray, List.set_cons_zero, List.set_cons_succ]
        rfl
      refine pure_ (i := 9) (N := some 39) (v := ?_) (a' := ?_) #[true, false, true, false, true, true, false, false, false, true, false, false, false, false, false, false, false, false, false, false, false, false, false, false] rfl rfl (by kernel_rfl) (fun _ _ _ h => h) (Or.inl ⟨by rfl, ?_⟩) ?_ ?_
      rotate_left
      · intro w'
        go_simp
        with_reducible rfl
      rotate_left
      · simp only [Act.put, List.setIfInBounds_toArray, List.set_cons_zero, List.set_cons_succ]
        rfl
      refine pure_ (i := 11) (N := some 41) (v := ?_) (a' := ?_) #[true, false, true, false, true, true, false, false, false, true, false, true, false, false, false, false, false, false, false, false, false, false, false, false] rfl rfl (by kernel_rfl) (fun _ _ _ h => h) (Or.inl ⟨by rfl, ?_⟩) ?_ ?_
      rotate_left
      · intro w'
        go_simp
        with_reducible rfl
      rotate_left
      · simp only [Act.put, List.setIfInBounds_toArray, List.set_cons_zero, List.set_cons_succ]
        rfl
      refine pure_ (i := 15) (N := some 45) (v := ?_) (a' := ?_) #[true, false, true, false, true, true, false, false, false, true, false, true, false, false, false, true, false, false, false, false, false, false, false, false] rfl rfl (by kernel_rfl) (fun _ _ _ h => h) (Or.inl ⟨by rfl, ?_⟩) ?_ ?_
      rotate_left
      · intro w'
        go_simp
        with_reducible rfl
      rotate_left
      · simp only [Act.put, List.setIfInBounds_toArray, List.set_cons_zero, List.set_cons_succ]
        rfl
      refine pure_ (i := 17) (N := some 47) (v := ?_) (a' := ?_) #[true, false, true, false, true, true, false, false, false, true, false, true, false, false, false, true, false, true, false, false, false, false, false, false] rfl rfl (by kernel_rfl) (fun _ _ _ h => h) (Or.inl ⟨by rfl, ?_⟩) ?_ ?_
      rotate_left
      · intro w'
        go_simp
        with_reducible rfl
      rotate_left
      · simp only [Act.put, List.setIfInBounds_toArray, List.set_cons_zero, List.set_cons_succ]
        rfl
      refine take_ (i := 1) (N := some 31) (v := ?_) (a' := ?_) #[true, true, true, false, true, true, false, false, false, true, false, true, false, false, false, true, false, true, false, false, false, false, false, false] rfl rfl (by kernel_rfl) (fun _ _ _ h => h) (Or.inl ⟨by rfl, ?_⟩) hHeld ?_ ?_
      rotate_left
      · intro w' s0
        have s1 := (cells_of (blk_below HQ3c.out s0)).1
        go_simp
        with_reducible rfl
      rotate_left
      · simp only [Act.put, List.setIfInBounds_toArray, List.set_cons_zero, List.set_cons_succ]
        rfl
      refine take_ (i := 3) (N := some 33) (v := ?_) (a' := ?_) #[true, true, true, true, true, true, false, false, false, true, false, true, false, false, false, true, false, true, false, false, false, false, false, false] rfl rfl (by kernel_rfl) (fun _ _ _ h => h) (Or.inl ⟨by rfl, ?_⟩) hHeld ?_ ?_
      rotate_left
      · intro w' s0
        have s1 := (cells_of (blk_below HQ3c.out s0)).2.1
        go_simp
        with_reducible rfl
      rotate_left
      · simp only [Act.put, List.setIfInBounds_toArray, List.set_cons_zero, List.set_cons_succ]
        rfl
      refine take_ (i := 6) (N := some 36) (v := ?_) (a' := ?_) #[true, true, true, true, true, true, true, false, false, true, false, true, false, false, false, true, false, true, false, false, false, false, false, false] rfl rfl (by kernel_rfl) (fun _ _ _ h => h) (Or.inl ⟨by rfl, ?_⟩) hHeld ?_ ?_
      rotate_left
      · intro w' s0
        have s1 := (cells_of (blk_below HQ5c.out s0)).2.1
        go_simp
        with_reducible rfl
      rotate_left
      · simp only [Act.put, List.setIfInBounds_toArray, List.set_cons_zero, List.set_cons_succ]
        rfl
      refine take_ (i := 10) (N := some 40) (v := ?_) (a' := ?_) #[true, true, true, true, true, true, true, false, false, true, true, true, false, false, false, true, false, true, false, false, false, false, false, false] rfl rfl (by kernel_rfl) (fun _ _ _ h => h) (Or.inl ⟨by rfl, ?_⟩) hHeld ?_ ?_
      rotate_left
      · intro w' s0
        have s1 := (cells_of (blk_below HQ3c.out s0)).2.2.1
        go_simp
        with_reducible rfl
      rotate_left
      · simp only [Act.put, List.setIfInBounds_toArray, List.set_cons_zero, List.set_cons_succ]
        rfl
      refine take_ (i := 12) (N := some 42) (v := ?_) (a' := ?_) #[true, true, true, true, true, true, true, false, false, true, true, true, true, false, false, true, false, true, false, false, false, false, false, false] rfl rfl (by kernel_rfl) (fun _ _ _ h => h) (Or.inl ⟨by rfl, ?_⟩) hHeld ?_ ?_
      rotate_left
      · intro w' s0
        have s1 := (cells_of (blk_below HQ5c.out s0)).2.2.1
        go_simp
        with_reducible rfl
      rotate_left
      · simp only [Act.put, List.setIfInBounds_toArray, List.set_cons_zero, List.set_cons_succ]
        rfl
      refine take_ (i := 16) (N := some 46) (v := ?_) (a' := ?_) #[true, true, true, true, true, true, true, false, false, true, true, true, true, false, false, true, true, true, false, false, false, false, false, false] rfl rfl (by kernel_rfl) (fun _ _ _ h => h) (Or.inl ⟨by rfl, ?_⟩) hHeld ?_ ?_
      rotate_left
      · intro w' s0
        have s1 := (cells_of (blk_below HQ3c.out s0)).2.2.2
        go_simp
        with_reducible rfl
      rotate_left
      · simp only [Act.put, List.setIfInBounds_toArray, List.set_cons_zero, List.set_cons_succ]
        rfl
      refine take_ (i := 18) (N := some 48) (v := ?_) (a' := ?_) #[true, true, true, true, true, true, true, false, false, true, true, true, true, false, false, true, true, true, true, false, false, false, false, false] rfl rfl (by kernel_rfl) (fun _ _ _ h => h) (Or.inl ⟨by rfl, ?_⟩) hHeld ?_ ?_
      rotate_left
      · intro w' s0
        have s1 := (cells_of (blk_below HQ5c.out s0)).2.2.2
        go_simp
        with_reducible rfl
      rotate_left
      · simp only [Act.put, List.setIfInBounds_toArray, List.set_cons_zero, List.set_cons_succ]
        rfl
      refine lattice3 (l0 := #[true, true, true, true, true, true, true, false, false, true, true, true, true, false, false, true, true, true, true, false, false, false, false, false]) [7, 8, 13, 14, 19, 20, 22, 21] [[false, false, false, false, false, false, false, false], [true, false, false, false, false, false, false, false], [true, true, false, false, false, false, false, false], [false, false, true, false, false, false, false, false], [true, false, true, false, false, false, false, false], [true, true, true, false, false, false, false, false], [true, true, true, true, false, false, false, false], [false, false, false, false, true, false, false, false], [true, false, false, false, true, false, false, false], [true, true, false, false, true, false, false, false], [false, false, true, false, true, false, false, false], [true, false, true, false, true, false, false, false], [true, true, true, false, true, false, false, false], [true, true, true, true, true, false, false, false], [true, true, true, true, true, true, false, false], [false, false, false, false, false, false, true, false], [true, false, false, false, false, false, true, false], [true, true, false, false, false, false, true, false], [false, false, true, false, false, false, true, false], [true, false, true, false, false, false, true, false], [true, true, true, false, false, false, true, false], [true, true, true, true, false, false, true, false], [false, false, false, false, true, false, true, false], [true, false, false, false, true, false, true, false], [true, true, false, false, true, false, true, false], [false, false, true, false, true, false, true, false], [true, false, true, false, true, false, true, false], [true, true, true, false, true, false, true, false], [true, true, true, true, true, false, true, false], [true, true, true, true, true, true, true, false], [true, true, true, true, true, true, false, true], [true, true, true, true, true, true, true, true]] [37, 38, 43, 44, 49, 50, 9, 51] (by kernel_rfl) (by kernel_rfl) (by decide) (by kernel_rfl) (by kernel_rfl) (by kernel_rfl) (fun d xs w' => ∃ x0 x1 x2 x3 x4 x5 x6 x7, xs = [x0, x1, x2, x3, x4, x5, x6, x7] ∧ (d.getD 0 false = true → RowsAt w' x0 #[.slice a1 n1 c1, .slice (some ⟨gb, 0, none⟩) 1 1, .slice a4 n4 c4] 22) ∧ (d.getD 1 false = true → RowR Kd.string 9 w3.heap.size w' x1 (outK false K1 key K2)) ∧ (d.getD 2 false = true → RowsAt w' x2 #[.slice a2 n2 c2, .slice a5 n5 c5] 22) ∧ (d.getD 3 false = true → RowR Kd.string 9 w3.heap.size w' x3 (V1 ++ V2)) ∧ (d.getD 4 false = true → RowsAt w' x4 #[.slice a3 n3 c3, .slice a6 n6 c6] 23) ∧ (d.getD 5 false = true → RowR (Kd.int .i64) 3 w3.heap.size w' x5 (D1 ++ D2)) ∧ (d.getD 6 false = true → BoxAt w3.heap.size w' x6 #[.bool false, .slice none 0 0, .slice none 0 0, .slice none 0 0]) ∧ (d.getD 7 false = true → x7 = .agg #[.bool false, x1, x3, x5])) 1 rfl (by kernel_rfl) hHeld ?hF ?hstep ?hfin
      case hF =>
        intro xs hx
        match xs, hx with
        | [x0, x1, x2, x3, x4, x5, x6, x7], _ => exact ⟨x0, x1, x2, x3, x4, x5, x6, x7, rfl, fun h => absurd h (by decide), fun h => absurd h (by decide), fun h => absurd h (by decide), fun h => absurd h (by decide), fun h => absurd h (by decide), fun h => absurd h (by decide), fun h => absurd h (by decide), fun h => absurd h (by decide)⟩
      case hstep =>
        intro j hj
        have hj : j < 8 := hj
        rcases (by omega : j = 0 ∨ j = 1 ∨ j = 2 ∨ j = 3 ∨ j = 4 ∨ j = 5 ∨ j = 6 ∨ j = 7) with rfl | rfl | rfl | rfl | rfl | rfl | rfl | rfl
        · intro d hd hjn hn xs wl hx hSl ⟨x0, x1, x2, x3, x4, x5, x6, x7, hxs, f0, f1, f2, f3, f4, f5, f6, f7⟩ a' ha o ho K hK
          subst hxs
          obtain rfl := Option.some.inj (ho.symm.trans (rfl : _ = some _))
          simp only [putVs, Act.put, List.setIfInBounds_toArray, List.set_cons_zero, List.set_cons_succ] at ha
          subst ha
          have hb1 : Below wl.heap.size wl (wl.alloc (.cells #[.slice a1 n1 c1, .slice (some ⟨gb, 0, none⟩) 1 1, .slice a4 n4 c4] 22)) := below_alloc (Below.refl _ _) _
          refine value_ rfl rfl (v := .slice (some ⟨wl.heap.size, 0, none⟩) 3 3) (w1 := wl.alloc (.cells #[.slice a1 n1 c1, .slice (some ⟨gb, 0, none⟩) 1 1, .slice a4 n4 c4] 22)) (by first | (go_simp; done) | (go_simp; rfl)) ?_
          exact hK.out (.slice (some ⟨wl.heap.size, 0, none⟩) 3 3) _ (hSl.trans (hb1.mono hSl.size)) ⟨_, _, _, _, _, _, _, _, rfl, fun _ => ⟨_, rfl, blk_new wl _⟩, fun h => absurd ((on_ne d 0 1 (by decide)).symm.trans h) (fun h2 => bit_abs (before_of (j := 0) (k := 1) (by kernel_rfl) hd hjn hn) h2), fun h => (f2 ((on_ne d 0 2 (by decide)).symm.trans h)).below hb1, fun h => absurd ((on_ne d 0 3 (by decide)).symm.trans h) (fun h2 => bit_abs (before_of (j := 0) (k := 3) (by kernel_rfl) hd hjn hn) h2), fun h => (f4 ((on_ne d 0 4 (by decide)).symm.trans h)).below hb1, fun h => absurd ((on_ne d 0 5 (by decide)).symm.trans h) (fun h2 => bit_abs (before_of (j := 0) (k := 5) (by kernel_rfl) hd hjn hn) h2), fun h => (f6 ((on_ne d 0 6 (by decide)).symm.trans h)).below hb1, fun h => absurd ((on_ne d 0 7 (by decide)).symm.trans h) (fun h2 => bit_abs (before_of (j := 0) (k := 7) (by kernel_rfl) hd hjn hn) h2)⟩
        · intro d hd hjn hn xs wl hx hSl ⟨x0, x1, x2, x3, x4, x5, x6, x7, hxs, f0, f1, f2, f3, f4, f5, f6, f7⟩ a' ha o ho K hK
          subst hxs
          obtain rfl := Option.some.inj (ho.symm.trans (rfl : _ = some _))
          simp only [putVs, Act.put, List.setIfInBounds_toArray, List.set_cons_zero, List.set_cons_succ] at ha
          subst ha
          have g0 := f0 (after_of (j := 1) (k := 0) (by kernel_rfl) hd hjn hn)
          obtain ⟨gk, rfl, hk⟩ := g0
          rw [HN.out.1, HN.out.2.2.2.1] at hk
          have hbl := HB3.out.trans (hSl.mono HB3.out.size)
          have hrc := rowsC (d := Kd.string) (e := 9) [(K1, a1, c1), ([key], (some ⟨gb, 0, none⟩), 1), (K2, a4, c4)] hk (by
            intro r hr
            simp only [List.mem_cons, List.not_mem_nil, or_false] at hr
            rcases hr with rfl | rfl | rfl
            · exact ⟨(HK1.out.below hbl).kc, (HK1.out.below hbl).k⟩
            · exact ⟨(by simp), (Kd.C_below HBT.out hSl)⟩
            · exact ⟨(HK2.out.below hbl).kc, (HK2.out.below hbl).k⟩
            ) (by simp)
          refine goes_ Try.func41 (by kernel_rfl) rfl #[.slice (some ⟨gk, 0, none⟩) 3 3] (by rfl) rfl rfl (by (try simp only [List.map_toArray, List.map_cons, List.map_nil]); first | done | rfl) ?_
          refine (concat_s wl (some ⟨gk, 0, none⟩) 3 3 [K1, [key], K2] hrc rfl (by decide) (by have := HL.out; simp [btw]; omega)).mono ?_
          rintro e w6 ⟨v6, rfl, h4, h5⟩
          refine ⟨v6, rfl, ?_⟩
          have hR6 : RowR Kd.string 9 w3.heap.size w6 v6 (outK false K1 key K2) := by
            have := Kd.R_lower h4 hSl.size
            simpa [outK, btw, RowR] using this
          exact hK.out v6 w6 (hSl.trans (h5.mono hSl.size)) ⟨_, _, _, _, _, _, _, _, rfl, fun h => (f0 ((on_ne d 1 0 (by decide)).symm.trans h)).below h5, fun _ => hR6, fun h => (f2 ((on_ne d 1 2 (by decide)).symm.trans h)).below h5, fun h => absurd ((on_ne d 1 3 (by decide)).symm.trans h) (fun h2 => bit_abs (before_of (j := 1) (k := 3) (by kernel_rfl) hd hjn hn) h2), fun h => (f4 ((on_ne d 1 4 (by decide)).symm.trans h)).below h5, fun h => absurd ((on_ne d 1 5 (by decide)).symm.trans h) (fun h2 => bit_abs (before_of (j := 1) (k := 5) (by kernel_rfl) hd hjn hn) h2), fun h => (f6 ((on_ne d 1 6 (by decide)).symm.trans h)).below h5, fun h => absurd ((on_ne d 1 7 (by decide)).symm.trans h) (fun h2 => bit_abs (before_of (j := 1) (k := 7) (by kernel_rfl) hd hjn hn) h2)⟩
        · intro d hd hjn hn xs wl hx hSl ⟨x0, x1, x2, x3, x4, x5, x6, x7, hxs, f0, f1, f2, f3, f4, f5, f6, f7⟩ a' ha o ho K hK
          subst hxs
          obtain rfl := Option.some.inj (ho.symm.trans (rfl : _ = some _))
          simp only [putVs, Act.put, List.setIfInBounds_toArray, List.set_cons_zero, List.set_cons_succ] at ha
          subst ha
          have hb1 : Below wl.heap.size wl (wl.alloc (.cells #[.slice a2 n2 c2, .slice a5 n5 c5] 22)) := below_alloc (Below.refl _ _) _
          refine value_ rfl rfl (v := .slice (some ⟨wl.heap.size, 0, none⟩) 2 2) (w1 := wl.alloc (.cells #[.slice a2 n2 c2, .slice a5 n5 c5] 22)) (by first | (go_simp; done) | (go_simp; rfl)) ?_
          exact hK.out (.slice (some ⟨wl.heap.size, 0, none⟩) 2 2) _ (hSl.trans (hb1.mono hSl.size)) ⟨_, _, _, _, _, _, _, _, rfl, fun h => (f0 ((on_ne d 2 0 (by decide)).symm.trans h)).below hb1, fun h => (f1 ((on_ne d 2 1 (by decide)).symm.trans h)).below hb1, fun _ => ⟨_, rfl, blk_new wl _⟩, fun h => absurd ((on_ne d 2 3 (by decide)).symm.trans h) (fun h2 => bit_abs (before_of (j := 2) (k := 3) (by kernel_rfl) hd hjn hn) h2), fun h => (f4 ((on_ne d 2 4 (by decide)).symm.trans h)).below hb1, fun h => absurd ((on_ne d 2 5 (by decide)).symm.trans h) (fun h2 => bit_abs (before_of (j := 2) (k := 5) (by kernel_rfl) hd hjn hn) h2), fun h => (f6 ((on_ne d 2 6 (by decide)).symm.trans h)).below hb1, fun h => absurd ((on_ne d 2 7 (by decide)).symm.trans h) (fun h2 => bit_abs (before_of (j := 2) (k := 7) (by kernel_rfl) hd hjn hn) h2)⟩
        · intro d hd hjn hn xs wl hx hSl ⟨x0, x1, x2, x3, x4, x5, x6, x7, hxs, f0, f1, f2, f3, f4, f5, f6, f7⟩ a' ha o ho K hK
          subst hxs
          obtain rfl := Option.some.inj (ho.symm.trans (rfl : _ = some _))
          simp only [putVs, Act.put, List.setIfInBounds_toArray, List.set_cons_zero, List.set_cons_succ] at ha
          subst ha
          have g1 := f1 (after_of (j := 3) (k := 1) (by kernel_rfl) hd hjn hn)
          have g2 := f2 (after_of (j := 3) (k := 2) (by kernel_rfl) hd hjn hn)
          obtain ⟨gk, rfl, hk⟩ := g2
          rw [HN.out.2.1, HN.out.2.2.2.2.1] at hk
          have hbl := HB3.out.trans (hSl.mono HB3.out.size)
          have hrc := rowsC (d := Kd.string) (e := 9) [(V1, a2, c2), (V2, a5, c5)] hk (by
            intro r hr
            simp only [List.mem_cons, List.not_mem_nil, or_false] at hr
            rcases hr with rfl | rfl
            · exact ⟨(HK1.out.below hbl).vc, (HK1.out.below hbl).v⟩
            · exact ⟨(HK2.out.below hbl).vc, (HK2.out.below hbl).v⟩
            ) (by simp)
          refine goes_ Try.func41 (by kernel_rfl) rfl #[.slice (some ⟨gk, 0, none⟩) 2 2] (by rfl) rfl rfl (by (try simp only [List.map_toArray, List.map_cons, List.map_nil]); first | done | rfl) ?_
          refine (concat_s wl (some ⟨gk, 0, none⟩) 2 2 [V1, V2] hrc rfl (by decide) (by have := HL.out; simp [btw]; omega)).mono ?_
          rintro e w6 ⟨v6, rfl, h4, h5⟩
          refine ⟨v6, rfl, ?_⟩
          have hR6 : RowR Kd.string 9 w3.heap.size w6 v6 (V1 ++ V2) := by
            have := Kd.R_lower h4 hSl.size
            simpa [outK, btw, RowR] using this
          exact hK.out v6 w6 (hSl.trans (h5.mono hSl.size)) ⟨_, _, _, _, _, _, _, _, rfl, fun h => (f0 ((on_ne d 3 0 (by decide)).symm.trans h)).below h5, fun h => (f1 ((on_ne d 3 1 (by decide)).symm.trans h)).below h5, fun h => (f2 ((on_ne d 3 2 (by decide)).symm.trans h)).below h5, fun _ => hR6, fun h => (f4 ((on_ne d 3 4 (by decide)).symm.trans h)).below h5, fun h => absurd ((on_ne d 3 5 (by decide)).symm.trans h) (fun h2 => bit_abs (before_of (j := 3) (k := 5) (by kernel_rfl) hd hjn hn) h2), fun h => (f6 ((on_ne d 3 6 (by decide)).symm.trans h)).below h5, fun h => absurd ((on_ne d 3 7 (by decide)).symm.trans h) (fun h2 => bit_abs (before_of (j := 3) (k := 7) (by kernel_rfl) hd hjn hn) h2)⟩
        · intro d hd hjn hn xs wl hx hSl ⟨x0, x1, x2, x3, x4, x5, x6, x7, hxs, f0, f1, f2, f3, f4, f5, f6, f7⟩ a' ha o ho K hK
          subst hxs
          obtain rfl := Option.some.inj (ho.symm.trans (rfl : _ = some _))
          simp only [putVs, Act.put, List.setIfInBounds_toArray, List.set_cons_zero, List.set_cons_succ] at ha
          subst ha
          have hb1 : Below wl.heap.size wl (wl.alloc (.cells #[.slice a3 n3 c3, .slice a6 n6 c6] 23)) := below_alloc (Below.refl _ _) _
          refine value_ rfl rfl (v := .slice (some ⟨wl.heap.size, 0, none⟩) 2 2) (w1 := wl.alloc (.cells #[.slice a3 n3 c3, .slice a6 n6 c6] 23)) (by first | (go_simp; done) | (go_simp; rfl)) ?_
          exact hK.out (.slice (some ⟨wl.heap.size, 0, none⟩) 2 2) _ (hSl.trans (hb1.mono hSl.size)) ⟨_, _, _, _, _, _, _, _, rfl, fun h => (f0 ((on_ne d 4 0 (by decide)).symm.trans h)).below hb1, fun h => (f1 ((on_ne d 4 1 (by decide)).symm.trans h)).below hb1, fun h => (f2 ((on_ne d 4 2 (by decide)).symm.trans h)).below hb1, fun h => (f3 ((on_ne d 4 3 (by decide)).symm.trans h)).below hb1, fun _ => ⟨_, rfl, blk_new wl _⟩, fun h => absurd ((on_ne d 4 5 (by decide)).symm.trans h) (fun h2 => bit_abs (before_of (j := 4) (k := 5) (by kernel_rfl) hd hjn hn) h2), fun h => (f6 ((on_ne d 4 6 (by decide)).symm.trans h)).below hb1, fun h => absurd ((on_ne d 4 7 (by decide)).symm.trans h) (fun h2 => bit_abs (before_of (j := 4) (k := 7) (by kernel_rfl) hd hjn hn) h2)⟩
        · intro d hd hjn hn xs wl hx hSl ⟨x0, x1, x2, x3, x4, x5, x6, x7, hxs, f0, f1, f2, f3, f4, f5, f6, f7⟩ a' ha o ho K hK
          subst hxs
          obtain rfl := Option.some.inj (ho.symm.trans (rfl : _ = some _))
          simp only [putVs, Act.put, List.setIfInBounds_toArray, List.set_cons_zero, List.set_cons_succ] at ha
          subst ha
          have g3 := f3 (after_of (j := 5) (k := 3) (by kernel_rfl) hd hjn hn)
          have g4 := f4 (after_of (j := 5) (k := 4) (by kernel_rfl) hd hjn hn)
          obtain ⟨gk, rfl, hk⟩ := g4
          rw [HN.out.2.2.1, HN.out.2.2.2.2.2] at hk
          have hbl := HB3.out.trans (hSl.mono HB3.out.size)
          have hrc := rowsC (d := (Kd.int .i64)) (e := 3) [(D1, a3, c3), (D2, a6, c6)] hk (by
            intro r hr
            simp only [List.mem_cons, List.not_mem_nil, or_false] at hr
            rcases hr with rfl | rfl
            · exact ⟨(HK1.out.below hbl).dc, (HK1.out.below hbl).d⟩
            · exact ⟨(HK2.out.below hbl).dc, (HK2.out.below hbl).d⟩
            ) (by simp)
          refine goes_ Try.func42 (by kernel_rfl) rfl #[.slice (some ⟨gk, 0, none⟩) 2 2] (by rfl) rfl rfl (by (try simp only [List.map_toArray, List.map_cons, List.map_nil]); first | done | rfl) ?_
          refine (concat_i wl (some ⟨gk, 0, none⟩) 2 2 [D1, D2] hrc rfl (by decide) (by have := HL.out; simp [btw]; omega)).mono ?_
          rintro e w6 ⟨v6, rfl, h4, h5⟩
          refine ⟨v6, rfl, ?_⟩
          have hR6 : RowR (Kd.int .i64) 3 w3.heap.size w6 v6 (D1 ++ D2) := by
            have := Kd.R_lower h4 hSl.size
            simpa [outK, btw, RowR] using this
          exact hK.out v6 w6 (hSl.trans (h5.mono hSl.size)) ⟨_, _, _, _, _, _, _, _, rfl, fun h => (f0 ((on_ne d 5 0 (by decide)).symm.trans h)).below h5, fun h => (f1 ((on_ne d 5 1 (by decide)).symm.trans h)).below h5, fun h => (f2 ((on_ne d 5 2 (by decide)).symm.trans h)).below h5, fun h => (f3 ((on_ne d 5 3 (by decide)).symm.trans h)).below h5, fun h => (f4 ((on_ne d 5 4 (by decide)).symm.trans h)).below h5, fun _ => hR6, fun h => (f6 ((on_ne d 5 6 (by decide)).symm.trans h)).below h5, fun h => absurd ((on_ne d 5 7 (by decide)).symm.trans h) (fun h2 => bit_abs (before_of (j := 5) (k := 7) (by kernel_rfl) hd hjn hn) h2)⟩
        · intro d hd hjn hn xs wl hx hSl ⟨x0, x1, x2, x3, x4, x5, x6, x7, hxs, f0, f1, f2, f3, f4, f5, f6, f7⟩ a' ha o ho K hK
          subst hxs
          obtain rfl := Option.some.inj (ho.symm.trans (rfl : _ = some _))
          simp only [putVs, Act.put, List.setIfInBounds_toArray, List.set_cons_zero, List.set_cons_succ] at ha
          subst ha
          have hb1 : Below wl.heap.size wl (wl.alloc (.cells #[.bool false, .slice none 0 0, .slice none 0 0, .slice none 0 0] 25)) := below_alloc (Below.refl _ _) _
          refine value_ rfl rfl (v := .pointer (some ⟨wl.heap.size, 0, none⟩)) (w1 := wl.alloc (.cells #[.bool false, .slice none 0 0, .slice none 0 0, .slice none 0 0] 25)) (by first | (go_simp; done) | (go_simp; rfl)) ?_
          exact hK.out (.pointer (some ⟨wl.heap.size, 0, none⟩)) _ (hSl.trans (hb1.mono hSl.size)) ⟨_, _, _, _, _, _, _, _, rfl, fun h => (f0 ((on_ne d 6 0 (by decide)).symm.trans h)).below hb1, fun h => (f1 ((on_ne d 6 1 (by decide)).symm.trans h)).below hb1, fun h => (f2 ((on_ne d 6 2 (by decide)).symm.trans h)).below hb1, fun h => (f3 ((on_ne d 6 3 (by decide)).symm.trans h)).below hb1, fun h => (f4 ((on_ne d 6 4 (by decide)).symm.trans h)).below hb1, fun h => (f5 ((on_ne d 6 5 (by decide)).symm.trans h)).below hb1, fun _ => ⟨_, rfl, blk_new wl _, hSl.size⟩, fun h => (f7 ((on_ne d 6 7 (by decide)).symm.trans h))⟩
        · intro d hd hjn hn xs wl hx hSl ⟨x0, x1, x2, x3, x4, x5, x6, x7, hxs, f0, f1, f2, f3, f4, f5, f6, f7⟩ a' ha o ho K hK
          subst hxs
          obtain rfl := Option.some.inj (ho.symm.trans (rfl : _ = some _))
          simp only [putVs, Act.put, List.setIfInBounds_toArray, List.set_cons_zero, List.set_cons_succ] at ha
          subst ha
          have g1 := f1 (after_of (j := 7) (k := 1) (by kernel_rfl) hd hjn hn)
          have g3 := f3 (after_of (j := 7) (k := 3) (by kernel_rfl) hd hjn hn)
          have g5 := f5 (after_of (j := 7) (k := 5) (by kernel_rfl) hd hjn hn)
          obtain ⟨A7, c7, rfl⟩ := Kd.R_slice g1
          obtain ⟨A8, c8, rfl⟩ := Kd.R_slice g3
          obtain ⟨A9, c9, rfl⟩ := Kd.R_slice g5
          refine value_ rfl rfl (v := .agg #[.bool false, .slice A7 (outK false K1 key K2).length c7, .slice A8 (V1 ++ V2).length c8, .slice A9 (D1 ++ D2).length c9]) (w1 := wl) (by first | (go_simp; done) | (go_simp; rfl)) ?_
          exact hK.out (.agg #[.bool false, .slice A7 (outK false K1 key K2).length c7, .slice A8 (V1 ++ V2).length c8, .slice A9 (D1 ++ D2).length c9]) wl hSl ⟨_, _, _, _, _, _, _, _, rfl, fun h => (f0 ((on_ne d 7 0 (by decide)).symm.trans h)).below (Below.refl _ _), fun h => (f1 ((on_ne d 7 1 (by decide)).symm.trans h)).below (Below.refl _ _), fun h => (f2 ((on_ne d 7 2 (by decide)).symm.trans h)).below (Below.refl _ _), fun h => (f3 ((on_ne d 7 3 (by decide)).symm.trans h)).below (Below.refl _ _), fun h => (f4 ((on_ne d 7 4 (by decide)).symm.trans h)).below (Below.refl _ _), fun h => (f5 ((on_ne d 7 5 (by decide)).symm.trans h)).below (Below.refl _ _), fun h => (f6 ((on_ne d 7 6 (by decide)).symm.trans h)).below (Below.refl _ _), fun _ => rfl⟩
      case hfin =>
        intro xs wl hx hSl ⟨x0, x1, x2, x3, x4, x5, x6, x7, hxs, f0, f1, f2, f3, f4, f5, f6, f7⟩ a' ha
        subst hxs
        simp only [putVs, Act.put, List.setIfInBounds_toArray, List.set_cons_zero, List.set_cons_succ] at ha
        subst ha
        have g0 := f0 (by decide)
        have g1 := f1 (by decide)
        have g2 := f2 (by decide)
        have g3 := f3 (by decide)
        have g4 := f4 (by decide)
        have g5 := f5 (by decide)
        have g6 := f6 (by decide)
        have g7 := f7 (by decide)
        clear f0 f1 f2 f3 f4 f5 f6 f7
        obtain ⟨g9, rfl, hq9, hg9⟩ := g6
        have hHeld := hSl
        obtain ⟨A7, c7, rfl⟩ := Kd.R_slice g1
        obtain ⟨A8, c8, rfl⟩ := Kd.R_slice g3
        obtain ⟨A9, c9, rfl⟩ := Kd.R_slice g5
        have HX1 := Aside0.mk g1
        have HX3 := Aside0.mk g3
        have HX5 := Aside0.mk g5
        have HQ9 := Aside0.mk hq9
        have HG9 := Aside0.mk hg9
        have HSl := Aside0.mk hSl
        obtain ⟨i0, i1, i2, i3⟩ := cells_of hq9
        have j0 := frz_of hq9 0
        have j1 := frz_of hq9 1
        have j2 := frz_of hq9 2
        have j3 := frz_of hq9 3
        subst g7
        clear g0 g1 g2 g3 g4 g5 hq9 hg9
        refine one_ (i := 23) (N := none) #[true, true, true, true, true, true, true, true, true, true, true, true, true, true, true, true, true, true, true, true, true, true, true, true] rfl rfl (by kernel_rfl) (by decide) (fun K hK => ?_)
        refine skip_ rfl rfl (w1 := set4 wl g9 (.bool false) (.slice A7 (outK false K1 key K2).length c7) (.slice A8 (V1 ++ V2).length c8) (.slice A9 (D1 ++ D2).length c9)) (by first | (go_simp; done) | (go_simp; rfl)) ?_
        refine hK.out _ _ (set4_below HSl.out HG9.out _ _ _ _) (fun hHeld => ?_)
        clear hK K 
        refine done_ (by kernel_rfl) ?_
        obtain ⟨Ko, hKo⟩ : ∃ Ko, Ko = outK false K1 key K2 := ⟨_, rfl⟩
        obtain ⟨Vo, hVo⟩ : ∃ Vo, Vo = V1 ++ V2 := ⟨_, rfl⟩
        obtain ⟨Do, hDo⟩ : ∃ Do, Do = D1 ++ D2 := ⟨_, rfl⟩
        rw [← hKo] at HX1
        rw [← hVo] at HX3
        rw [← hDo] at HX5
        rw [← hKo, ← hVo, ← hDo]
        have HM' := Aside0.mk (show m = true ↔ MergeP false K1 V1 D1 key false K2 V2 D2 from HM.out)
        have HMO := Aside0.mk (show MergeP false K1 V1 D1 key false K2 V2 D2 ↔ CanP false Ko Vo Do ∧ needTo false Ko Vo Ko.length ≤ 509 by
          rw [hKo, hVo, hDo]
          exact ⟨fun h => h.2.2.2, fun h => ⟨HR.out.1.1 (by first | rfl | trivial), HR.out.2.1 (by first | rfl | trivial), rfl, h⟩⟩)
        have HLK := Aside0.mk (show Ko.length ≤ 100000 ∧ Vo.length ≤ 100000 ∧ Do.length ≤ 100000 by
          have h := HL.out
          rw [hKo, hVo, hDo]
          unfold outK btw
          simp
          omega)
        have HE := Aside0.mk (And.intro hKo (And.intro hVo hDo))
        clear hKo hVo hDo i0 i1 i2 i3 j0 j1 j2 j3
        have hq9 := set4_blk HQ9.out (.bool false) (.slice A7 Ko.length c7) (.slice A8 Vo.length c8) (.slice A9 Do.length c9)
        have hlt : g6 < w3.heap.size := (Array.getElem?_eq_some_iff.1 HQ6c.out).1
        have hq6 := (set4_far wl g9 (.bool false) (.slice A7 Ko.length c7) (.slice A8 Vo.length c8) (.slice A9 Do.length c9) g6 (by have := HG9.out; omega)).trans (blk_below HQ6c.out HSl.out)
        have hb7 := HB3.out.trans ((set4_below HSl.out HG9.out (.bool false) (.slice A7 Ko.length c7) (.slice A8 Vo.length c8) (.slice A9 Do.length c9)).mono HB3.out.size)
        have hx1 := RowR.set4 HX1.out HQ9.out (by intro q hq; simp [Kd.string, Kd.scalar] at hq; subst hq; decide) (.bool false) (.slice A7 Ko.length c7) (.slice A8 Vo.length c8) (.slice A9 Do.length c9)
        have hx3 := RowR.set4 HX3.out HQ9.out (by intro q hq; simp [Kd.string, Kd.scalar] at hq; subst hq; decide) (.bool false) (.slice A7 Ko.length c7) (.slice A8 Vo.length c8) (.slice A9 Do.length c9)
        have hx5 := RowR.set4 HX5.out HQ9.out (by intro q hq; simp [Kd.int, Kd.scalar] at hq; subst hq; decide) (.bool false) (.slice A7 Ko.length c7) (.slice A8 Vo.length c8) (.slice A9 Do.length c9)
        clear hlt HX1 HX3 HX5 HQ9 HQ6c
        generalize set4 wl g9 (.bool false) (.slice A7 Ko.length c7) (.slice A8 Vo.length c8) (.slice A9 Do.length c9) = w7 at hq9 hq6 hb7 hx1 hx3 hx5 ⊢
        have HX1 := Aside0.mk hx1
        have HX3 := Aside0.mk hx3
        have HX5 := Aside0.mk hx5
        have HQ9 := Aside0.mk hq9
        have HQ6d := Aside0.mk hq6
        have HB7 := Aside0.mk hb7
        obtain ⟨i0, i1, i2, i3⟩ := cells_of hq9
        clear hx1 hx3 hx5 hq9 hq6 hb7 HSl hHeld
        have hbk : Bk w7 ⟨A7, c7, A8, c8, A9, c9⟩ false Ko Vo Do := bk_of HX1.out HX3.out HX5.out
        obtain ⟨r3, hr3⟩ := is_bool (CanP false Ko Vo Do)
        have hc3 := ncan_c hbk (by have := HLK.out; omega) r3 hr3
        have HBK := Aside0.mk hbk
        have HC3 := Aside0.mk hc3
        have HR3 := Aside0.mk hr3
        dsimp only at HC3
        clear hbk hr3 hc3
        cases r3 with
        | false =>
          go_wp2_with (go_at_call 35; refine HC3.out.mono ?_; rintro e w8 ⟨rfl, h1⟩; have HB8 := Aside0.mk (HB7.out.trans (h1.mono HB7.out.size)); have hq6 := blk_below HQ6d.out h1; obtain ⟨y0, y1, y2, y3⟩ := cells_of hq6; have f0 := frz_of hq6 0; have f1 := frz_of hq6 1; have f2 := frz_of hq6 2; have f3 := frz_of hq6 3; have HQ6e := Aside0.mk hq6; clear h1 hq6)
          have hm : m = false := by
            cases m with
            | false => rfl
            | true => exact absurd (HR3.out.2 (HMO.out.1 (HM'.out.1 rfl)).1) (by decide)
          subst hm
          refine bodyPost_ret (results_ct rfl _ _ g6 25 #[.bool false, .slice none 0 0, .slice none 0 0, .slice none 0 0] (0, 0) _ rfl (set4_blk HQ6e.out _ _ _ _) Try.underlying25 rfl (by kernel_rfl)) rfl ?_
          exact ⟨p0, rfl, BkR.none _ _, set4_below HB8.out HG6.out _ _ _ _⟩
        | true =>
          have hsm := small_can (HR3.out.1 rfl) HLK.out.1 HLK.out.2.1
          have HSM := Aside0.mk hsm
          clear hsm
          obtain ⟨N, hN⟩ : ∃ N, N = needTo false Ko Vo Ko.length := ⟨_, rfl⟩
          have hnd := fun (w : World) (h : Below w7.heap.size w7 w) => nneed_c (HBK.out.below h) HSM.out.1 HSM.out.2.1 Ko.length (Nat.le_refl _) HSM.out.2.2
          rw [← hN] at hnd
          dsimp only at hnd
          have HND := Aside0.mk hnd
          have HNN := Aside0.mk hN
          clear hnd hN
          by_cases hlim : N ≤ 509
          · have e1 : decide ((509 : Int) < N) = false := decide_eq_false (by omega)
            go_wp2_with (first
              | (go_at_call 36; refine (HND.out w8 HS8.out).mono ?_; rintro e w9 ⟨rfl, h1⟩; have HB9 := Aside0.mk (HB8.out.trans (h1.mono HB8.out.size)); have HS9 := Aside0.mk (HS8.out.trans (h1.mono HS8.out.size)); have hq6 := blk_below HQ6e.out h1; have hq9 := blk_below HQ9e.out h1; obtain ⟨m0, m1, m2, m3⟩ := cells_of hq9; obtain ⟨y0, y1, y2, y3⟩ := cells_of hq6; have f0 := frz_of hq6 0; have f1 := frz_of hq6 1; have f2 := frz_of hq6 2; have f3 := frz_of hq6 3; have HQ6f := Aside0.mk hq6; clear h1 hq6 hq9)
              | (go_at_call 35; refine HC3.out.mono ?_; rintro e w8 ⟨rfl, h1⟩; have HB8 := Aside0.mk (HB7.out.trans (h1.mono HB7.out.size)); have HS8 := Aside0.mk h1; have hq6 := blk_below HQ6d.out h1; have hq9 := blk_below HQ9.out h1; obtain ⟨k0, k1, k2, k3⟩ := cells_of hq9; have HQ6e := Aside0.mk hq6; have HQ9e := Aside0.mk hq9; clear h1 hq6 hq9))
            have hm : m = true := HM'.out.2 (HMO.out.2 ⟨HR3.out.1 (by first | rfl | trivial), by rw [← HNN.out]; exact hlim⟩)
            subst hm
            refine bodyPost_ret (results_ct rfl _ _ g6 25 #[.bool false, .slice A7 Ko.length c7, .slice A8 Vo.length c8, .slice A9 Do.length c9] (0, 0) _ rfl (set4_blk HQ6f.out _ _ _ _) Try.underlying25 rfl (by kernel_rfl)) rfl ?_
            refine ⟨⟨A7, c7, A8, c8, A9, c9⟩, ?_, ?_, set4_below HB9.out HG6.out _ _ _ _⟩
            · rw [← HE.out.1, ← HE.out.2.1, ← HE.out.2.2]
              rfl
            · rw [← HE.out.1, ← HE.out.2.1, ← HE.out.2.2]
              exact BkR.lower ⟨(RowR.set4 (HX1.out.below HS9.out) HQ6f.out (by intro q hq; simp [Kd.string, Kd.scalar] at hq; subst hq; decide) _ _ _ _), (RowR.set4 (HX3.out.below HS9.out) HQ6f.out (by intro q hq; simp [Kd.string, Kd.scalar] at hq; subst hq; decide) _ _ _ _), (RowR.set4 (HX5.out.below HS9.out) HQ6f.out (by intro q hq; simp [Kd.int, Kd.scalar] at hq; subst hq; decide) _ _ _ _)⟩ HB3.out.size
          · have e1 : decide ((509 : Int) < N) = true := decide_eq_true (by omega)
            go_wp2_with (first
              | (go_at_call 36; refine (HND.out w8 HS8.out).mono ?_; rintro e w9 ⟨rfl, h1⟩; have HB9 := Aside0.mk (HB8.out.trans (h1.mono HB8.out.size)); have hq6 := blk_below HQ6e.out h1; obtain ⟨y0, y1, y2, y3⟩ := cells_of hq6; have f0 := frz_of hq6 0; have f1 := frz_of hq6 1; have f2 := frz_of hq6 2; have f3 := frz_of hq6 3; have HQ6f := Aside0.mk hq6; clear h1 hq6)
              | (go_at_call 35; refine HC3.out.mono ?_; rintro e w8 ⟨rfl, h1⟩; have HB8 := Aside0.mk (HB7.out.trans (h1.mono HB7.out.size)); have HS8 := Aside0.mk h1; have hq6 := blk_below HQ6d.out h1; have hq9 := blk_below HQ9.out h1; obtain ⟨k0, k1, k2, k3⟩ := cells_of hq9; have HQ6e := Aside0.mk hq6; clear h1 hq6 hq9))
            have hm : m = false := by
              cases m with
              | false => rfl
              | true => exact absurd (by have h := (HMO.out.1 (HM'.out.1 rfl)).2; rw [← HNN.out] at h; have := hlim; omega : false = true) (by decide)
            subst hm
            refine bodyPost_ret (results_ct rfl _ _ g6 25 #[.bool false, .slice none 0 0, .slice none 0 0, .slice none 0 0] (0, 0) _ rfl (set4_blk HQ6f.out _ _ _ _) Try.underlying25 rfl (by kernel_rfl)) rfl ?_
            exact ⟨p0, rfl, BkR.none _ _, set4_below HB9.out HG6.out _ _ _ _⟩
     | true =>
      go_wp2_with (first
        | (go_at_call 35; first
        | (refine (HC2.out w1 HB1.out).mono ?_; rintro e w2 ⟨rfl, h1⟩; have HB2 := Aside0.mk (HB1.out.trans (h1.mono HB1.out.size)); have hq3 := blk_below HQ3a.out h1; have hq5 := blk_below HQ5a.out h1; have hq6 := blk_below HQ6a.out h1; obtain ⟨z0, z1, z2, z3⟩ := cells_of hq3; obtain ⟨t0, t1, t2, t3⟩ := cells_of hq5; obtain ⟨y0, y1, y2, y3⟩ := cells_of hq6; have f0 := frz_of hq6 0; have f1 := frz_of hq6 1; have f2 := frz_of hq6 2; have f3 := frz_of hq6 3; have u0 := (cells_of (blk_alloc hq3 (.cells #[.string key] 9))).1; have HQ3b := Aside0.mk hq3; have HQ5b := Aside0.mk hq5; have HQ6b := Aside0.mk hq6; clear h1 hq3 hq5 hq6)
        | (refine (HC1.out w0 HB0.out).mono ?_; rintro e w1 ⟨rfl, h1⟩; have HB1 := Aside0.mk (HB0.out.trans (h1.mono HB0.out.size)); have hq3 := blk_below HQ3.out h1; have hq5 := blk_below HQ5.out h1; have hq6 := blk_below HQ6.out h1; obtain ⟨s0, s1, s2, s3⟩ := cells_of hq5; have HQ3a := Aside0.mk hq3; have HQ5a := Aside0.mk hq5; have HQ6a := Aside0.mk hq6; clear h1 hq3 hq5 hq6)))
      have hm : m = false := by
        cases m with
        | false => rfl
        | true => exact absurd (HM.out.1 rfl).2.2.1 (by decide)
      subst hm
      refine bodyPost_ret (results_ct rfl _ _ g6 25 #[.bool false, .slice none 0 0, .slice none 0 0, .slice none 0 0] (0, 0) _ rfl (set4_blk HQ6b.out _ _ _ _) Try.underlying25 rfl (by kernel_rfl)) rfl ?_
      exact ⟨p0, rfl, BkR.none _ _, set4_below HB2.out HG6.out _ _ _ _⟩
    | true =>
     cases b2 with
     | false =>
      go_wp2_with (first
        | (go_at_call 35; first
        | (refine (HC2.out w1 HB1.out).mono ?_; rintro e w2 ⟨rfl, h1⟩; have HB2 := Aside0.mk (HB1.out.trans (h1.mono HB1.out.size)); have hq3 := blk_below HQ3a.out h1; have hq5 := blk_below HQ5a.out h1; have hq6 := blk_below HQ6a.out h1; obtain ⟨z0, z1, z2, z3⟩ := cells_of hq3; obtain ⟨t0, t1, t2, t3⟩ := cells_of hq5; obtain ⟨y0, y1, y2, y3⟩ := cells_of hq6; have f0 := frz_of hq6 0; have f1 := frz_of hq6 1; have f2 := frz_of hq6 2; have f3 := frz_of hq6 3; have u0 := (cells_of (blk_alloc hq3 (.cells #[.string key] 9))).1; have HQ3b := Aside0.mk hq3; have HQ5b := Aside0.mk hq5; have HQ6b := Aside0.mk hq6; clear h1 hq3 hq5 hq6)
        | (refine (HC1.out w0 HB0.out).mono ?_; rintro e w1 ⟨rfl, h1⟩; have HB1 := Aside0.mk (HB0.out.trans (h1.mono HB0.out.size)); have hq3 := blk_below HQ3.out h1; have hq5 := blk_below HQ5.out h1; have hq6 := blk_below HQ6.out h1; obtain ⟨s0, s1, s2, s3⟩ := cells_of hq5; have HQ3a := Aside0.mk hq3; have HQ5a := Aside0.mk hq5; have HQ6a := Aside0.mk hq6; clear h1 hq3 hq5 hq6)))
      have hm : m = false := by
        cases m with
        | false => rfl
        | true => exact absurd (HM.out.1 rfl).2.2.1 (by decide)
      subst hm
      refine bodyPost_ret (results_ct rfl _ _ g6 25 #[.bool false, .slice none 0 0, .slice none 0 0, .slice none 0 0] (0, 0) _ rfl (set4_blk HQ6b.out _ _ _ _) Try.underlying25 rfl (by kernel_rfl)) rfl ?_
      exact ⟨p0, rfl, BkR.none _ _, set4_below HB2.out HG6.out _ _ _ _⟩
     | true =>
      go_upto_region 6 with (first
        | (go_at_call 35; first
              | (refine (HC2.out w1 HB1.out).mono ?_; rintro e w2 ⟨rfl, h1⟩; have HB2 := Aside0.mk (HB1.out.trans (h1.mono HB1.out.size)); have hq3 := blk_below HQ3a.out h1; have hq5 := blk_below HQ5a.out h1; have hq6 := blk_below HQ6a.out h1; obtain ⟨z0, z1, z2, z3⟩ := cells_of hq3; obtain ⟨t0, t1, t2, t3⟩ := cells_of hq5; obtain ⟨y0, y1, y2, y3⟩ := cells_of hq6; have f0 := frz_of hq6 0; have f1 := frz_of hq6 1; have f2 := frz_of hq6 2; have f3 := frz_of hq6 3; have u0 := (cells_of (blk_alloc hq3 (.cells #[.string key] 9))).1; have HQ3b := Aside0.mk hq3; have HQ5b := Aside0.mk hq5; have HQ6b := Aside0.mk hq6; clear h1 hq3 hq5 hq6)
              | (refine (HC1.out w0 HB0.out).mono ?_; rintro e w1 ⟨rfl, h1⟩; have HB1 := Aside0.mk (HB0.out.trans (h1.mono HB0.out.size)); have hq3 := blk_below HQ3.out h1; have hq5 := blk_below HQ5.out h1; have hq6 := blk_below HQ6.out h1; obtain ⟨s0, s1, s2, s3⟩ := cells_of hq5; have HQ3a := Aside0.mk hq3; have HQ5a := Aside0.mk hq5; have HQ6a := Aside0.mk hq6; clear h1 hq3 hq5 hq6)))
      obtain ⟨w3, hw3⟩ : ∃ w3, w3 = w2.alloc (.cells #[.string key] 9) := ⟨_, rfl⟩
      obtain ⟨gb, hgb⟩ : ∃ gb, gb = w2.heap.size := ⟨_, rfl⟩
      rw [← hw3, ← hgb]
      have hb3 : Below w2.heap.size w2 w3 := by rw [hw3]; exact below_alloc (Below.refl _ _) _
      have HBT := Aside0.mk (show Kd.C Kd.string w3 none 0 [] from ⟨rfl, by decide, fun h => absurd h (by decide)⟩)
      have HB3 := Aside0.mk (HB2.out.trans (hb3.mono HB2.out.size))
      have HQ3c := Aside0.mk (blk_below HQ3b.out hb3)
      have HQ5c := Aside0.mk (blk_below HQ5b.out hb3)
      have HQ6c := Aside0.mk (blk_below HQ6b.out hb3)
      clear hb3 hw3 hgb z0 z1 z2 z3 t0 t1 t2 t3 y0 y1 y2 y3 f0 f1 f2 f3 u0 s0 s1 s2 s3 x0 x1 x2 x3
      have hdr : Below w3.heap.size w3 w3.drew := below_drew (Below.refl _ _)
      refine start_ (n := 24) (S := fun w' => Below w3.heap.size w3 w') (ds := []) #[false, false, false, false, false, false, false, false, false, false, false, false, false, false, false, false, false, false, false, false, false, false, false, false] (by kernel_rfl) rfl rfl hdr (fun hHeld => ?_)
      refine pure_ (i := 0) (N := some 30) (v := ?_) (a' := ?_) #[true, false, false, false, false, false, false, false, false, false, false, false, false, false, false, false, false, false, false, false, false, false, false, false] rfl rfl (by kernel_rfl) (fun _ _ _ h => h) (Or.inl ⟨by rfl, ?_⟩) ?_ ?_
      rotate_left
      · intro w'
        go_simp
        with_reducible rfl
      rotate_left
      · simp only [Act.put, List.setIfInBounds_toArray, List.set_cons_zero, List.set_cons_succ]
        rfl
      refine pure_ (i := 2) (N := some 32) (v := ?_) (a' := ?_) #[true, false, true, false, false, false, false, false, false, false, false, false, false, false, false, false, false, false, false, false, false, false, false, false] rfl rfl (by kernel_rfl) (fun _ _ _ h => h) (Or.inl ⟨by rfl, ?_⟩) ?_ ?_
      rotate_left
      · intro w'
        go_simp
        with_reducible rfl
      rotate_left
      · simp only [Act.put, List.setIfInBounds_toArray, List.set_cons_zero, List.set_cons_succ]
        rfl
      refine pure_ (i := 4) (N := some 34) (v := ?_) (a' := ?_) #[true, false, true, false, true, false, false, false, false, false, false, false, false, false, false, false, false, false, false, false, false, false, false, false] rfl rfl (by kernel_rfl) (fun _ _ _ h => h) (Or.inl ⟨by rfl, ?_⟩) ?_ ?_
      rotate_left
      · intro w'
        go_simp
        with_reducible rfl
      rotate_left
      · simp only [Act.put, List.setIfInBounds_toArray, List.set_cons_zero, List.set_cons_succ]
        rfl
      refine pure_ (i := 5) (N := some 35) (v := ?_) (a' := ?_) #[true, false, true, false, true, true, false, false, false, false, false, false, false, false, false, false, false, false, false, false, false, false, false, false] rfl rfl (by kernel_rfl) (fun _ _ _ h => h) (Or.inl ⟨by rfl, ?_⟩) ?_ ?_
      rotate_left
      · intro w'
        go_simp
        with_reducible rfl
      rotate_left
      · simp only [Act.put, List.setIfInBounds_toArray, List.set_cons_zero, List.set_cons_succ]
        rfl
      refine pure_ (i := 9) (N := some 39) (v := ?_) (a' := ?_) #[true, false, true, false, true, true, false, false, false, true, false, false, false, false, false, false, false, false, false, false, false, false, false, false] rfl rfl (by kernel_rfl) (fun _ _ _ h => h) (Or.inl ⟨by rfl, ?_⟩) ?_ ?_
      rotate_left
      · intro w'
        go_simp
        with_reducible rfl
      rotate_left
      · simp only [Act.put, List.setIfInBounds_toArray, List.set_cons_zero, List.set_cons_succ]
        rfl
      refine pure_ (i := 11) (N := some 41) (v := ?_) (a' := ?_) #[true, false, true, false, true, true, false, false, false, true, false, true, false, false, false, false, false, false, false, false, false, false, false, false] rfl rfl (by kernel_rfl) (fun _ _ _ h => h) (Or.inl ⟨by rfl, ?_⟩) ?_ ?_
      rotate_left
      · intro w'
        go_simp
        with_reducible rfl
      rotate_left
      · simp only [Act.put, List.setIfInBounds_toArray, List.set_cons_zero, List.set_cons_succ]
        rfl
      refine pure_ (i := 15) (N := some 45) (v := ?_) (a' := ?_) #[true, false, true, false, true, true, false, false, false, true, false, true, false, false, false, true, false, false, false, false, false, false, false, false] rfl rfl (by kernel_rfl) (fun _ _ _ h => h) (Or.inl ⟨by rfl, ?_⟩) ?_ ?_
      rotate_left
      · intro w'
        go_simp
        with_reducible rfl
      rotate_left
      · simp only [Act.put, List.setIfInBounds_toArray, List.set_cons_zero, List.set_cons_succ]
        rfl
      refine pure_ (i := 17) (N := some 47) (v := ?_) (a' := ?_) #[true, false, true, false, true, true, false, false, false, true, false, true, false, false, false, true, false, true, false, false, false, false, false, false] rfl rfl (by kernel_rfl) (fun _ _ _ h => h) (Or.inl ⟨by rfl, ?_⟩) ?_ ?_
      rotate_left
      · intro w'
        go_simp
        with_reducible rfl
      rotate_left
      · simp only [Act.put, List.setIfInBounds_toArray, List.set_cons_zero, List.set_cons_succ]
        rfl
      refine take_ (i := 1) (N := some 31) (v := ?_) (a' := ?_) #[true, true, true, false, true, true, false, false, false, true, false, true, false, false, false, true, false, true, false, false, false, false, false, false] rfl rfl (by kernel_rfl) (fun _ _ _ h => h) (Or.inl ⟨by rfl, ?_⟩) hHeld ?_ ?_
      rotate_left
      · intro w' s0
        have s1 := (cells_of (blk_below HQ3c.out s0)).1
        go_simp
        with_reducible rfl
      rotate_left
      · simp only [Act.put, List.setIfInBounds_toArray, List.set_cons_zero, List.set_cons_succ]
        rfl
      refine take_ (i := 3) (N := some 33) (v := ?_) (a' := ?_) #[true, true, true, true, true, true, false, false, false, true, false, true, false, false, false, true, false, true, false, false, false, false, false, false] rfl rfl (by kernel_rfl) (fun _ _ _ h => h) (Or.inl ⟨by rfl, ?_⟩) hHeld ?_ ?_
      rotate_left
      · intro w' s0
        have s1 := (cells_of (blk_below HQ3c.out s0)).2.1
        go_simp
        with_reducible rfl
      rotate_left
      · simp only [Act.put, List.setIfInBounds_toArray, List.set_cons_zero, List.set_cons_succ]
        rfl
      refine take_ (i := 6) (N := some 36) (v := ?_) (a' := ?_) #[true, true, true, true, true, true, true, false, false, true, false, true, false, false, false, true, false, true, false, false, false, false, false, false] rfl rfl (by kernel_rfl) (fun _ _ _ h => h) (Or.inl ⟨by rfl, ?_⟩) hHeld ?_ ?_
      rotate_left
      · intro w' s0
        have s1 := (cells_of (blk_below HQ5c.out s0)).2.1
        go_simp
        with_reducible rfl
      rotate_left
      · simp only [Act.put, List.setIfInBounds_toArray, List.set_cons_zero, List.set_cons_succ]
        rfl
      refine take_ (i := 10) (N := some 40) (v := ?_) (a' := ?_) #[true, true, true, true, true, true, true, false, false, true, true, true, false, false, false, true, false, true, false, false, false, false, false, false] rfl rfl (by kernel_rfl) (fun _ _ _ h => h) (Or.inl ⟨by rfl, ?_⟩) hHeld ?_ ?_
      rotate_left
      · intro w' s0
        have s1 := (cells_of (blk_below HQ3c.out s0)).2.2.1
        go_simp
        with_reducible rfl
      rotate_left
      · simp only [Act.put, List.setIfInBounds_toArray, List.set_cons_zero, List.set_cons_succ]
        rfl
      refine take_ (i := 12) (N := some 42) (v := ?_) (a' := ?_) #[true, true, true, true, true, true, true, false, false, true, true, true, true, false, false, true, false, true, false, false, false, false, false, false] rfl rfl (by kernel_rfl) (fun _ _ _ h => h) (Or.inl ⟨by rfl, ?_⟩) hHeld ?_ ?_
      rotate_left
      · intro w' s0
        have s1 := (cells_of (blk_below HQ5c.out s0)).2.2.1
        go_simp
        with_reducible rfl
      rotate_left
      · simp only [Act.put, List.setIfInBounds_toArray, List.set_cons_zero, List.set_cons_succ]
        rfl
      refine take_ (i := 16) (N := some 46) (v := ?_) (a' := ?_) #[true, true, true, true, true, true, true, false, false, true, true, true, true, false, false, true, true, true, false, false, false, false, false, false] rfl rfl (by kernel_rfl) (fun _ _ _ h => h) (Or.inl ⟨by rfl, ?_⟩) hHeld ?_ ?_
      rotate_left
      · intro w' s0
        have s1 := (cells_of (blk_below HQ3c.out s0)).2.2.2
        go_simp
        with_reducible rfl
      rotate_left
      · simp only [Act.put, List.setIfInBounds_toArray, List.set_cons_zero, List.set_cons_succ]
        rfl
      refine take_ (i := 18) (N := some 48) (v := ?_) (a' := ?_) #[true, true, true, true, true, true, true, false, false, true, true, true, true, false, false, true, true, true, true, false, false, false, false, false] rfl rfl (by kernel_rfl) (fun _ _ _ h => h) (Or.inl ⟨by rfl, ?_⟩) hHeld ?_ ?_
      rotate_left
      · intro w' s0
        have s1 := (cells_of (blk_below HQ5c.out s0)).2.2.2
        go_simp
        with_reducible rfl
      rotate_left
      · simp only [Act.put, List.setIfInBounds_toArray, List.set_cons_zero, List.set_cons_succ]
        rfl
      refine lattice3 (l0 := #[true, true, true, true, true, true, true, false, false, true, true, true, true, false, false, true, true, true, true, false, false, false, false, false]) [7, 8, 13, 14, 19, 20, 22, 21] [[false, false, false, false, false, false, false, false], [true, false, false, false, false, false, false, false], [true, true, false, false, false, false, false, false], [false, false, true, false, false, false, false, false], [true, false, true, false, false, false, false, false], [true, true, true, false, false, false, false, false], [true, true, true, true, false, false, false, false], [false, false, false, false, true, false, false, false], [true, false, false, false, true, false, false, false], [true, true, false, false, true, false, false, false], [false, false, true, false, true, false, false, false], [true, false, true, false, true, false, false, false], [true, true, true, false, true, false, false, false], [true, true, true, true, true, false, false, false], [true, true, true, true, true, true, false, false], [false, false, false, false, false, false, true, false], [true, false, false, false, false, false, true, false], [true, true, false, false, false, false, true, false], [false, false, true, false, false, false, true, false], [true, false, true, false, false, false, true, false], [true, true, true, false, false, false, true, false], [true, true, true, true, false, false, true, false], [false, false, false, false, true, false, true, false], [true, false, false, false, true, false, true, false], [true, true, false, false, true, false, true, false], [false, false, true, false, true, false, true, false], [true, false, true, false, true, false, true, false], [true, true, true, false, true, false, true, false], [true, true, true, true, true, false, true, false], [true, true, true, true, true, true, true, false], [true, true, true, true, true, true, false, true], [true, true, true, true, true, true, true, true]] [37, 38, 43, 44, 49, 50, 9, 51] (by kernel_rfl) (by kernel_rfl) (by decide) (by kernel_rfl) (by kernel_rfl) (by kernel_rfl) (fun d xs w' => ∃ x0 x1 x2 x3 x4 x5 x6 x7, xs = [x0, x1, x2, x3, x4, x5, x6, x7] ∧ (d.getD 0 false = true → RowsAt w' x0 #[.slice a1 n1 c1, .slice none 0 0, .slice a4 n4 c4] 22) ∧ (d.getD 1 false = true → RowR Kd.string 9 w3.heap.size w' x1 (outK true K1 key K2)) ∧ (d.getD 2 false = true → RowsAt w' x2 #[.slice a2 n2 c2, .slice a5 n5 c5] 22) ∧ (d.getD 3 false = true → RowR Kd.string 9 w3.heap.size w' x3 (V1 ++ V2)) ∧ (d.getD 4 false = true → RowsAt w' x4 #[.slice a3 n3 c3, .slice a6 n6 c6] 23) ∧ (d.getD 5 false = true → RowR (Kd.int .i64) 3 w3.heap.size w' x5 (D1 ++ D2)) ∧ (d.getD 6 false = true → BoxAt w3.heap.size w' x6 #[.bool false, .slice none 0 0, .slice none 0 0, .slice none 0 0]) ∧ (d.getD 7 false = true → x7 = .agg #[.bool true, x1, x3, x5])) 1 rfl (by kernel_rfl) hHeld ?hF ?hstep ?hfin
      case hF =>
        intro xs hx
        match xs, hx with
        | [x0, x1, x2, x3, x4, x5, x6, x7], _ => exact ⟨x0, x1, x2, x3, x4, x5, x6, x7, rfl, fun h => absurd h (by decide), fun h => absurd h (by decide), fun h => absurd h (by decide), fun h => absurd h (by decide), fun h => absurd h (by decide), fun h => absurd h (by decide), fun h => absurd h (by decide), fun h => absurd h (by decide)⟩
      case hstep =>
        intro j hj
        have hj : j < 8 := hj
        rcases (by omega : j = 0 ∨ j = 1 ∨ j = 2 ∨ j = 3 ∨ j = 4 ∨ j = 5 ∨ j = 6 ∨ j = 7) with rfl | rfl | rfl | rfl | rfl | rfl | rfl | rfl
        · intro d hd hjn hn xs wl hx hSl ⟨x0, x1, x2, x3, x4, x5, x6, x7, hxs, f0, f1, f2, f3, f4, f5, f6, f7⟩ a' ha o ho K hK
          subst hxs
          obtain rfl := Option.some.inj (ho.symm.trans (rfl : _ = some _))
          simp only [putVs, Act.put, List.setIfInBounds_toArray, List.set_cons_zero, List.set_cons_succ] at ha
          subst ha
          have hb1 : Below wl.heap.size wl (wl.alloc (.cells #[.slice a1 n1 c1, .slice none 0 0, .slice a4 n4 c4] 22)) := below_alloc (Below.refl _ _) _
          refine value_ rfl rfl (v := .slice (some ⟨wl.heap.size, 0, none⟩) 3 3) (w1 := wl.alloc (.cells #[.slice a1 n1 c1, .slice none 0 0, .slice a4 n4 c4] 22)) (by first | (go_simp; done) | (go_simp; rfl)) ?_
          exact hK.out (.slice (some ⟨wl.heap.size, 0, none⟩) 3 3) _ (hSl.trans (hb1.mono hSl.size)) ⟨_, _, _, _, _, _, _, _, rfl, fun _ => ⟨_, rfl, blk_new wl _⟩, fun h => absurd ((on_ne d 0 1 (by decide)).symm.trans h) (fun h2 => bit_abs (before_of (j := 0) (k := 1) (by kernel_rfl) hd hjn hn) h2), fun h => (f2 ((on_ne d 0 2 (by decide)).symm.trans h)).below hb1, fun h => absurd ((on_ne d 0 3 (by decide)).symm.trans h) (fun h2 => bit_abs (before_of (j := 0) (k := 3) (by kernel_rfl) hd hjn hn) h2), fun h => (f4 ((on_ne d 0 4 (by decide)).symm.trans h)).below hb1, fun h => absurd ((on_ne d 0 5 (by decide)).symm.trans h) (fun h2 => bit_abs (before_of (j := 0) (k := 5) (by kernel_rfl) hd hjn hn) h2), fun h => (f6 ((on_ne d 0 6 (by decide)).symm.trans h)).below hb1, fun h => absurd ((on_ne d 0 7 (by decide)).symm.trans h) (fun h2 => bit_abs (before_of (j := 0) (k := 7) (by kernel_rfl) hd hjn hn) h2)⟩
        · intro d hd hjn hn xs wl hx hSl ⟨x0, x1, x2, x3, x4, x5, x6, x7, hxs, f0, f1, f2, f3, f4, f5, f6, f7⟩ a' ha o ho K hK
          subst hxs
          obtain rfl := Option.some.inj (ho.symm.trans (rfl : _ = some _))
          simp only [putVs, Act.put, List.setIfInBounds_toArray, List.set_cons_zero, List.set_cons_succ] at ha
          subst ha
          have g0 := f0 (after_of (j := 1) (k := 0) (by kernel_rfl) hd hjn hn)
          obtain ⟨gk, rfl, hk⟩ := g0
          rw [HN.out.1, HN.out.2.2.2.1] at hk
          have hbl := HB3.out.trans (hSl.mono HB3.out.size)
          have hrc := rowsC (d := Kd.string) (e := 9) [(K1, a1, c1), ([], none, 0), (K2, a4, c4)] hk (by
            intro r hr
            simp only [List.mem_cons, List.not_mem_nil, or_false] at hr
            rcases hr with rfl | rfl | rfl
            · exact ⟨(HK1.out.below hbl).kc, (HK1.out.below hbl).k⟩
            · exact ⟨(by simp), (Kd.C_below HBT.out hSl)⟩
            · exact ⟨(HK2.out.below hbl).kc, (HK2.out.below hbl).k⟩
            ) (by simp)
          refine goes_ Try.func41 (by kernel_rfl) rfl #[.slice (some ⟨gk, 0, none⟩) 3 3] (by rfl) rfl rfl (by (try simp only [List.map_toArray, List.map_cons, List.map_nil]); first | done | rfl) ?_
          refine (concat_s wl (some ⟨gk, 0, none⟩) 3 3 [K1, [], K2] hrc rfl (by decide) (by have := HL.out; simp [btw]; omega)).mono ?_
          rintro e w6 ⟨v6, rfl, h4, h5⟩
          refine ⟨v6, rfl, ?_⟩
          have hR6 : RowR Kd.string 9 w3.heap.size w6 v6 (outK true K1 key K2) := by
            have := Kd.R_lower h4 hSl.size
            simpa [outK, btw, RowR] using this
          exact hK.out v6 w6 (hSl.trans (h5.mono hSl.size)) ⟨_, _, _, _, _, _, _, _, rfl, fun h => (f0 ((on_ne d 1 0 (by decide)).symm.trans h)).below h5, fun _ => hR6, fun h => (f2 ((on_ne d 1 2 (by decide)).symm.trans h)).below h5, fun h => absurd ((on_ne d 1 3 (by decide)).symm.trans h) (fun h2 => bit_abs (before_of (j := 1) (k := 3) (by kernel_rfl) hd hjn hn) h2), fun h => (f4 ((on_ne d 1 4 (by decide)).symm.trans h)).below h5, fun h => absurd ((on_ne d 1 5 (by decide)).symm.trans h) (fun h2 => bit_abs (before_of (j := 1) (k := 5) (by kernel_rfl) hd hjn hn) h2), fun h => (f6 ((on_ne d 1 6 (by decide)).symm.trans h)).below h5, fun h => absurd ((on_ne d 1 7 (by decide)).symm.trans h) (fun h2 => bit_abs (before_of (j := 1) (k := 7) (by kernel_rfl) hd hjn hn) h2)⟩
        · intro d hd hjn hn xs wl hx hSl ⟨x0, x1, x2, x3, x4, x5, x6, x7, hxs, f0, f1, f2, f3, f4, f5, f6, f7⟩ a' ha o ho K hK
          subst hxs
          obtain rfl := Option.some.inj (ho.symm.trans (rfl : _ = some _))
          simp only [putVs, Act.put, List.setIfInBounds_toArray, List.set_cons_zero, List.set_cons_succ] at ha
          subst ha
          have hb1 : Below wl.heap.size wl (wl.alloc (.cells #[.slice a2 n2 c2, .slice a5 n5 c5] 22)) := below_alloc (Below.refl _ _) _
          refine value_ rfl rfl (v := .slice (some ⟨wl.heap.size, 0, none⟩) 2 2) (w1 := wl.alloc (.cells #[.slice a2 n2 c2, .slice a5 n5 c5] 22)) (by first | (go_simp; done) | (go_simp; rfl)) ?_
          exact hK.out (.slice (some ⟨wl.heap.size, 0, none⟩) 2 2) _ (hSl.trans (hb1.mono hSl.size)) ⟨_, _, _, _, _, _, _, _, rfl, fun h => (f0 ((on_ne d 2 0 (by decide)).symm.trans h)).below hb1, fun h => (f1 ((on_ne d 2 1 (by decide)).symm.trans h)).below hb1, fun _ => ⟨_, rfl, blk_new wl _⟩, fun h => absurd ((on_ne d 2 3 (by decide)).symm.trans h) (fun h2 => bit_abs (before_of (j := 2) (k := 3) (by kernel_rfl) hd hjn hn) h2), fun h => (f4 ((on_ne d 2 4 (by decide)).symm.trans h)).below hb1, fun h => absurd ((on_ne d 2 5 (by decide)).symm.trans h) (fun h2 => bit_abs (before_of (j := 2) (k := 5) (by kernel_rfl) hd hjn hn) h2), fun h => (f6 ((on_ne d 2 6 (by decide)).symm.trans h)).below hb1, fun h => absurd ((on_ne d 2 7 (by decide)).symm.trans h) (fun h2 => bit_abs (before_of (j := 2) (k := 7) (by kernel_rfl) hd hjn hn) h2)⟩
        · intro d hd hjn hn xs wl hx hSl ⟨x0, x1, x2, x3, x4, x5, x6, x7, hxs, f0, f1, f2, f3, f4, f5, f6, f7⟩ a' ha o ho K hK
          subst hxs
          obtain rfl := Option.some.inj (ho.symm.trans (rfl : _ = some _))
          simp only [putVs, Act.put, List.setIfInBounds_toArray, List.set_cons_zero, List.set_cons_succ] at ha
          subst ha
          have g1 := f1 (after_of (j := 3) (k := 1) (by kernel_rfl) hd hjn hn)
          have g2 := f2 (after_of (j := 3) (k := 2) (by kernel_rfl) hd hjn hn)
          obtain ⟨gk, rfl, hk⟩ := g2
          rw [HN.out.2.1, HN.out.2.2.2.2.1] at hk
          have hbl := HB3.out.trans (hSl.mono HB3.out.size)
          have hrc := rowsC (d := Kd.string) (e := 9) [(V1, a2, c2), (V2, a5, c5)] hk (by
            intro r hr
            simp only [List.mem_cons, List.not_mem_nil, or_false] at hr
            rcases hr with rfl | rfl
            · exact ⟨(HK1.out.below hbl).vc, (HK1.out.below hbl).v⟩
            · exact ⟨(HK2.out.below hbl).vc, (HK2.out.below hbl).v⟩
            ) (by simp)
          refine goes_ Try.func41 (by kernel_rfl) rfl #[.slice (some ⟨gk, 0, none⟩) 2 2] (by rfl) rfl rfl (by (try simp only [List.map_toArray, List.map_cons, List.map_nil]); first | done | rfl) ?_
          refine (concat_s wl (some ⟨gk, 0, none⟩) 2 2 [V1, V2] hrc rfl (by decide) (by have := HL.out; simp [btw]; omega)).mono ?_
          rintro e w6 ⟨v6, rfl, h4, h5⟩
          refine ⟨v6, rfl, ?_⟩
          have hR6 : RowR Kd.string 9 w3.heap.size w6 v6 (V1 ++ V2) := by
            have := Kd.R_lower h4 hSl.size
            simpa [outK, btw, RowR] using this
          exact hK.out v6 w6 (hSl.trans (h5.mono hSl.size)) ⟨_, _, _, _, _, _, _, _, rfl, fun h => (f0 ((on_ne d 3 0 (by decide)).symm.trans h)).below h5, fun h => (f1 ((on_ne d 3 1 (by decide)).symm.trans h)).below h5, fun h => (f2 ((on_ne d 3 2 (by decide)).symm.trans h)).below h5, fun _ => hR6, fun h => (f4 ((on_ne d 3 4 (by decide)).symm.trans h)).below h5, fun h => absurd ((on_ne d 3 5 (by decide)).symm.trans h) (fun h2 => bit_abs (before_of (j := 3) (k := 5) (by kernel_rfl) hd hjn hn) h2), fun h => (f6 ((on_ne d 3 6 (by decide)).symm.trans h)).below h5, fun h => absurd ((on_ne d 3 7 (by decide)).symm.trans h) (fun h2 => bit_abs (before_of (j := 3) (k := 7) (by kernel_rfl) hd hjn hn) h2)⟩
        · intro d hd hjn hn xs wl hx hSl ⟨x0, x1, x2, x3, x4, x5, x6, x7, hxs, f0, f1, f2, f3, f4, f5, f6, f7⟩ a' ha o ho K hK
          subst hxs
          obtain rfl := Option.some.inj (ho.symm.trans (rfl : _ = some _))
          simp only [putVs, Act.put, List.setIfInBounds_toArray, List.set_cons_zero, List.set_cons_succ] at ha
          subst ha
          have hb1 : Below wl.heap.size wl (wl.alloc (.cells #[.slice a3 n3 c3, .slice a6 n6 c6] 23)) := below_alloc (Below.refl _ _) _
          refine value_ rfl rfl (v := .slice (some ⟨wl.heap.size, 0, none⟩) 2 2) (w1 := wl.alloc (.cells #[.slice a3 n3 c3, .slice a6 n6 c6] 23)) (by first | (go_simp; done) | (go_simp; rfl)) ?_
          exact hK.out (.slice (some ⟨wl.heap.size, 0, none⟩) 2 2) _ (hSl.trans (hb1.mono hSl.size)) ⟨_, _, _, _, _, _, _, _, rfl, fun h => (f0 ((on_ne d 4 0 (by decide)).symm.trans h)).below hb1, fun h => (f1 ((on_ne d 4 1 (by decide)).symm.trans h)).below hb1, fun h => (f2 ((on_ne d 4 2 (by decide)).symm.trans h)).below hb1, fun h => (f3 ((on_ne d 4 3 (by decide)).symm.trans h)).below hb1, fun _ => ⟨_, rfl, blk_new wl _⟩, fun h => absurd ((on_ne d 4 5 (by decide)).symm.trans h) (fun h2 => bit_abs (before_of (j := 4) (k := 5) (by kernel_rfl) hd hjn hn) h2), fun h => (f6 ((on_ne d 4 6 (by decide)).symm.trans h)).below hb1, fun h => absurd ((on_ne d 4 7 (by decide)).symm.trans h) (fun h2 => bit_abs (before_of (j := 4) (k := 7) (by kernel_rfl) hd hjn hn) h2)⟩
        · intro d hd hjn hn xs wl hx hSl ⟨x0, x1, x2, x3, x4, x5, x6, x7, hxs, f0, f1, f2, f3, f4, f5, f6, f7⟩ a' ha o ho K hK
          subst hxs
          obtain rfl := Option.some.inj (ho.symm.trans (rfl : _ = some _))
          simp only [putVs, Act.put, List.setIfInBounds_toArray, List.set_cons_zero, List.set_cons_succ] at ha
          subst ha
          have g3 := f3 (after_of (j := 5) (k := 3) (by kernel_rfl) hd hjn hn)
          have g4 := f4 (after_of (j := 5) (k := 4) (by kernel_rfl) hd hjn hn)
          obtain ⟨gk, rfl, hk⟩ := g4
          rw [HN.out.2.2.1, HN.out.2.2.2.2.2] at hk
          have hbl := HB3.out.trans (hSl.mono HB3.out.size)
          have hrc := rowsC (d := (Kd.int .i64)) (e := 3) [(D1, a3, c3), (D2, a6, c6)] hk (by
            intro r hr
            simp only [List.mem_cons, List.not_mem_nil, or_false] at hr
            rcases hr with rfl | rfl
            · exact ⟨(HK1.out.below hbl).dc, (HK1.out.below hbl).d⟩
            · exact ⟨(HK2.out.below hbl).dc, (HK2.out.below hbl).d⟩
            ) (by simp)
          refine goes_ Try.func42 (by kernel_rfl) rfl #[.slice (some ⟨gk, 0, none⟩) 2 2] (by rfl) rfl rfl (by (try simp only [List.map_toArray, List.map_cons, List.map_nil]); first | done | rfl) ?_
          refine (concat_i wl (some ⟨gk, 0, none⟩) 2 2 [D1, D2] hrc rfl (by decide) (by have := HL.out; simp [btw]; omega)).mono ?_
          rintro e w6 ⟨v6, rfl, h4, h5⟩
          refine ⟨v6, rfl, ?_⟩
          have hR6 : RowR (Kd.int .i64) 3 w3.heap.size w6 v6 (D1 ++ D2) := by
            have := Kd.R_lower h4 hSl.size
            simpa [outK, btw, RowR] using this
          exact hK.out v6 w6 (hSl.trans (h5.mono hSl.size)) ⟨_, _, _, _, _, _, _, _, rfl, fun h => (f0 ((on_ne d 5 0 (by decide)).symm.trans h)).below h5, fun h => (f1 ((on_ne d 5 1 (by decide)).symm.trans h)).below h5, fun h => (f2 ((on_ne d 5 2 (by decide)).symm.trans h)).below h5, fun h => (f3 ((on_ne d 5 3 (by decide)).symm.trans h)).below h5, fun h => (f4 ((on_ne d 5 4 (by decide)).symm.trans h)).below h5, fun _ => hR6, fun h => (f6 ((on_ne d 5 6 (by decide)).symm.trans h)).below h5, fun h => absurd ((on_ne d 5 7 (by decide)).symm.trans h) (fun h2 => bit_abs (before_of (j := 5) (k := 7) (by kernel_rfl) hd hjn hn) h2)⟩
        · intro d hd hjn hn xs wl hx hSl ⟨x0, x1, x2, x3, x4, x5, x6, x7, hxs, f0, f1, f2, f3, f4, f5, f6, f7⟩ a' ha o ho K hK
          subst hxs
          obtain rfl := Option.some.inj (ho.symm.trans (rfl : _ = some _))
          simp only [putVs, Act.put, List.setIfInBounds_toArray, List.set_cons_zero, List.set_cons_succ] at ha
          subst ha
          have hb1 : Below wl.heap.size wl (wl.alloc (.cells #[.bool false, .slice none 0 0, .slice none 0 0, .slice none 0 0] 25)) := below_alloc (Below.refl _ _) _
          refine value_ rfl rfl (v := .pointer (some ⟨wl.heap.size, 0, none⟩)) (w1 := wl.alloc (.cells #[.bool false, .slice none 0 0, .slice none 0 0, .slice none 0 0] 25)) (by first | (go_simp; done) | (go_simp; rfl)) ?_
          exact hK.out (.pointer (some ⟨wl.heap.size, 0, none⟩)) _ (hSl.trans (hb1.mono hSl.size)) ⟨_, _, _, _, _, _, _, _, rfl, fun h => (f0 ((on_ne d 6 0 (by decide)).symm.trans h)).below hb1, fun h => (f1 ((on_ne d 6 1 (by decide)).symm.trans h)).below hb1, fun h => (f2 ((on_ne d 6 2 (by decide)).symm.trans h)).below hb1, fun h => (f3 ((on_ne d 6 3 (by decide)).symm.trans h)).below hb1, fun h => (f4 ((on_ne d 6 4 (by decide)).symm.trans h)).below hb1, fun h => (f5 ((on_ne d 6 5 (by decide)).symm.trans h)).below hb1, fun _ => ⟨_, rfl, blk_new wl _, hSl.size⟩, fun h => (f7 ((on_ne d 6 7 (by decide)).symm.trans h))⟩
        · intro d hd hjn hn xs wl hx hSl ⟨x0, x1, x2, x3, x4, x5, x6, x7, hxs, f0, f1, f2, f3, f4, f5, f6, f7⟩ a' ha o ho K hK
          subst hxs
          obtain rfl := Option.some.inj (ho.symm.trans (rfl : _ = some _))
          simp only [putVs, Act.put, List.setIfInBounds_toArray, List.set_cons_zero, List.set_cons_succ] at ha
          subst ha
          have g1 := f1 (after_of (j := 7) (k := 1) (by kernel_rfl) hd hjn hn)
          have g3 := f3 (after_of (j := 7) (k := 3) (by kernel_rfl) hd hjn hn)
          have g5 := f5 (after_of (j := 7) (k := 5) (by kernel_rfl) hd hjn hn)
          obtain ⟨A7, c7, rfl⟩ := Kd.R_slice g1
          obtain ⟨A8, c8, rfl⟩ := Kd.R_slice g3
          obtain ⟨A9, c9, rfl⟩ := Kd.R_slice g5
          refine value_ rfl rfl (v := .agg #[.bool true, .slice A7 (outK true K1 key K2).length c7, .slice A8 (V1 ++ V2).length c8, .slice A9 (D1 ++ D2).length c9]) (w1 := wl) (by first | (go_simp; done) | (go_simp; rfl)) ?_
          exact hK.out (.agg #[.bool true, .slice A7 (outK true K1 key K2).length c7, .slice A8 (V1 ++ V2).length c8, .slice A9 (D1 ++ D2).length c9]) wl hSl ⟨_, _, _, _, _, _, _, _, rfl, fun h => (f0 ((on_ne d 7 0 (by decide)).symm.trans h)).below (Below.refl _ _), fun h => (f1 ((on_ne d 7 1 (by decide)).symm.trans h)).below (Below.refl _ _), fun h => (f2 ((on_ne d 7 2 (by decide)).symm.trans h)).below (Below.refl _ _), fun h => (f3 ((on_ne d 7 3 (by decide)).symm.trans h)).below (Below.refl _ _), fun h => (f4 ((on_ne d 7 4 (by decide)).symm.trans h)).below (Below.refl _ _), fun h => (f5 ((on_ne d 7 5 (by decide)).symm.trans h)).below (Below.refl _ _), fun h => (f6 ((on_ne d 7 6 (by decide)).symm.trans h)).below (Below.refl _ _), fun _ => rfl⟩
      case hfin =>
        intro xs wl hx hSl ⟨x0, x1, x2, x3, x4, x5, x6, x7, hxs, f0, f1, f2, f3, f4, f5, f6, f7⟩ a' ha
        subst hxs
        simp only [putVs, Act.put, List.setIfInBounds_toArray, List.set_cons_zero, List.set_cons_succ] at ha
        subst ha
        have g0 := f0 (by decide)
        have g1 := f1 (by decide)
        have g2 := f2 (by decide)
        have g3 := f3 (by decide)
        have g4 := f4 (by decide)
        have g5 := f5 (by decide)
        have g6 := f6 (by decide)
        have g7 := f7 (by decide)
        clear f0 f1 f2 f3 f4 f5 f6 f7
        obtain ⟨g9, rfl, hq9, hg9⟩ := g6
        have hHeld := hSl
        obtain ⟨A7, c7, rfl⟩ := Kd.R_slice g1
        obtain ⟨A8, c8, rfl⟩ := Kd.R_slice g3
        obtain ⟨A9, c9, rfl⟩ := Kd.R_slice g5
        have HX1 := Aside0.mk g1
        have HX3 := Aside0.mk g3
        have HX5 := Aside0.mk g5
        have HQ9 := Aside0.mk hq9
        have HG9 := Aside0.mk hg9
        have HSl := Aside0.mk hSl
        obtain ⟨i0, i1, i2, i3⟩ := cells_of hq9
        have j0 := frz_of hq9 0
        have j1 := frz_of hq9 1
        have j2 := frz_of hq9 2
        have j3 := frz_of hq9 3
        subst g7
        clear g0 g1 g2 g3 g4 g5 hq9 hg9
        refine one_ (i := 23) (N := none) #[true, true, true, true, true, true, true, true, true, true, true, true, true, true, true, true, true, true, true, true, true, true, true, true] rfl rfl (by kernel_rfl) (by decide) (fun K hK => ?_)
        refine skip_ rfl rfl (w1 := set4 wl g9 (.bool true) (.slice A7 (outK true K1 key K2).length c7) (.slice A8 (V1 ++ V2).length c8) (.slice A9 (D1 ++ D2).length c9)) (by first | (go_simp; done) | (go_simp; rfl)) ?_
        refine hK.out _ _ (set4_below HSl.out HG9.out _ _ _ _) (fun hHeld => ?_)
        clear hK K 
        refine done_ (by kernel_rfl) ?_
        obtain ⟨Ko, hKo⟩ : ∃ Ko, Ko = outK true K1 key K2 := ⟨_, rfl⟩
        obtain ⟨Vo, hVo⟩ : ∃ Vo, Vo = V1 ++ V2 := ⟨_, rfl⟩
        obtain ⟨Do, hDo⟩ : ∃ Do, Do = D1 ++ D2 := ⟨_, rfl⟩
        rw [← hKo] at HX1
        rw [← hVo] at HX3
        rw [← hDo] at HX5
        rw [← hKo, ← hVo, ← hDo]
        have HM' := Aside0.mk (show m = true ↔ MergeP true K1 V1 D1 key true K2 V2 D2 from HM.out)
        have HMO := Aside0.mk (show MergeP true K1 V1 D1 key true K2 V2 D2 ↔ CanP true Ko Vo Do ∧ needTo true Ko Vo Ko.length ≤ 509 by
          rw [hKo, hVo, hDo]
          exact ⟨fun h => h.2.2.2, fun h => ⟨HR.out.1.1 (by first | rfl | trivial), HR.out.2.1 (by first | rfl | trivial), rfl, h⟩⟩)
        have HLK := Aside0.mk (show Ko.length ≤ 100000 ∧ Vo.length ≤ 100000 ∧ Do.length ≤ 100000 by
          have h := HL.out
          rw [hKo, hVo, hDo]
          unfold outK btw
          simp
          omega)
        have HE := Aside0.mk (And.intro hKo (And.intro hVo hDo))
        clear hKo hVo hDo i0 i1 i2 i3 j0 j1 j2 j3
        have hq9 := set4_blk HQ9.out (.bool true) (.slice A7 Ko.length c7) (.slice A8 Vo.length c8) (.slice A9 Do.length c9)
        have hlt : g6 < w3.heap.size := (Array.getElem?_eq_some_iff.1 HQ6c.out).1
        have hq6 := (set4_far wl g9 (.bool true) (.slice A7 Ko.length c7) (.slice A8 Vo.length c8) (.slice A9 Do.length c9) g6 (by have := HG9.out; omega)).trans (blk_below HQ6c.out HSl.out)
        have hb7 := HB3.out.trans ((set4_below HSl.out HG9.out (.bool true) (.slice A7 Ko.length c7) (.slice A8 Vo.length c8) (.slice A9 Do.length c9)).mono HB3.out.size)
        have hx1 := RowR.set4 HX1.out HQ9.out (by intro q hq; simp [Kd.string, Kd.scalar] at hq; subst hq; decide) (.bool true) (.slice A7 Ko.length c7) (.slice A8 Vo.length c8) (.slice A9 Do.length c9)
        have hx3 := RowR.set4 HX3.out HQ9.out (by intro q hq; simp [Kd.string, Kd.scalar] at hq; subst hq; decide) (.bool true) (.slice A7 Ko.length c7) (.slice A8 Vo.length c8) (.slice A9 Do.length c9)
        have hx5 := RowR.set4 HX5.out HQ9.out (by intro q hq; simp [Kd.int, Kd.scalar] at hq; subst hq; decide) (.bool true) (.slice A7 Ko.length c7) (.slice A8 Vo.length c8) (.slice A9 Do.length c9)
        clear hlt HX1 HX3 HX5 HQ9 HQ6c
        generalize set4 wl g9 (.bool true) (.slice A7 Ko.length c7) (.slice A8 Vo.length c8) (.slice A9 Do.length c9) = w7 at hq9 hq6 hb7 hx1 hx3 hx5 ⊢
        have HX1 := Aside0.mk hx1
        have HX3 := Aside0.mk hx3
        have HX5 := Aside0.mk hx5
        have HQ9 := Aside0.mk hq9
        have HQ6d := Aside0.mk hq6
        have HB7 := Aside0.mk hb7
        obtain ⟨i0, i1, i2, i3⟩ := cells_of hq9
        clear hx1 hx3 hx5 hq9 hq6 hb7 HSl hHeld
        have hbk : Bk w7 ⟨A7, c7, A8, c8, A9, c9⟩ true Ko Vo Do := bk_of HX1.out HX3.out HX5.out
        obtain ⟨r3, hr3⟩ := is_bool (CanP true Ko Vo Do)
        have hc3 := ncan_c hbk (by have := HLK.out; omega) r3 hr3
        have HBK := Aside0.mk hbk
        have HC3 := Aside0.mk hc3
        have HR3 := Aside0.mk hr3
        dsimp only at HC3
        clear hbk hr3 hc3
        cases r3 with
        | false =>
          go_wp2_with (go_at_call 35; refine HC3.out.mono ?_; rintro e w8 ⟨rfl, h1⟩; have HB8 := Aside0.mk (HB7.out.trans (h1.mono HB7.out.size)); have hq6 := blk_below HQ6d.out h1; obtain ⟨y0, y1, y2, y3⟩ := cells_of hq6; have f0 := frz_of hq6 0; have f1 := frz_of hq6 1; have f2 := frz_of hq6 2; have f3 := frz_of hq6 3; have HQ6e := Aside0.mk hq6; clear h1 hq6)
          have hm : m = false := by
            cases m with
            | false => rfl
            | true => exact absurd (HR3.out.2 (HMO.out.1 (HM'.out.1 rfl)).1) (by decide)
          subst hm
          refine bodyPost_ret (results_ct rfl _ _ g6 25 #[.bool false, .slice none 0 0, .slice none 0 0, .slice none 0 0] (0, 0) _ rfl (set4_blk HQ6e.out _ _ _ _) Try.underlying25 rfl (by kernel_rfl)) rfl ?_
          exact ⟨p0, rfl, BkR.none _ _, set4_below HB8.out HG6.out _ _ _ _⟩
        | true =>
          have hsm := small_can (HR3.out.1 rfl) HLK.out.1 HLK.out.2.1
          have HSM := Aside0.mk hsm
          clear hsm
          obtain ⟨N, hN⟩ : ∃ N, N = needTo true Ko Vo Ko.length := ⟨_, rfl⟩
          have hnd := fun (w : World) (h : Below w7.heap.size w7 w) => nneed_c (HBK.out.below h) HSM.out.1 HSM.out.2.1 Ko.length (Nat.le_refl _) HSM.out.2.2
          rw [← hN] at hnd
          dsimp only at hnd
          have HND := Aside0.mk hnd
          have HNN := Aside0.mk hN
          clear hnd hN
          by_cases hlim : N ≤ 509
          · have e1 : decide ((509 : Int) < N) = false := decide_eq_false (by omega)
            go_wp2_with (first
              | (go_at_call 36; refine (HND.out w8 HS8.out).mono ?_; rintro e w9 ⟨rfl, h1⟩; have HB9 := Aside0.mk (HB8.out.trans (h1.mono HB8.out.size)); have HS9 := Aside0.mk (HS8.out.trans (h1.mono HS8.out.size)); have hq6 := blk_below HQ6e.out h1; have hq9 := blk_below HQ9e.out h1; obtain ⟨m0, m1, m2, m3⟩ := cells_of hq9; obtain ⟨y0, y1, y2, y3⟩ := cells_of hq6; have f0 := frz_of hq6 0; have f1 := frz_of hq6 1; have f2 := frz_of hq6 2; have f3 := frz_of hq6 3; have HQ6f := Aside0.mk hq6; clear h1 hq6 hq9)
              | (go_at_call 35; refine HC3.out.mono ?_; rintro e w8 ⟨rfl, h1⟩; have HB8 := Aside0.mk (HB7.out.trans (h1.mono HB7.out.size)); have HS8 := Aside0.mk h1; have hq6 := blk_below HQ6d.out h1; have hq9 := blk_below HQ9.out h1; obtain ⟨k0, k1, k2, k3⟩ := cells_of hq9; have HQ6e := Aside0.mk hq6; have HQ9e := Aside0.mk hq9; clear h1 hq6 hq9))
            have hm : m = true := HM'.out.2 (HMO.out.2 ⟨HR3.out.1 (by first | rfl | trivial), by rw [← HNN.out]; exact hlim⟩)
            subst hm
            refine bodyPost_ret (results_ct rfl _ _ g6 25 #[.bool true, .slice A7 Ko.length c7, .slice A8 Vo.length c8, .slice A9 Do.length c9] (0, 0) _ rfl (set4_blk HQ6f.out _ _ _ _) Try.underlying25 rfl (by kernel_rfl)) rfl ?_
            refine ⟨⟨A7, c7, A8, c8, A9, c9⟩, ?_, ?_, set4_below HB9.out HG6.out _ _ _ _⟩
            · rw [← HE.out.1, ← HE.out.2.1, ← HE.out.2.2]
              rfl
            · rw [← HE.out.1, ← HE.out.2.1, ← HE.out.2.2]
              exact BkR.lower ⟨(RowR.set4 (HX1.out.below HS9.out) HQ6f.out (by intro q hq; simp [Kd.string, Kd.scalar] at hq; subst hq; decide) _ _ _ _), (RowR.set4 (HX3.out.below HS9.out) HQ6f.out (by intro q hq; simp [Kd.string, Kd.scalar] at hq; subst hq; decide) _ _ _ _), (RowR.set4 (HX5.out.below HS9.out) HQ6f.out (by intro q hq; simp [Kd.int, Kd.scalar] at hq; subst hq; decide) _ _ _ _)⟩ HB3.out.size
          · have e1 : decide ((509 : Int) < N) = true := decide_eq_true (by omega)
            go_wp2_with (first
              | (go_at_call 36; refine (HND.out w8 HS8.out).mono ?_; rintro e w9 ⟨rfl, h1⟩; have HB9 := Aside0.mk (HB8.out.trans (h1.mono HB8.out.size)); have hq6 := blk_below HQ6e.out h1; obtain ⟨y0, y1, y2, y3⟩ := cells_of hq6; have f0 := frz_of hq6 0; have f1 := frz_of hq6 1; have f2 := frz_of hq6 2; have f3 := frz_of hq6 3; have HQ6f := Aside0.mk hq6; clear h1 hq6)
              | (go_at_call 35; refine HC3.out.mono ?_; rintro e w8 ⟨rfl, h1⟩; have HB8 := Aside0.mk (HB7.out.trans (h1.mono HB7.out.size)); have HS8 := Aside0.mk h1; have hq6 := blk_below HQ6d.out h1; have hq9 := blk_below HQ9.out h1; obtain ⟨k0, k1, k2, k3⟩ := cells_of hq9; have HQ6e := Aside0.mk hq6; clear h1 hq6 hq9))
            have hm : m = false := by
              cases m with
              | false => rfl
              | true => exact absurd (by have h := (HMO.out.1 (HM'.out.1 rfl)).2; rw [← HNN.out] at h; have := hlim; omega : false = true) (by decide)
            subst hm
            refine bodyPost_ret (results_ct rfl _ _ g6 25 #[.bool false, .slice none 0 0, .slice none 0 0, .slice none 0 0] (0, 0) _ rfl (set4_blk HQ6f.out _ _ _ _) Try.underlying25 rfl (by kernel_rfl)) rfl ?_
            exact ⟨p0, rfl, BkR.none _ _, set4_below HB9.out HG6.out _ _ _ _⟩
end Go.Proofs.Ytbpnkgaomobpkaa.Mrg
