/- Streams: what its block, its row of sinks and its builders say; room, Print, Out, walked by hand. -/
import Derived.Test.YtlccmkfkemilbaaBldB
namespace Go.Proofs.Ytlccmkfkemilbaa.Bld
open Go.RowKit Go.Lib Go.Proofs.YtlccmkfkemilbaaW.PrintWords Go.Proofs.YtlccmkfkemilbaaW.PrintLast Go.Proofs.YtlccmkfkemilbaaW.PrintMore
set_option linter.unusedVariables false
set_option linter.unusedSimpArgs false
/-- What was printed, each file's name and what was written to it, and how much in all. -/
structure Str where
  out : List UInt8
  sk : List (ByteArray × List UInt8)
  size : Int
theorem BldAt.own_blk {base g j : Nat} {w : World} {T : TypeId} {cs : Array Value} {v : Value} {l : List UInt8} (h : BldAt base w g j T cs v l) (x : Nat) (hx : v.ownBlock = some x) : ∃ cur fz, w.heap[x]? = some (.cells cur 5 fz) := by
  rcases h.own.2 with ⟨rfl, _⟩ | ⟨gv, cap, cur, fz, rfl, _, hg, _⟩
  · simp [Value.ownBlock] at hx
  · have : gv = x := by simpa [Value.ownBlock] using hx
    subst this
    exact ⟨cur, fz, hg⟩
theorem BldAt.kept {base g j : Nat} {w w' : World} {T : TypeId} {cs : Array Value} {v : Value} {l : List UInt8} (h : BldAt base w g j T cs v l) (h1 : w'.heap[g]? = w.heap[g]?) (h2 : ∀ x, v.ownBlock = some x → w'.heap[x]? = w.heap[x]?) : BldAt base w' g j T cs v l where
  blk := h1.trans h.blk
  place := h.place
  self := h.self
  row := h.row
  own := by
    refine ⟨h.own.1, ?_⟩
    rcases h.own.2 with hn | ⟨gv, cap, cur, fz, hv, hb, hg, rest⟩
    · exact .inl hn
    · exact .inr ⟨gv, cap, cur, fz, hv, hb, (h2 gv (by rw [hv]; rfl)).trans hg, rest⟩
  ne := h.ne
  nil := h.nil
theorem row_same {base n : Nat} {e : TypeId} {w w' : World} {v : Value} {xs : List Value} (h : w.ownsRow base e 1 v n xs) (h2 : ∀ x, v.ownBlock = some x → w'.heap[x]? = w.heap[x]?) : w'.ownsRow base e 1 v n xs := by
  refine ⟨h.1, ?_⟩
  rcases h.2 with hn | ⟨gv, cap, cur, hv, hb, hg, rest⟩
  · exact .inl hn
  · exact .inr ⟨gv, cap, cur, hv, hb, (h2 gv (by rw [hv]; rfl)).trans hg, rest⟩
theorem row_blk {base n : Nat} {e : TypeId} {w : World} {v : Value} {xs : List Value} (h : w.ownsRow base e 1 v n xs) (x : Nat) (hx : v.ownBlock = some x) : ∃ cur, w.heap[x]? = some (.cells cur e (0, 0)) := by
  rcases h.2 with ⟨rfl, _⟩ | ⟨gv, cap, cur, rfl, _, hg, _⟩
  · simp [Value.ownBlock] at hx
  · have : gv = x := by simpa [Value.ownBlock] using hx
    subst this
    exact ⟨cur, hg⟩
/-- A sink's block, its cells, its builder's row. -/
abbrev Sk := Nat × Array Value × Value
structure StAt (base : Nat) (w : World) (g : Nat) (s : Str) (vo vs : Value) (cs : Array Value) (ks : List Sk) : Prop where
  out : BldAt base w g 2 52 cs vo s.out
  ge : base ≤ g
  files : cs[1]? = some (.slice none 0 0)
  sinks : cs[5]? = some vs
  size : cs[6]? = some (.int .i64 s.size)
  row : w.ownsRow base 54 1 vs ks.length (ks.map fun k => Value.pointer (some ⟨k.1, 0, none⟩))
  len : ks.length = s.sk.length
  each : ∀ (i : Nat) (k : Sk) (t : ByteArray × List UInt8), ks[i]? = some k → s.sk[i]? = some t → BldAt base w k.1 0 49 k.2.1 k.2.2 t.2 ∧ base ≤ k.1 ∧ k.2.1[2]? = some (.string t.1)
  ap : ∀ (i : Nat) (k : Sk), ks[i]? = some k → ∀ x, vo.ownBlock = some x → k.2.2.ownBlock ≠ some x
  ap2 : ∀ (i i' : Nat) (k k' : Sk), ks[i]? = some k → ks[i']? = some k' → i ≠ i' → k.1 ≠ k'.1 ∧ ∀ x, k.2.2.ownBlock = some x → k'.2.2.ownBlock ≠ some x
def IsSt (base : Nat) (w : World) (g : Nat) (s : Str) : Prop := ∃ vo vs cs ks, StAt base w g s vo vs cs ks
theorem two_types {w : World} {x y : Nat} {c d : Array Value} {t u : TypeId} {f f' : Nat × Nat} (h1 : w.heap[x]? = some (.cells c t f)) (h2 : w.heap[y]? = some (.cells d u f')) (hn : t ≠ u) : x ≠ y := fun e => by
  subst e
  rw [h1] at h2
  injection h2 with h2
  injection h2 with _ h3
  exact hn h3
theorem lt_of_blk {w : World} {x : Nat} {o : Obj} (h : w.heap[x]? = some o) : x < w.heap.size := (Array.getElem?_eq_some_iff.1 h).1
theorem StAt.sink {base g : Nat} {w : World} {s : Str} {vo vs : Value} {cs : Array Value} {ks : List Sk} (h : StAt base w g s vo vs cs ks) {i : Nat} {k : Sk} (hk : ks[i]? = some k) : ∃ t, s.sk[i]? = some t ∧ BldAt base w k.1 0 49 k.2.1 k.2.2 t.2 ∧ base ≤ k.1 ∧ k.2.1[2]? = some (.string t.1) := by
  have hi : i < s.sk.length := by rw [← h.len]; exact (List.getElem?_eq_some_iff.1 hk).1
  exact ⟨s.sk[i], List.getElem?_eq_getElem hi, h.each i k _ hk (List.getElem?_eq_getElem hi)⟩
/-- All stands where its blocks stand. -/
theorem StAt.kept {base g : Nat} {w w' : World} {s : Str} {vo vs : Value} {cs : Array Value} {ks : List Sk} (h : StAt base w g s vo vs cs ks) (hk : ∀ k, k < w.heap.size → w'.heap[k]? = w.heap[k]?) : StAt base w' g s vo vs cs ks :=
  { h with
    out := h.out.kept (hk _ (lt_of_blk h.out.blk)) (fun x hx => by obtain ⟨_, _, hb⟩ := h.out.own_blk x hx; exact hk x (lt_of_blk hb))
    row := row_same h.row (fun x hx => by obtain ⟨_, hb⟩ := row_blk h.row x hx; exact hk x (lt_of_blk hb))
    each := fun i k t h1 h2 => by
      obtain ⟨hb, hr⟩ := h.each i k t h1 h2
      exact ⟨hb.kept (hk _ (lt_of_blk hb.blk)) (fun x hx => by obtain ⟨_, _, hb⟩ := hb.own_blk x hx; exact hk x (lt_of_blk hb)), hr⟩ }
theorem IsSt.below {base g : Nat} {w w' : World} {s : Str} (h : IsSt base w g s) (hb : Below w.heap.size w w') : IsSt base w' g s := by
  obtain ⟨vo, vs, cs, ks, h⟩ := h
  exact ⟨vo, vs, cs, ks, h.kept (fun k hk => hb.block k hk)⟩
theorem IsSt.lt {base g : Nat} {w : World} {s : Str} (h : IsSt base w g s) : g < w.heap.size := by obtain ⟨_, _, _, _, h⟩ := h; exact lt_of_blk h.out.blk
theorem IsSt.ge {base g : Nat} {w : World} {s : Str} (h : IsSt base w g s) : base ≤ g := by obtain ⟨_, _, _, _, h⟩ := h; exact h.ge
/-- What was printed goes on: its builder has turned, all else stands. -/
theorem StAt.printed {base g : Nat} {w w' : World} {s : Str} {vo vo' vs : Value} {cs cs' : Array Value} {ks : List Sk} {l : List UInt8} (h : StAt base w g s vo vs cs ks) (hB : BldAt base w' g 2 52 cs' vo' l)
    (h1 : cs'[1]? = cs[1]?) (h5 : cs'[5]? = cs[5]?) (h6 : cs'[6]? = cs[6]?) (ho : vo'.ownBlock = vo.ownBlock ∨ ∃ b, vo'.ownBlock = some b ∧ w.heap.size ≤ b)
    (hk : ∀ k, k < w.heap.size → k ≠ g → some k ≠ vo.ownBlock → w'.heap[k]? = w.heap[k]?) : StAt base w' g { s with out := l } vo' vs cs' ks where
  out := hB
  ge := h.ge
  files := h1.trans h.files
  sinks := h5.trans h.sinks
  size := h6.trans h.size
  row := row_same h.row (fun x hx => by
    obtain ⟨_, hb⟩ := row_blk h.row x hx
    refine hk x (lt_of_blk hb) (two_types hb h.out.blk (by decide)) (fun e => ?_)
    obtain ⟨_, _, hb2⟩ := h.out.own_blk x e.symm
    exact two_types hb hb2 (by decide) rfl)
  len := h.len
  each := fun i k t e1 e2 => by
    obtain ⟨hb, hr⟩ := h.each i k t e1 e2
    refine ⟨hb.kept (hk _ (lt_of_blk hb.blk) (two_types hb.blk h.out.blk (by decide)) (fun e => ?_)) (fun x hx => ?_), hr⟩
    · obtain ⟨_, _, hb2⟩ := h.out.own_blk k.1 e.symm
      exact two_types hb.blk hb2 (by decide) rfl
    · obtain ⟨_, _, hb2⟩ := hb.own_blk x hx
      exact hk x (lt_of_blk hb2) (two_types hb2 h.out.blk (by decide)) (fun e => h.ap i k e1 x e.symm hx)
  ap := fun i k e1 x hx hy => by
    rcases ho with e | ⟨b, e, hb⟩
    · exact h.ap i k e1 x (e ▸ hx) hy
    · rw [e] at hx
      obtain ⟨t, _, hbt, _⟩ := h.sink e1
      obtain ⟨_, _, hb2⟩ := hbt.own_blk x hy
      have := lt_of_blk hb2
      injection hx with hx
      omega
  ap2 := h.ap2
/-- The count turns. -/
theorem StAt.counted {base g : Nat} {w : World} {s : Str} {vo vs : Value} {cs : Array Value} {ks : List Sk} (h : StAt base w g s vo vs cs ks) (n : Int) : StAt base (w.setCell ⟨g, 6, none⟩ (.int .i64 n)) g { s with size := n } vo vs (cs.setIfInBounds 6 (.int .i64 n)) ks := by
  have hsz : cs.size = 7 := by rcases h.out.place with ⟨_, _, h⟩ | ⟨h, _⟩
                               · exact h
                               · cases h
  have ho : ∀ k, k ≠ g → (w.setCell ⟨g, 6, none⟩ (.int .i64 n)).heap[k]? = w.heap[k]? := fun k hk => Below.heap_setCell _ _ _ _ (fun e => hk e)
  have hB : BldAt base (w.setCell ⟨g, 6, none⟩ (.int .i64 n)) g 2 52 (cs.setIfInBounds 6 (.int .i64 n)) vo s.out := by
    refine ⟨blk_setB h.out.blk 6 _, by rw [Array.size_setIfInBounds]; exact h.out.place, ?_, ?_, ?_, h.out.ne, h.out.nil⟩
    · rw [Array.getElem?_setIfInBounds, if_neg (by decide)]; exact h.out.self
    · rw [Array.getElem?_setIfInBounds, if_neg (by decide)]; exact h.out.row
    · exact (h.out.kept (w' := w.setCell ⟨g, 6, none⟩ (.int .i64 n)) (w := w) (cs := cs) |> fun _ => h.out.own.kept (set_grownB w g 6 _) (.inr h.out.ne))
  have h1 := h.printed (w' := w.setCell ⟨g, 6, none⟩ (.int .i64 n)) (vo' := vo) (cs' := cs.setIfInBounds 6 (.int .i64 n)) (l := s.out)
  have r1 : (cs.setIfInBounds 6 (Value.int .i64 n))[1]? = cs[1]? := by rw [Array.getElem?_setIfInBounds, if_neg (by decide)]
  have r5 : (cs.setIfInBounds 6 (Value.int .i64 n))[5]? = cs[5]? := by rw [Array.getElem?_setIfInBounds, if_neg (by decide)]
  exact {
    out := hB, ge := h.ge, files := r1.trans h.files, sinks := r5.trans h.sinks
    size := by rw [Array.getElem?_setIfInBounds, if_pos rfl, if_pos (by rw [hsz]; decide)]
    row := row_same h.row (fun x hx => by obtain ⟨_, hb⟩ := row_blk h.row x hx; exact ho x (two_types hb h.out.blk (by decide)))
    len := h.len
    each := fun i k t e1 e2 => by
      obtain ⟨hb, hr⟩ := h.each i k t e1 e2
      exact ⟨hb.kept (ho _ (two_types hb.blk h.out.blk (by decide))) (fun x hx => by obtain ⟨_, _, hb2⟩ := hb.own_blk x hx; exact ho x (two_types hb2 h.out.blk (by decide))), hr⟩
    ap := h.ap, ap2 := h.ap2 }
end Go.Proofs.Ytlccmkfkemilbaa.Bld
