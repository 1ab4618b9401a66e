/- Streams: a sink more; Write to a sink that is there, walked by hand. -/
import Derived.Test.YtlccmkfkemilbaaStD
namespace Go.Proofs.Ytlccmkfkemilbaa.Bld
open Go.RowKit Go.Lib Go.Proofs.YtlccmkfkemilbaaW.PrintWords Go.Proofs.YtlccmkfkemilbaaW.PrintLast Go.Proofs.YtlccmkfkemilbaaW.PrintMore
set_option linter.unusedVariables false
set_option linter.unusedSimpArgs false
theorem snoc_get {α : Type} {l : List α} {a x : α} {i : Nat} (h : (l ++ [a])[i]? = some x) : (i < l.length ∧ l[i]? = some x) ∨ (i = l.length ∧ x = a) := by
  rcases Nat.lt_trichotomy i l.length with h1 | h1 | h1
  · left; exact ⟨h1, by rwa [List.getElem?_append_left h1] at h⟩
  · right
    subst h1
    rw [List.getElem?_append_right (Nat.le_refl _)] at h
    simp at h
    exact ⟨rfl, h.symm⟩
  · rw [List.getElem?_eq_none (by simp; omega)] at h
    cases h
theorem StAt.added {base g b : Nat} {w w' : World} {s : Str} {vo vs vs' v' : Value} {cs cs' : Array Value} {ks : List Sk} {l : List UInt8} {name : ByteArray} (h : StAt base w g s vo vs cs ks) (hB : BldAt base w' b 0 49 cs' v' l) (hb : w.heap.size ≤ b) (hb2 : base ≤ b) (h2 : cs'[2]? = some (.string name))
    (hv : ∀ x, v'.ownBlock = some x → w.heap.size ≤ x) (hrow : w'.ownsRow base 54 1 vs' (ks.length + 1) ((ks.map fun k => Value.pointer (some ⟨k.1, 0, none⟩)) ++ [.pointer (some ⟨b, 0, none⟩)])) (hg : w'.heap[g]? = some (.cells (cs.setIfInBounds 5 vs') 52 (0, 0)))
    (hf : ∀ x, x < w.heap.size → x ≠ g → some x ≠ vs.ownBlock → w'.heap[x]? = w.heap[x]?) : StAt base w' g { s with sk := s.sk ++ [(name, l)] } vo vs' (cs.setIfInBounds 5 vs') (ks ++ [(b, cs', v')]) := by
  have hsz : cs.size = 7 := by rcases h.out.place with ⟨_, _, h⟩ | ⟨h, _⟩
                               · exact h
                               · cases h
  have hx : ∀ i, i ≠ 5 → (cs.setIfInBounds 5 vs')[i]? = cs[i]? := fun i e => by rw [Array.getElem?_setIfInBounds, if_neg (fun e' => e e'.symm)]
  have far : ∀ (x : Nat) (c : Array Value) (T : TypeId) (fz : Nat × Nat), T ≠ 52 → T ≠ 54 → w.heap[x]? = some (Obj.cells c T fz) → w'.heap[x]? = w.heap[x]? := fun x c T fz h1 h2 hb => hf x (lt_of_blk hb) (two_types hb h.out.blk h1) (fun e => by
    obtain ⟨_, hb2⟩ := row_blk h.row x e.symm
    exact two_types hb hb2 h2 rfl)
  have far5 : ∀ (x : Nat), (∃ cur fz, w.heap[x]? = some (Obj.cells cur 5 fz)) → w'.heap[x]? = w.heap[x]? := fun x ⟨_, _, hb⟩ => far x _ 5 _ (by decide) (by decide) hb
  exact {
    out := ⟨hg, by rw [Array.size_setIfInBounds]; exact h.out.place, by rw [hx 2 (by decide)]; exact h.out.self, by rw [hx 3 (by decide)]; exact h.out.row, by
      have h9 := h.out.own
      refine ⟨h9.1, ?_⟩
      rcases h9.2 with hn | ⟨gv, cap, cur, fz, hv, hbg, hgg, rest⟩
      · exact .inl hn
      · exact .inr ⟨gv, cap, cur, fz, hv, hbg, (far gv _ 5 _ (by decide) (by decide) hgg).trans hgg, rest⟩, h.out.ne, h.out.nil⟩
    ge := h.ge
    files := (hx 1 (by decide)).trans h.files
    sinks := by rw [Array.getElem?_setIfInBounds, if_pos rfl, if_pos (by rw [hsz]; decide)]
    size := (hx 6 (by decide)).trans h.size
    row := by simpa using hrow
    len := by simp [h.len]
    each := fun i k t hk ht => by
      rcases snoc_get hk with ⟨hi, hk⟩ | ⟨hi, rfl⟩
      · rcases snoc_get ht with ⟨_, ht⟩ | ⟨hi2, _⟩
        · obtain ⟨hbk, hr⟩ := h.each i k t hk ht
          exact ⟨hbk.kept (far _ _ 49 _ (by decide) (by decide) hbk.blk) (fun x hx => far5 x (hbk.own_blk x hx)), hr⟩
        · rw [h.len] at hi; omega
      · rcases snoc_get ht with ⟨hi2, _⟩ | ⟨_, rfl⟩
        · rw [← h.len] at hi2; omega
        · exact ⟨hB, hb2, h2⟩
    ap := fun i k hk x hx hy => by
      rcases snoc_get hk with ⟨_, hk⟩ | ⟨_, rfl⟩
      · exact h.ap i k hk x hx hy
      · have h1 := hv x hy
        obtain ⟨_, _, h3⟩ := h.out.own_blk x hx
        have := lt_of_blk h3
        omega
    ap2 := fun i i' k k' hk hk' hne => by
      rcases snoc_get hk with ⟨hi, hk⟩ | ⟨hi, rfl⟩
      · obtain ⟨t, _, hbt, _⟩ := h.sink hk
        rcases snoc_get hk' with ⟨_, hk'⟩ | ⟨_, rfl⟩
        · exact h.ap2 i i' k k' hk hk' hne
        · refine ⟨fun e => ?_, fun x hx hy => ?_⟩
          · have h4 := lt_of_blk hbt.blk
            have h5 : k.1 = b := e
            omega
          · have h1 := hv x hy
            obtain ⟨_, _, h3⟩ := hbt.own_blk x hx
            have := lt_of_blk h3
            omega
      · rcases snoc_get hk' with ⟨hi', hk'⟩ | ⟨hi', rfl⟩
        · obtain ⟨t, _, hbt, _⟩ := h.sink hk'
          refine ⟨fun e => ?_, fun x hx hy => ?_⟩
          · have h4 := lt_of_blk hbt.blk
            have h5 : b = k'.1 := e
            omega
          · have h1 := hv x hx
            obtain ⟨_, _, h3⟩ := hbt.own_blk x hy
            have := lt_of_blk h3
            omega
        · omega }
/-- Write to a sink that is there. -/
theorem sink_step (base g i : Nat) (s : Str) (t : ByteArray) (u : ByteArray × List UInt8) (k : Sk) (vo vs : Value) (cs : Array Value) (ks : List Sk) (w W : World) (h : StAt base W g s vo vs cs ks) (hB : Below base w W) (hk : ks[i]? = some k) (hu : s.sk[i]? = some u) (hlen : u.2.length ≤ 65536) (ht : t.size ≤ 65536) :
    Calls Try.prog 16 #[.pointer (some ⟨k.1, 0, none⟩), .string t] W fun e w' => e = .returned (.tuple #[.int .i64 t.size, .nilIface]) ∧ IsSt base w' g { s with sk := s.sk.set i (u.1, u.2 ++ t.data.toList) } ∧ Below base w w' ∧ KeepT W w' := by
  have hbase : base ≤ W.heap.size := Nat.le_of_lt (Nat.lt_of_le_of_lt h.ge (lt_of_blk h.out.blk))
  obtain ⟨hb, hbg, hnm⟩ := h.each i k u hk hu
  refine (wstr_calls base k.1 0 49 k.2.1 k.2.2 u.2 t W hb hbase (by omega)).mono ?_
  rintro e w' ⟨rfl, v', h1, h2, h3, h4, h5, h6, h7⟩
  have hx : ((k.2.1.setIfInBounds 0 (Value.pointer (some ⟨k.1, 0, none⟩))).setIfInBounds (0 + 1) v')[2]? = k.2.1[2]? := by
    rw [Array.getElem?_setIfInBounds, if_neg (by decide), Array.getElem?_setIfInBounds, if_neg (by decide)]
  exact ⟨rfl, ⟨vo, vs, cs, _, h.wrote hk hu h1 hx h2 h4⟩, below_two hB h3 hbase hbg hb.own_ge h4 h5 h6 h7, KeepT.two h3 hb.blk (.inr rfl) hb.own_blk h4⟩
end Go.Proofs.Ytlccmkfkemilbaa.Bld
