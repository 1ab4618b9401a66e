/- Streams: room, Print, Out, walked by hand. -/
import Derived.Test.YtlccmkfkemilbaaStA
namespace Go.Proofs.Ytlccmkfkemilbaa.Bld
open Go.RowKit Go.Lib Go.Proofs.YtlccmkfkemilbaaW.PrintWords Go.Proofs.YtlccmkfkemilbaaW.PrintLast Go.Proofs.YtlccmkfkemilbaaW.PrintMore
set_option linter.unusedVariables false
set_option linter.unusedSimpArgs false
/-- What a call on Streams leaves: no block but of its own kinds has turned. -/
def KeepT (w w' : World) : Prop := w.heap.size ≤ w'.heap.size ∧ ∀ (i : Nat) (cs : Array Value) (t : TypeId) (fr : Nat × Nat), w.heap[i]? = some (Obj.cells cs t fr) → t ≠ 52 → t ≠ 49 → t ≠ 54 → t ≠ 5 → w'.heap[i]? = some (Obj.cells cs t fr)
theorem KeepT.refl (w : World) : KeepT w w := ⟨Nat.le_refl _, fun _ _ _ _ h _ _ _ _ => h⟩
theorem KeepT.trans {a b c : World} (h : KeepT a b) (k : KeepT b c) : KeepT a c := ⟨Nat.le_trans h.1 k.1, fun i cs t fr hi h1 h2 h3 h4 => k.2 i cs t fr (h.2 i cs t fr hi h1 h2 h3 h4) h1 h2 h3 h4⟩
theorem KeepT.of_below {w w' : World} (h : Below w.heap.size w w') : KeepT w w' := ⟨h.size, fun i cs t fr hi _ _ _ _ => (h.block i (lt_of_blk hi)).trans hi⟩
/-- Only blocks of one's own kinds, all from base on. -/
theorem KeepT.two {w w' : World} {g : Nat} {cs : Array Value} {T : TypeId} {v : Value} (hs : w.heap.size ≤ w'.heap.size) (hg : w.heap[g]? = some (.cells cs T (0, 0))) (hT : T = 52 ∨ T = 49) (hv : ∀ x, v.ownBlock = some x → ∃ cur fz, w.heap[x]? = some (.cells cur 5 fz))
    (hk : ∀ k, k < w.heap.size → k ≠ g → some k ≠ v.ownBlock → w'.heap[k]? = w.heap[k]?) : KeepT w w' := ⟨hs, fun i c t fr hi h1 h2 h3 h4 => (hk i (lt_of_blk hi) (two_types hi hg (by rcases hT with rfl | rfl; exact h1; exact h2)) (fun e => by
  obtain ⟨_, _, hb⟩ := hv i e.symm
  exact two_types hi hb h4 rfl)).trans hi⟩
theorem below_two {base : Nat} {w W w' : World} {g : Nat} {v : Value} (hB : Below base w W) (hs : W.heap.size ≤ w'.heap.size) (hbase : base ≤ W.heap.size) (hg : base ≤ g) (hv : ∀ x, v.ownBlock = some x → base ≤ x)
    (hk : ∀ k, k < W.heap.size → k ≠ g → some k ≠ v.ownBlock → w'.heap[k]? = W.heap[k]?) (h1 : w'.os = W.os) (h2 : w'.tape = W.tape) (h3 : w'.output = W.output) : Below base w w' :=
  hB.trans ⟨h1, h2, h3, hs, fun k hlt => hk k (by omega) (by omega) (fun e => by have := hv k e.symm; omega)⟩
theorem BldAt.own_ge {base g j : Nat} {w : World} {T : TypeId} {cs : Array Value} {v : Value} {l : List UInt8} (h : BldAt base w g j T cs v l) (x : Nat) (hx : v.ownBlock = some x) : base ≤ x := by
  rcases h.own.2 with ⟨rfl, _⟩ | ⟨gv, cap, cur, fz, rfl, hb, _⟩
  · simp [Value.ownBlock] at hx
  · have : gv = x := by simpa [Value.ownBlock] using hx
    omega
set_option maxHeartbeats 2000000 in
set_option maxRecDepth 100000 in
theorem room_no (base g : Nat) (s : Str) (n : Int) (W : World) (h : IsSt base W g s) (hs : 0 ≤ s.size ∧ s.size ≤ 65536) (hn : 65536 - s.size < n) :
    Calls Try.prog 15 #[.pointer (some ⟨g, 0, none⟩), .int .i64 n] W fun e w' => e = .returned (.int .i64 8) ∧ w' = W := by
  obtain ⟨vo, vs, cs, ks, h⟩ := h
  have c6 : W.cell? ⟨g, 6, none⟩ = some (.int .i64 s.size) := (blk_cellB h.out.blk 6).trans h.size
  have hw : IntKind.i64.wrap (65536 - s.size) = 65536 - s.size := by rw [IntKind.wrap_i64]; omega
  have e1 : decide (65536 - s.size < n) = true := decide_eq_true hn
  clear h
  go_enter Try.func15, Try.ntmps15
  go_wp2
  go_ret
  exact ⟨rfl, rfl⟩
set_option maxHeartbeats 2000000 in
set_option maxRecDepth 100000 in
theorem room_yes (base g : Nat) (s : Str) (n : Int) (w W : World) (h : IsSt base W g s) (hB : Below base w W) (hs : 0 ≤ s.size ∧ s.size ≤ 65536) (hn0 : 0 ≤ n) (hn : ¬ (65536 - s.size < n)) :
    Calls Try.prog 15 #[.pointer (some ⟨g, 0, none⟩), .int .i64 n] W fun e w' => e = .returned (.int .i64 0) ∧ IsSt base w' g { s with size := s.size + n } ∧ Below base w w' ∧ KeepT W w' := by
  obtain ⟨vo, vs, cs, ks, h⟩ := h
  have c6 : W.cell? ⟨g, 6, none⟩ = some (.int .i64 s.size) := (blk_cellB h.out.blk 6).trans h.size
  have f6 := blk_frozenB h.out.blk 6
  have hw : IntKind.i64.wrap (65536 - s.size) = 65536 - s.size := by rw [IntKind.wrap_i64]; omega
  have hw2 : IntKind.i64.wrap (s.size + n) = s.size + n := by rw [IntKind.wrap_i64]; omega
  have e1 : decide (65536 - s.size < n) = false := decide_eq_false hn
  have h1 := h.counted (s.size + n)
  have hfin : IsSt base (W.setCell ⟨g, 6, none⟩ (.int .i64 (s.size + n))) g { s with size := s.size + n } ∧ Below base w (W.setCell ⟨g, 6, none⟩ (.int .i64 (s.size + n))) ∧ KeepT W (W.setCell ⟨g, 6, none⟩ (.int .i64 (s.size + n))) :=
    ⟨⟨_, _, _, _, h1⟩, hB.setCell (p := ⟨g, 6, none⟩) h.ge _, KeepT.two (v := .slice none 0 0) (by simp [World.setCell]) h.out.blk (.inl rfl) (fun x hx => by simp [Value.ownBlock] at hx) (fun k _ hk _ => Below.heap_setCell _ _ _ _ (fun e => hk e))⟩
  have HF := Aside0.mk hfin
  clear h h1 hfin
  go_enter Try.func15, Try.ntmps15
  go_wp2
  go_ret
  exact ⟨rfl, HF.out⟩
def printS (s : Str) (t : ByteArray) : Str × Int := if 65536 - s.size < t.size then (s, 8) else ({ s with out := s.out ++ t.data.toList, size := s.size + t.size }, 0)
theorem IsSt.out {base g : Nat} {w : World} {s : Str} (h : IsSt base w g s) : ∃ vo vs cs ks, StAt base w g s vo vs cs ks := h
/-- Print writes through the builder within Streams. -/
theorem print_step (base g : Nat) (s : Str) (t : ByteArray) (w W : World) (h : IsSt base W g s) (hB : Below base w W) (hlen : s.out.length ≤ 65536) (ht : t.size ≤ 65536) :
    Calls Try.prog 16 #[.pointer (some ⟨g, 2, none⟩), .string t] W fun e w' => e = .returned (.tuple #[.int .i64 t.size, .nilIface]) ∧ IsSt base w' g { s with out := s.out ++ t.data.toList } ∧ Below base w w' ∧ KeepT W w' := by
  obtain ⟨vo, vs, cs, ks, h⟩ := h
  have hbase : base ≤ W.heap.size := Nat.le_of_lt (Nat.lt_of_le_of_lt h.ge (lt_of_blk h.out.blk))
  refine (wstr_calls base g 2 52 cs vo s.out t W h.out hbase (by omega)).mono ?_
  rintro e w' ⟨rfl, v', h1, h2, h3, h4, h5, h6, h7⟩
  have hx : ∀ i, i ≠ 2 → i ≠ 3 → ((cs.setIfInBounds 2 (Value.pointer (some ⟨g, 2, none⟩))).setIfInBounds 3 v')[i]? = cs[i]? := fun i a b => by
    rw [Array.getElem?_setIfInBounds, if_neg (fun e => b e.symm), Array.getElem?_setIfInBounds, if_neg (fun e => a e.symm)]
  refine ⟨rfl, ⟨v', vs, _, ks, h.printed h1 (hx 1 (by decide) (by decide)) (hx 5 (by decide) (by decide)) (hx 6 (by decide) (by decide)) h2 h4⟩, below_two hB h3 hbase h.ge h.out.own_ge h4 h5 h6 h7, KeepT.two h3 h.out.blk (.inl rfl) h.out.own_blk h4⟩
set_option maxHeartbeats 2000000 in
set_option maxRecDepth 100000 in
theorem print_calls (base g : Nat) (s : Str) (t : ByteArray) (w W : World) (h : IsSt base W g s) (hB : Below base w W) (hs : 0 ≤ s.size ∧ s.size ≤ 65536) (hlen : s.out.length ≤ 65536) (ht : t.size ≤ 9223372036854775807) :
    Calls Try.prog 9 #[.pointer (some ⟨g, 0, none⟩), .string t] W fun e w' => e = .returned (.int .i64 (printS s t).2) ∧ IsSt base w' g (printS s t).1 ∧ Below base w w' ∧ KeepT W w' := by
  have HH := Aside0.mk h
  have HB := Aside0.mk hB
  have HS := Aside0.mk hs
  unfold printS
  by_cases hn : 65536 - s.size < (t.size : Int)
  · rw [if_pos hn]
    have HN := Aside0.mk hn
    clear h hB hs hn
    go_enter Try.func9, Try.ntmps9
    go_wp2_with (first
      | (go_at_call 15; refine (room_no base g s t.size W HH.out HS.out HN.out).mono ?_; rintro e w2 ⟨rfl, h1⟩; obtain rfl := h1.symm))
    go_ret
    exact ⟨rfl, HH.out, HB.out, KeepT.refl _⟩
  · rw [if_neg hn]
    have HN := Aside0.mk hn
    have hts : t.size ≤ 65536 := by omega
    have HTS := Aside0.mk hts
    clear h hB hs hn hts
    go_enter Try.func9, Try.ntmps9
    go_wp2_with (first
      | (go_at_call 15; refine (room_yes base g s t.size w W HH.out HB.out HS.out (by omega) HN.out).mono ?_; rintro e w2 ⟨rfl, h1, h2, h3⟩; have H2 := Aside0.mk h1; have HB2 := Aside0.mk h2; have HK2 := Aside0.mk h3; clear h1 h2 h3)
      | (go_at_call 16; refine (print_step base g { s with size := s.size + t.size } t w _ H2.out HB2.out hlen HTS.out).mono ?_; rintro e w3 ⟨rfl, h1, h2, h3⟩; have H3 := Aside0.mk h1; have HB3 := Aside0.mk h2; have HK3 := Aside0.mk (HK2.out.trans h3); clear h1 h2 h3))
    go_ret
    exact ⟨rfl, H3.out, HB3.out, HK3.out⟩
set_option maxHeartbeats 2000000 in
set_option maxRecDepth 100000 in
theorem out_calls (base g : Nat) (s : Str) (w W : World) (h : IsSt base W g s) (hB : Below base w W) (hlen : s.out.length ≤ 65536) :
    Calls Try.prog 8 #[.pointer (some ⟨g, 0, none⟩)] W fun e w' => e = .returned (.string ⟨s.out.toArray⟩) ∧ IsSt base w' g s ∧ Below base w w' ∧ KeepT W w' := by
  obtain ⟨vo, vs, cs, ks, h⟩ := h
  have HH := Aside0.mk h
  have HB := Aside0.mk hB
  have hstr := str_calls base g 2 52 cs vo s.out W h.out (by omega)
  have HS := Aside0.mk hstr
  clear h hB hstr
  go_enter Try.func8, Try.ntmps8
  go_wp2_with (first
    | (go_at_call 14; refine HS.out.mono ?_; rintro e w2 ⟨rfl, h1, h2, h3, h4, h5, h6⟩; have H1 := Aside0.mk h1; have H2 := Aside0.mk h2; have H3 := Aside0.mk h3; have H4 := Aside0.mk (And.intro h4 (And.intro h5 h6)); clear h1 h2 h3 h4 h5 h6))
  go_ret
  have hbase : base ≤ W.heap.size := Nat.le_of_lt (Nat.lt_of_le_of_lt HH.out.ge (lt_of_blk HH.out.out.blk))
  exact ⟨rfl, ⟨_, _, _, _, HH.out.printed H1.out rfl rfl rfl (.inl rfl) (fun k _ _ hk => H3.out k hk)⟩, below_two HB.out (Nat.le_of_eq H2.out.symm) hbase HH.out.ge HH.out.out.own_ge (fun k _ _ hk => H3.out k hk) H4.out.1 H4.out.2.1 H4.out.2.2, KeepT.two (Nat.le_of_eq H2.out.symm) HH.out.out.blk (.inl rfl) HH.out.out.own_blk (fun k _ _ hk => H3.out k hk)⟩
end Go.Proofs.Ytlccmkfkemilbaa.Bld
