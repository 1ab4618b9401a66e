/- Streams: Write to a file that is new, walked by hand. -/
import Derived.Test.YtlccmkfkemilbaaStF
namespace Go.Proofs.Ytlccmkfkemilbaa.Bld
open Go.RowKit Go.Lib Go.Proofs.YtlccmkfkemilbaaW.PrintWords Go.Proofs.YtlccmkfkemilbaaW.PrintLast Go.Proofs.YtlccmkfkemilbaaW.PrintMore
set_option linter.unusedVariables false
set_option linter.unusedSimpArgs false
theorem wpList_append_own_any {P : Program} {w : World} {ops : Array Oper} {rest : List Oper} {o : Oper} {a : Act} {Q : Exit → Act → World → Prop} (hgd : o.guard = none) (s x : Operand) (t : TypeId)
    (ho : o.op = .call { callee := .builtin .append, args := #[s, x], argTypes := #[t, t] })
    (base : Nat) (e : TypeId) (z : Value) (size bytes : Nat) (ht : P.underlying t = some (.slice e)) (hinfo : (P.info? e).map (fun i => (i.zero, i.size, i.bytes)) = some (some z, size, bytes)) (hzs : z.cells.size = size) (hsz : 0 < size)
    (v : Value) (n : Nat) (xs : List Value) (hs : a.eval s = v) (hown : w.ownsRow base e size v n xs)
    (ad : Addr) (m c : Nat) (news : List Value) (hx : a.eval x = .slice (some ad) m c) (hl : news.length = m * size) (hnews : ∀ j u, news[j]? = some u → w.cell? (ad.add j) = some u) (h1 : ∀ u ∈ news, u.oneCell' = true)
    (h63 : n + m ≤ maxLen) (hbytes : (n + m) * bytes ≤ 140737488355328) (hbase : base ≤ w.heap.size)
    (h : ∀ v' w', w'.ownsRow base e size v' (n + m) (xs ++ news) → w.grownBy w' v.ownBlock → True → wpList P ops Q rest (a.put o.dst v') w') : wpList P ops Q (o :: rest) a w := by
  obtain ⟨i, hi, hzz⟩ := Option.map_eq_some_iff.1 hinfo
  simp only [Prod.mk.injEq] at hzz
  obtain ⟨hz0, hz1, hz2⟩ := hzz
  exact wpList_append_own w hgd s x t ho base e i z size bytes ht hi hz0 hz1 hz2 hzs hsz v n xs hs hown ad m c news hx hl hnews h1 h63 hbytes hbase (fun v' w' p1 p2 _ => h v' w' p1 p2 trivial)
theorem lit_cell (w : World) (v : Value) (e : TypeId) : ∀ j u, [v][j]? = some u → (w.alloc (.cells #[v] e)).cell? ((⟨w.heap.size, 0, none⟩ : Addr).add j) = some u := by
  intro j u hj
  match j, hj with
  | 0, hj => injection hj with hj; subst hj; rw [show (⟨w.heap.size, 0, none⟩ : Addr).add 0 = ⟨w.heap.size, 0, none⟩ by simp [Addr.add]]; exact (cell_of_heap (heap_alloc_new w _) 0).trans rfl
theorem row_ge {base n : Nat} {e : TypeId} {w : World} {v : Value} {xs : List Value} (h : w.ownsRow base e 1 v n xs) (x : Nat) (hx : v.ownBlock = some x) : base ≤ x := by
  rcases h.2 with ⟨rfl, _⟩ | ⟨gv, cap, cur, rfl, hb, _⟩
  · simp [Value.ownBlock] at hx
  · have : gv = x := by simpa [Value.ownBlock] using hx
    omega
theorem add_done {base g b m : Nat} {w4 w6 w7 : World} {o : Obj} {s : Str} {vo v6 v7 vs : Value} {cs cs6 : Array Value} {ks : List Sk} {l : List UInt8} {name : ByteArray}
    (h4 : StAt base w4 g s vo vs cs ks) (hm : m = ks.length) (hb : w4.heap.size ≤ b) (hB6 : BldAt base w6 b 0 49 cs6 v6 l) (h2 : cs6[2]? = some (.string name)) (hv : ∀ x, v6.ownBlock = some x → w4.heap.size ≤ x) (hs6 : w4.heap.size ≤ w6.heap.size) (hbase : base ≤ w4.heap.size)
    (hf6 : ∀ x, x < w4.heap.size → w6.heap[x]? = w4.heap[x]?) (hr6 : w6.ownsRow base 54 1 vs m (ks.map fun k => Value.pointer (some ⟨k.1, 0, none⟩))) (g6 : w6.heap[g]? = some (.cells cs 52 (0, 0)))
    (hg7 : (w6.alloc o).grownBy w7 vs.ownBlock) (hr7 : w7.ownsRow base 54 1 v7 (m + 1) ((ks.map fun k => Value.pointer (some ⟨k.1, 0, none⟩)) ++ [.pointer (some ⟨b, 0, none⟩)])) (g7 : w7.heap[g]? = some (.cells cs 52 (0, 0))) :
    IsSt base (w7.setCell ⟨g, 5, none⟩ v7) g { s with sk := s.sk ++ [(name, l)] } ∧ w4.heap.size ≤ (w7.setCell ⟨g, 5, none⟩ v7).heap.size ∧ ∀ x, x < w4.heap.size → x ≠ g → some x ≠ vs.ownBlock → (w7.setCell ⟨g, 5, none⟩ v7).heap[x]? = w4.heap[x]? := by
  have hf7 : ∀ x, x < w6.heap.size → x ≠ g → some x ≠ vs.ownBlock → (w7.setCell ⟨g, 5, none⟩ v7).heap[x]? = w6.heap[x]? := fun x hx hg hn => by
    rw [Below.heap_setCell _ _ _ _ (fun e => hg e), hg7.block x (by simp; omega) hn, Lib.alloc_old w6 _ x hx]
  have hf : ∀ x, x < w4.heap.size → x ≠ g → some x ≠ vs.ownBlock → (w7.setCell ⟨g, 5, none⟩ v7).heap[x]? = w4.heap[x]? := fun x hx hg hn => (hf7 x (by omega) hg hn).trans (hf6 x hx)
  have nvs : ∀ (x : Nat) (c : Array Value) (T : TypeId) (fz : Nat × Nat), T ≠ 54 → w6.heap[x]? = some (.cells c T fz) → some x ≠ vs.ownBlock := fun x c T fz hT hx e => by
    obtain ⟨_, h3⟩ := row_blk hr6 x e.symm
    exact two_types hx h3 hT rfl
  have hsz : w4.heap.size ≤ (w7.setCell ⟨g, 5, none⟩ v7).heap.size := by
    have h1 := hg7.size
    have h2 := (set_grownB w7 g 5 v7).size
    simp at h1
    omega
  refine ⟨⟨vo, v7, _, _, h4.added (hB6.kept (hf7 b (lt_of_blk hB6.blk) (two_types hB6.blk g6 (by decide)) (nvs b _ 49 _ (by decide) hB6.blk)) (fun x hx => ?_)) hb (by omega) h2 hv ?_ (blk_setB g7 5 v7) hf⟩, hsz, hf⟩
  · obtain ⟨_, _, h3⟩ := hB6.own_blk x hx
    exact hf7 x (lt_of_blk h3) (two_types h3 g6 (by decide)) (nvs x _ 5 _ (by decide) h3)
  · rw [← hm]
    exact row_same hr7 (fun x hx => by
      obtain ⟨_, h3⟩ := row_blk hr7 x hx
      exact Below.heap_setCell _ _ _ _ (fun e => two_types h3 g7 (by decide) e))
set_option maxHeartbeats 8000000 in
set_option maxRecDepth 100000 in
theorem write_new (base g : Nat) (s : Str) (name t : ByteArray) (more : Bool) (w W : World) (h : IsSt base W g s) (hB : Below base w W) (hs : 0 ≤ s.size ∧ s.size ≤ 65536) (h8 : s.sk.length ≤ 8) (ht : t.size ≤ 9223372036854775807) (hname : (name.toList == []) = false)
    (hi : s.sk.findIdx? (fun x => x.1.toList == name.toList) = none) :
    Calls Try.prog 10 #[.pointer (some ⟨g, 0, none⟩), .string name, .string t, .bool more] W fun e w' => e = .returned (.int .i64 (writeS s name t).2) ∧ IsSt base w' g (writeS s name t).1 ∧ Below base w w' ∧ KeepT W w' := by
  have hidx : idxS s name = -1 := by unfold idxS; rw [hi]
  obtain ⟨w1, hw1⟩ : ∃ w1, w1 = W.alloc (.cells #[.string name] 9) := ⟨_, rfl⟩
  have bl : Below W.heap.size W w1 := by rw [hw1]; exact below_alloc (Below.refl _ _) _
  have hbase : base ≤ W.heap.size := Nat.le_of_lt (Nat.lt_of_le_of_lt h.ge h.lt)
  have h1 := h.below bl
  have hgk : w1.heap[W.heap.size]? = some (.cells #[.string name] 9 (0, 0)) := by rw [hw1]; exact Array.getElem?_push_size
  have hB1 : Below base w w1 := hB.trans (bl.mono hbase)
  have hK1 := KeepT.of_below bl
  obtain ⟨gk, hgke⟩ : ∃ gk, gk = W.heap.size := ⟨_, rfl⟩
  rw [← hgke] at hgk
  obtain ⟨vo, vs, cs, ks, h2⟩ := h1.out
  have hidc := idx_calls base g gk s name vo vs cs ks w1 h2 hgk (by omega)
  rw [hidx] at hidc
  have c5 : w1.cell? ⟨g, 5, none⟩ = some vs := (blk_cellB h2.out.blk 5).trans h2.sinks
  obtain ⟨A, c, hvs⟩ := h2.vs_form
  have hn0 := h2.len
  subst hvs
  obtain ⟨n, hn⟩ : ∃ n, n = ks.length := ⟨_, rfl⟩
  rw [← hn] at hidc c5 hn0
  have H1 := Aside0.mk h1
  have HST := Aside0.mk h2
  have HB1 := Aside0.mk hB1
  have HK1 := Aside0.mk hK1
  have HI := Aside0.mk hidc
  have HS := Aside0.mk hs
  have HQ := Aside0.mk hgk
  have HGK := Aside0.mk (And.intro hw1 hgke)
  have HN0 := Aside0.mk (And.intro hn hn0)
  have hn8 : n ≤ 8 := by omega
  have info54 : (Try.prog.info? 54).map (fun i => (i.zero, i.size, i.bytes)) = some (some (.pointer none), 1, 8) := by kernel_rfl
  have INF := Aside0.mk info54
  unfold writeS
  rw [hi]
  dsimp only
  rw [← hn0]
  by_cases hf : n = 8
  · rw [if_pos hf]
    have e9 : decide ((n : Int) = 8) = true := decide_eq_true (by omega)
    have e10 : ((n : Int) == 8) = true := by simp; omega
    subst hf
    clear h hB hs h8 hi hidx bl h1 hB1 hK1 h2 hidc hgk hn hn0 hw1 hgke info54 INF
    go_enter Try.func10, Try.ntmps10
    go_upto_region 3 with fail
    rw [← HGK.out.1, ← HGK.out.2]
    go_upto_region 9 with (first
      | (go_at_call 17; refine HI.out.mono ?_; rintro e w2 ⟨rfl, h1⟩; have H2 := Aside0.mk (H1.out.below h1); have HB2 := Aside0.mk (HB1.out.trans (h1.mono (Nat.le_of_lt (Nat.lt_of_le_of_lt H1.out.ge H1.out.lt)))); have HK2 := Aside0.mk (HK1.out.trans (KeepT.of_below h1)); have c52 : w2.cell? ⟨g, 5, none⟩ = some (.slice A 8 c) := (blk_cellB ((h1.block g H1.out.lt).trans HST.out.out.blk) 5).trans (by rw [HN0.out.1]; exact HST.out.sinks); clear h1))
    go_wp2
    go_ret
    exact ⟨rfl, H2.out, HB2.out, HK2.out⟩
  · rw [if_neg hf]
    have e9 : decide ((n : Int) = 8) = false := decide_eq_false (by omega)
    have e10 : ((n : Int) == 8) = false := by simp; omega
    by_cases hnn : 65536 - s.size < (t.size : Int)
    · rw [if_pos hnn]
      have HNN := Aside0.mk hnn
      clear h hB hs h8 hi hidx bl h1 hB1 hK1 h2 hidc hgk hn hn0 hw1 hgke info54 INF hnn
      go_enter Try.func10, Try.ntmps10
      go_upto_region 3 with fail
      rw [← HGK.out.1, ← HGK.out.2]
      cases more <;> (
        go_upto_region 14 with (first
          | (go_at_call 17; refine HI.out.mono ?_; rintro e w2 ⟨rfl, h1⟩; have H2 := Aside0.mk (H1.out.below h1); have HB2 := Aside0.mk (HB1.out.trans (h1.mono (Nat.le_of_lt (Nat.lt_of_le_of_lt H1.out.ge H1.out.lt)))); have HK2 := Aside0.mk (HK1.out.trans (KeepT.of_below h1)); have c52 : w2.cell? ⟨g, 5, none⟩ = some (.slice A n c) := (blk_cellB ((h1.block g H1.out.lt).trans HST.out.out.blk) 5).trans (by rw [HN0.out.1]; exact HST.out.sinks); have c02 : w2.cell? ⟨gk, 0, none⟩ = some (.string name) := (blk_cellB ((h1.block gk (lt_of_blk HQ.out)).trans HQ.out) 0).trans rfl; clear h1)
          | (go_at_call 13; refine (file_calls base g s name _ H2.out).mono ?_; rintro e w3 ⟨rfl, h1⟩; have H3 := Aside0.mk (H2.out.below h1); have HB3 := Aside0.mk (HB2.out.trans (h1.mono (Nat.le_of_lt (Nat.lt_of_le_of_lt H2.out.ge H2.out.lt)))); have HK3 := Aside0.mk (HK2.out.trans (KeepT.of_below h1)); clear h1))
        go_wp2_with (first
          | (go_at_call 15; refine (room_no base g s t.size _ H3.out HS.out (by have := HNN.out; omega)).mono ?_; rintro e w4 ⟨rfl, h1⟩; obtain rfl := h1.symm))
        go_ret
        exact ⟨rfl, H3.out, HB3.out, HK3.out⟩)
    · rw [if_neg hnn]
      have HNN := Aside0.mk hnn
      have hts : t.size ≤ 65536 := by omega
      have HTS := Aside0.mk hts
      clear h hB hs h8 hi hidx bl h1 hB1 hK1 h2 hidc hgk hn hn0 hw1 hgke info54 hnn hts
      go_enter Try.func10, Try.ntmps10
      go_upto_region 3 with fail
      rw [← HGK.out.1, ← HGK.out.2]
      cases more <;> (
        go_upto_region 14 with (first
          | (go_at_call 17; refine HI.out.mono ?_; rintro e w2 ⟨rfl, h1⟩; have H2 := Aside0.mk (H1.out.below h1); have HB2 := Aside0.mk (HB1.out.trans (h1.mono (Nat.le_of_lt (Nat.lt_of_le_of_lt H1.out.ge H1.out.lt)))); have HK2 := Aside0.mk (HK1.out.trans (KeepT.of_below h1)); have c52 : w2.cell? ⟨g, 5, none⟩ = some (.slice A n c) := (blk_cellB ((h1.block g H1.out.lt).trans HST.out.out.blk) 5).trans (by rw [HN0.out.1]; exact HST.out.sinks); have HQ2 := Aside0.mk ((h1.block gk (lt_of_blk HQ.out)).trans HQ.out); have c02 : w2.cell? ⟨gk, 0, none⟩ = some (.string name) := (blk_cellB HQ2.out 0).trans rfl; clear h1)
          | (go_at_call 13; refine (file_calls base g s name _ H2.out).mono ?_; rintro e w3 ⟨rfl, h1⟩; have H3 := Aside0.mk (H2.out.below h1); have HQ3 := Aside0.mk ((h1.block gk (lt_of_blk HQ2.out)).trans HQ2.out); have HB3 := Aside0.mk (HB2.out.trans (h1.mono (Nat.le_of_lt (Nat.lt_of_le_of_lt H2.out.ge H2.out.lt)))); have HK3 := Aside0.mk (HK2.out.trans (KeepT.of_below h1)); clear h1))
        go_upto_region 16 with (first
          | (go_at_call 15; refine (room_yes base g s t.size w _ H3.out HB3.out HS.out (by omega) (by have := HNN.out; omega)).mono ?_; rintro e w4 ⟨rfl, h1, h2, h3⟩; have H4 := Aside0.mk h1; have HB4 := Aside0.mk h2; have HK4 := Aside0.mk (HK3.out.trans h3); have c04 : w4.cell? ⟨gk, 0, none⟩ = some (.string name) := (blk_cellB (h3.2 _ _ _ _ HQ3.out (by decide) (by decide) (by decide) (by decide)) 0).trans rfl; clear h1 h2 h3))
        obtain ⟨vo4, vs4, cs4, ks4, h4⟩ := H4.out
        obtain ⟨A4, c4, hvs4⟩ := h4.vs_form
        subst hvs4
        have hm8 : ks4.length ≤ 8 := by rw [h4.len]; show s.sk.length ≤ 8; have := HN0.out.2; omega
        obtain ⟨m, hm⟩ : ∃ m, m = ks4.length := ⟨_, rfl⟩
        have hrow4 := h4.row
        have hsk4 := h4.sinks
        rw [← hm] at hrow4 hm8 hsk4 h4
        obtain ⟨b, hb⟩ : ∃ b, b = w4.heap.size := ⟨_, rfl⟩
        obtain ⟨w5, hw5⟩ : ∃ w5, w5 = w4.alloc (Obj.cells #[Value.pointer none, Value.slice none 0 0, Value.string name] 49) := ⟨_, rfl⟩
        have bl5 : Below w4.heap.size w4 w5 := by rw [hw5]; exact below_alloc (Below.refl _ _) _
        have hb5 : w5.heap[b]? = some (Obj.cells #[Value.pointer none, Value.slice none 0 0, Value.string name] 49 (0, 0)) := by rw [hw5, hb]; exact Array.getElem?_push_size
        have hglt : g < w4.heap.size := lt_of_blk h4.out.blk
        have hB5 : BldAt base w5 b 0 49 #[Value.pointer none, Value.slice none 0 0, Value.string name] (.slice none 0 0) [] := ⟨hb5, .inr ⟨rfl, rfl, rfl⟩, .inl rfl, rfl, ⟨rfl, .inl ⟨rfl, rfl⟩⟩, by simp [Value.ownBlock], fun _ => rfl⟩
        have hge4 : base ≤ w4.heap.size := Nat.le_of_lt (Nat.lt_of_le_of_lt h4.ge hglt)
        have hws := wstr_calls base b 0 49 _ _ [] t w5 hB5 (Nat.le_trans hge4 bl5.size) (by have := HTS.out; simp; omega)
        have g5 : w5.heap[g]? = some (.cells cs4 52 (0, 0)) := (bl5.block g hglt).trans h4.out.blk
        have H4S := Aside0.mk h4
        have HROW4 := Aside0.mk hrow4
        have HM4 := Aside0.mk (And.intro hm hm8)
        have HSK4 := Aside0.mk hsk4
        have HW5 := Aside0.mk (And.intro hw5 hb)
        have HBL5 := Aside0.mk bl5
        have HWS := Aside0.mk hws
        have HG5 := Aside0.mk (And.intro g5 (And.intro hglt hge4))
        clear h4 hrow4 hm hm8 hsk4 hw5 hb bl5 hb5 hB5 hws g5 hglt hge4
        go_upto_region 17 with fail
        rw [← HW5.out.1, ← HW5.out.2]
        go_upto_region 18 with (first
          | (go_at_call 16; refine HWS.out.mono ?_; rintro e w6 ⟨rfl, v6, p1, p2, p3, p4, p5, p6, p7⟩; have HB6 := Aside0.mk p1; have HO6 := Aside0.mk p2; have HF6 := Aside0.mk (And.intro p3 (And.intro p4 (And.intro p5 (And.intro p6 p7)))); clear p1 p2 p3 p4 p5 p6 p7))
        have hf6 : ∀ x, x < w4.heap.size → w6.heap[x]? = w4.heap[x]? := fun x hx => by
          have h1 := HBL5.out.size
          have h2 : x ≠ b := by rw [HW5.out.2]; omega
          rw [HF6.out.2.1 x (by omega) h2 (by simp [Value.ownBlock])]
          exact HBL5.out.block x hx
        have g6 : w6.heap[g]? = some (.cells cs4 52 (0, 0)) := (hf6 g HG5.out.2.1).trans H4S.out.out.blk
        have r6 : w6.ownsRow base 54 1 (.slice A4 m c4) m (ks4.map fun k => Value.pointer (some ⟨k.1, 0, none⟩)) := row_same HROW4.out (fun x hx => by obtain ⟨_, hb⟩ := row_blk HROW4.out x hx; exact hf6 x (lt_of_blk hb))
        have c56 : w6.cell? ⟨g, 5, none⟩ = some (.slice A4 m c4) := (blk_cellB g6 5).trans HSK4.out
        have hs6 : w4.heap.size ≤ w6.heap.size := Nat.le_trans HBL5.out.size HF6.out.1
        have HF46 := Aside0.mk hf6
        have HG6 := Aside0.mk g6
        have HR6 := Aside0.mk r6
        have HS6 := Aside0.mk hs6
        clear hf6 g6 r6 hs6
        go_wp2_with (first
          | ((with_reducible refine gate_dst (N := 83) rfl ?_); at_builtin; refine wpList_append_own_any rfl (.tmp 80) (.tmp 82) 50 rfl base 54 (.pointer none) 1 8 Try.underlying50 INF.out rfl (by decide) (.slice A4 m c4) m (ks4.map fun k => Value.pointer (some ⟨k.1, 0, none⟩)) rfl (HR6.out.alloc _) ⟨w6.heap.size, 0, none⟩ 1 1 [.pointer (some ⟨b, 0, none⟩)] rfl rfl ?q1 ?q2 ?q3 ?q4 ?q5 ?_; (case q1 => exact lit_cell w6 _ 54); (case q2 => intro u hu; simp at hu; subst hu; rfl); (case q3 => have := HM4.out.2; unfold maxLen; omega); (case q4 => have := HM4.out.2; omega); (case q5 => have := HS6.out; have := HG5.out.2.2; simp; omega); intro v7 w7 q1 q2 q3; have HR7 := Aside0.mk q1; have HG7 := Aside0.mk q2; have g7 : w7.heap[g]? = some (.cells cs4 52 (0, 0)) := (by rw [q2.block g (by have := lt_of_blk HG6.out; simp; omega) (fun e => by obtain ⟨_, hb⟩ := row_blk HR6.out g e.symm; exact two_types HG6.out hb (by decide) rfl), Lib.alloc_old w6 _ g (lt_of_blk HG6.out)]; exact HG6.out); have HB7 := Aside0.mk g7; have c57 : w7.cell? ⟨g, 5, none⟩ = some (.slice A4 m c4) := (blk_cellB g7 5).trans HSK4.out; have f57 := blk_frozenB g7 5; clear q1 q2 q3 g7; obtain ⟨A7, n7, c7, rfl⟩ : ∃ A7 n7 c7, v7 = .slice A7 n7 c7 := (by rcases HR7.out.2 with ⟨hv, _⟩ | ⟨_, _, _, hv, _⟩ <;> exact ⟨_, _, _, hv⟩)))
        go_ret
        obtain ⟨k1, k2, k3⟩ := add_done (o := Obj.cells #[Value.pointer (some ⟨b, 0, none⟩)] 54) H4S.out HM4.out.1 (by rw [HW5.out.2]; exact Nat.le_refl _) HB6.out rfl (fun x hx => by
          rcases HO6.out with e | ⟨y, e, hy⟩
          · rw [e] at hx; simp [Value.ownBlock] at hx
          · rw [e] at hx
            injection hx with hx
            have := HBL5.out.size
            omega) HS6.out HG5.out.2.2 HF46.out HR6.out HG6.out HG7.out HR7.out HB7.out
        have hos := And.intro ((set_grownB w7 g 5 (Value.slice A7 n7 c7)).os.trans HG7.out.os) (And.intro ((set_grownB w7 g 5 (Value.slice A7 n7 c7)).tape.trans HG7.out.tape) ((set_grownB w7 g 5 (Value.slice A7 n7 c7)).output.trans HG7.out.output))
        refine ⟨rfl, k1, below_two (v := Value.slice A4 m c4) HB4.out k2 HG5.out.2.2 H4S.out.ge (row_ge HROW4.out) k3 (hos.1.trans (HF6.out.2.2.1.trans HBL5.out.os)) (hos.2.1.trans (HF6.out.2.2.2.1.trans HBL5.out.tape)) (hos.2.2.trans (HF6.out.2.2.2.2.trans HBL5.out.output)), HK4.out.trans ⟨k2, fun i cc tt fr hi q1 q2 q3 q4 => (k3 i (lt_of_blk hi) (two_types hi H4S.out.out.blk q1) (fun e => by
          obtain ⟨_, h3⟩ := row_blk HROW4.out i e.symm
          exact two_types hi h3 q3 rfl)).trans hi⟩⟩)
end Go.Proofs.Ytlccmkfkemilbaa.Bld
