/- strings.Builder within a block of another type (streams.Streams, streams.sink): copyCheck, WriteString, String, walked by hand. -/
import Derived.Test.YtlccmkfkemilbaaProg
import Derived.Test.YtlccmkfkemilbaaWWords
import Derived.Test.YtlccmkfkemilbaaWLast
import Derived.Test.YtlccmkfkemilbaaWKept
import Derived.Test.YtlccmkfkemilbaaWMore
import Derived.WalkKit
import Derived.Below
import Derived.KernelRfl
import Derived.Laws.Rows
import Derived.Lib.FrozenHead
import Derived.Lib.UnsafeStr
import Derived.Lib.Builder
import Derived.Lib.AppendStr
namespace Go.Proofs.Ytlccmkfkemilbaa.Bld
open Go.RowKit Go.Lib Go.Proofs.YtlccmkfkemilbaaW.PrintWords Go.Proofs.YtlccmkfkemilbaaW.PrintLast Go.Proofs.YtlccmkfkemilbaaW.PrintMore
set_option linter.unusedVariables false
set_option linter.unusedSimpArgs false
section
variable {P : Program} {ops : Array Oper} {rest : List Oper} {o : Oper} {a : Act} {Q : Exit → Act → World → Prop}
/-- Where the row lies behind an append of a string: where it lay, or in a new block. -/
theorem str_blockF (w : World) (base : Nat) (t u ty e : TypeId) (i : TypeInfo) (ht : P.underlying t = some (.slice e)) (hu : P.underlying u = some .string) (hi : P.info? e = some i) (hz : i.zero = some (.int .u8 0))
    (hsize : i.size = 1) (hby : i.bytes = 1) (v : Value) (n : Nat) (xs : List Value) (hown : w.ownsRowF base e 1 v n xs) (s : ByteArray)
    (hbytes : n + s.size ≤ 140737488355328) (v1 : Value) (w1 : World) (hr : (Builtin.append_ #[t, u] ty #[v, .string s]).run P w = .ok v1 w1) (hn : v1 = .slice none 0 0 ↔ v = .slice none 0 0 ∧ s.size = 0) :
    v1.ownBlock = v.ownBlock ∨ ∃ b, v1.ownBlock = some b ∧ w.heap.size ≤ b := by
  have hxl : xs.length = n := by simpa using hown.1
  rcases hown.2 with ⟨rfl, rfl⟩ | ⟨g, cap, cur, fz, rfl, hbg, hg, hfz, hnc, hcm, hcs, htake⟩
  · by_cases hm : s.size = 0
    · left; rw [hn.2 ⟨rfl, hm⟩]
    · have h2 := run_append_nil_string (P := P) w t u ty e i (.int .u8 0) ht hu hi hz s (by omega) (by omega) (by rw [hby]; omega)
      have h3 := hr.symm.trans h2
      injection h3 with h4 h5
      right
      exact ⟨w.heap.size, by rw [h4]; rfl, Nat.le_refl _⟩
  · by_cases hroom : n + s.size ≤ cap
    · have hcs' : cur.size = cap := by simpa using hcs
      have h2 := run_append_room_stringF (P := P) w t u ty e i ht hu hi hsize g n cap cur fz hg (by simpa using hfz) s hroom (by omega)
      have h3 := hr.symm.trans h2
      injection h3 with h4 h5
      left; rw [h4]; rfl
    · have holds : ∀ j u, xs[j]? = some u → w.cell? ((⟨g, 0, none⟩ : Addr).add j) = some u := hown.cells (g := g) rfl
      have h2 := run_append_grow_string (P := P) w t u ty e i (.int .u8 0) ht hu hi hz ⟨g, 0, none⟩ n cap xs (by rw [hsize]; simpa using hxl) holds s (by omega) (by omega) (by rw [hby]; exact growslice_fits (by omega) (by omega))
      have h3 := hr.symm.trans h2
      injection h3 with h4 h5
      right
      exact ⟨w.heap.size, by rw [h4]; rfl, Nat.le_refl _⟩
theorem append_strF (w : World) (base : Nat) (hgd : o.guard = none) (sl x : Operand) (t u e : TypeId)
    (ho : o.op = .call { callee := .builtin .append, args := #[sl, x], argTypes := #[t, u] })
    (ht : P.underlying t = some (.slice e)) (hu : P.underlying u = some .string) (hinfo : (P.info? e).map (fun i => (i.zero, i.size, i.bytes)) = some (some (.int .u8 0), 1, 1))
    (v : Value) (n : Nat) (xs : List Value) (hs : a.eval sl = v) (hown : w.ownsRowF base e 1 v n xs) (s : ByteArray) (hx : a.eval x = .string s)
    (hbytes : n + s.size ≤ 140737488355328) (hbase : base ≤ w.heap.size)
    (h : ∀ v' w', w'.ownsRowF base e 1 v' (n + s.size) (xs ++ strCells s) → w.grownBy w' v.ownBlock → (v' = .slice none 0 0 ↔ v = .slice none 0 0 ∧ s.size = 0) → (v'.ownBlock = v.ownBlock ∨ ∃ b, v'.ownBlock = some b ∧ w.heap.size ≤ b) → wpList P ops Q rest (a.put o.dst v') w') : wpList P ops Q (o :: rest) a w := by
  obtain ⟨i, hi, hzz⟩ := Option.map_eq_some_iff.1 hinfo
  simp only [Prod.mk.injEq] at hzz
  obtain ⟨hz0, hz1, hz2⟩ := hzz
  refine wpList_plain hgd fun K hK => ?_
  obtain ⟨v', w', hr, h2, h3, h4⟩ := run_append_own_stringF (P := P) w base t u o.type e i ht hu hi hz0 hz1 hz2 v n xs hown s (by simp only [maxLen]; omega) hbytes hbase
  have hat := str_blockF w base t u o.type e i ht hu hi hz0 hz1 hz2 v n xs hown s hbytes v' w' hr h4
  unfold Oper.wp execOp
  simp only [ho, resolve, invoke, builtin, Sem.run_bind, Sem.run_pure, Result.andThen_ok, List.map_toArray, List.map_cons, List.map_nil, hs, hx, hr]
  exact hK _ _ (h v' w' h2 h3 h4 hat)
end
/-- The places where this program has a builder: within Streams, and at the head of a sink. -/
def Place (T : TypeId) (j n : Nat) : Prop := (T = 52 ∧ j = 2 ∧ n = 7) ∨ (T = 49 ∧ j = 0 ∧ n = 3)
theorem blk_cellB {w : World} {g : Nat} {cs : Array Value} {T : TypeId} (h : w.heap[g]? = some (.cells cs T (0, 0))) (j : Nat) : w.cell? ⟨g, j, none⟩ = cs[j]? := by simp [World.cell?, h]
theorem blk_frozenB {w : World} {g : Nat} {cs : Array Value} {T : TypeId} (h : w.heap[g]? = some (.cells cs T (0, 0))) (j : Nat) : w.frozen? ⟨g, j, none⟩ = false := by simp [World.frozen?, h]
theorem blk_shape {w : World} {g : Nat} {cs : Array Value} {T : TypeId} (h : w.heap[g]? = some (.cells cs T (0, 0))) : w.shape? g = some (T, cs.size) := by simp [World.shape?, h]
theorem blk_setB {w : World} {g : Nat} {cs : Array Value} {T : TypeId} (h : w.heap[g]? = some (.cells cs T (0, 0))) (j : Nat) (u : Value) : (w.setCell ⟨g, j, none⟩ u).heap[g]? = some (.cells (cs.setIfInBounds j u) T (0, 0)) := by
  have hlt : g < w.heap.size := (Array.getElem?_eq_some_iff.1 h).1
  simp [World.setCell, h, hlt, Array.getElem_modify]
  try simp_all [Array.getElem?_eq_some_iff]
theorem set_grownB (w : World) (g j : Nat) (u : Value) : w.grownBy (w.setCell ⟨g, j, none⟩ u) (some g) := ⟨rfl, rfl, rfl, by simp [World.setCell], fun i _ hi => Below.heap_setCell _ _ _ _ (fun e => hi (by rw [e]))⟩
set_option maxHeartbeats 1000000 in
set_option maxRecDepth 100000 in
theorem check_calls (g j : Nat) (T : TypeId) (cs : Array Value) (p : Value) (W : World) (hb : W.heap[g]? = some (.cells cs T (0, 0))) (hpl : Place T j cs.size) (hp : cs[j]? = some p) (hpp : p = .pointer none ∨ p = .pointer (some ⟨g, j, none⟩)) :
    Calls Try.prog 21 #[.pointer (some ⟨g, j, none⟩)] W fun e w' => e = .returned (.tuple #[]) ∧ w'.heap[g]? = some (.cells (cs.setIfInBounds j (.pointer (some ⟨g, j, none⟩))) T (0, 0)) ∧ W.grownBy w' (some g) := by
  have hc : W.cell? ⟨g, j, none⟩ = some p := (blk_cellB hb j).trans hp
  have hf := blk_frozenB hb j
  have hsh := blk_shape hb
  have hlies : liesAt Try.prog Try.prog.depth T (cs.size / Try.prog.cellsOf T) j 47 1 = true := by
    rcases hpl with ⟨rfl, rfl, h⟩ | ⟨rfl, rfl, h⟩ <;> (rw [h]; kernel_rfl)
  have hj : j < cs.size := (Array.getElem?_eq_some_iff.1 hp).1
  have hsz : (Try.prog.info? 47).map (·.size) = some 2 := by kernel_rfl
  obtain ⟨ii, hii, his⟩ := Option.map_eq_some_iff.1 hsz
  rcases hpp with rfl | rfl
  · have hfin := And.intro (blk_setB hb j (.pointer (some ⟨g, j, none⟩))) (set_grownB W g j (.pointer (some ⟨g, j, none⟩)))
    clear hpl hp
    go_enter Try.func21, Try.ntmps21
    go_wp2
    rw [Lib.run_to_unsafe W ⟨g, j, none⟩ Try.underlying44 Try.underlying65 hii (by rw [his]; decide) hsh hj]
    simp only [Result.andThen]
    rw [Oper.upon_value]
    go_wp2
    rw [run_callFunc_extern Try.func22 (by kernel_rfl) (by kernel_rfl) (by kernel_rfl) (e := Extern.AbiNoEscape.same) (by kernel_rfl)]
    rw [Lib.run_noEscape]
    simp only [Result.andThen]
    rw [Oper.upon_value]
    go_wp2
    rw [Lib.run_from_unsafe W ⟨g, j, none⟩ Try.underlying65 Try.underlying44 hii hsh hlies]
    simp only [Result.andThen]
    rw [Oper.upon_value]
    go_wp2
    go_end0
    exact ⟨rfl, hfin⟩
  · have hs : cs.setIfInBounds j (.pointer (some ⟨g, j, none⟩)) = cs := by
      apply Array.ext_getElem?
      intro i
      rw [Array.getElem?_setIfInBounds]
      by_cases h : j = i
      · subst h; rw [if_pos rfl, if_pos hj, hp]
      · rw [if_neg h]
    rw [hs]
    have hfin := And.intro hb (show W.grownBy W (some g) from ⟨rfl, rfl, rfl, Nat.le_refl _, fun _ _ _ => rfl⟩)
    clear hpl hp hs
    go_enter Try.func21, Try.ntmps21
    go_wp2
    rw [Lib.run_neq_ptr_same W _ Try.underlying44 hii]
    go_wp2
    go_end0
    exact ⟨rfl, hfin⟩
/-- What a builder's place holds: its own address or none, and its row. -/
structure BldAt (base : Nat) (w : World) (g j : Nat) (T : TypeId) (cs : Array Value) (v : Value) (l : List UInt8) : Prop where
  blk : w.heap[g]? = some (.cells cs T (0, 0))
  place : Place T j cs.size
  self : cs[j]? = some (.pointer none) ∨ cs[j]? = some (.pointer (some ⟨g, j, none⟩))
  row : cs[j + 1]? = some v
  own : w.ownsRowF base 5 1 v l.length (byteCells l)
  ne : v.ownBlock ≠ some g
  nil : l = [] → v = .slice none 0 0
theorem Place.lt {T : TypeId} {j n : Nat} (h : Place T j n) : j + 1 < n := by rcases h with ⟨_, rfl, rfl⟩ | ⟨_, rfl, rfl⟩ <;> decide
theorem len_str (l : List UInt8) (s : ByteArray) : (l ++ s.data.toList).length = l.length + s.size := by rw [List.length_append, Array.length_toList]; rfl
theorem size_nil {s : ByteArray} (h : s.data.toList = []) : s.size = 0 := by
  have h2 := congrArg List.length h
  rw [Array.length_toList] at h2
  exact h2
theorem byteCells_str (l : List UInt8) (s : ByteArray) : byteCells l ++ strCells s = byteCells (l ++ s.data.toList) := by simp [byteCells, strCells]
set_option maxHeartbeats 2000000 in
set_option maxRecDepth 100000 in
theorem wstr_calls (base g j : Nat) (T : TypeId) (cs : Array Value) (v : Value) (l : List UInt8) (s : ByteArray) (W : World) (h : BldAt base W g j T cs v l) (hbase : base ≤ W.heap.size) (hlen : l.length + s.size ≤ 140737488355328) :
    Calls Try.prog 16 #[.pointer (some ⟨g, j, none⟩), .string s] W fun e w' => e = .returned (.tuple #[.int .i64 s.size, .nilIface]) ∧ ∃ v', BldAt base w' g j T ((cs.setIfInBounds j (.pointer (some ⟨g, j, none⟩))).setIfInBounds (j + 1) v') v' (l ++ s.data.toList) ∧
      (v'.ownBlock = v.ownBlock ∨ ∃ b, v'.ownBlock = some b ∧ W.heap.size ≤ b) ∧ W.heap.size ≤ w'.heap.size ∧ (∀ k, k < W.heap.size → k ≠ g → some k ≠ v.ownBlock → w'.heap[k]? = W.heap[k]?) ∧ w'.os = W.os ∧ w'.tape = W.tape ∧ w'.output = W.output := by
  obtain ⟨p, hp, hpp⟩ : ∃ p, cs[j]? = some p ∧ (p = .pointer none ∨ p = .pointer (some ⟨g, j, none⟩)) := by
    rcases h.self with h | h
    · exact ⟨_, h, .inl rfl⟩
    · exact ⟨_, h, .inr rfl⟩
  have hck := check_calls g j T cs p W h.blk h.place hp hpp
  have info5 : (Try.prog.info? 5).map (fun i => (i.zero, i.size, i.bytes)) = some (some (.int .u8 0), 1, 1) := by kernel_rfl
  have hjl := h.place.lt
  obtain ⟨cs1, hcs1⟩ : ∃ cs1, cs1 = cs.setIfInBounds j (.pointer (some ⟨g, j, none⟩)) := ⟨_, rfl⟩
  rw [← hcs1] at hck ⊢
  have hsz1 : cs1.size = cs.size := by rw [hcs1]; simp
  have hv1 : cs1[j + 1]? = some v := by rw [hcs1, Array.getElem?_setIfInBounds, if_neg (by omega)]; exact h.row
  have hj1 : cs1[j]? = some (.pointer (some ⟨g, j, none⟩)) := by rw [hcs1, Array.getElem?_setIfInBounds, if_pos rfl, if_pos (by omega)]
  have HH := Aside0.mk h
  have HCK := Aside0.mk hck
  have INF := Aside0.mk info5
  have HC1 := Aside0.mk (And.intro hsz1 (And.intro hv1 (And.intro hj1 hjl)))
  clear h hck info5 hsz1 hv1 hj1 hjl hp hpp hcs1
  go_enter Try.func16, Try.ntmps16
  go_upto_region 2 with (first
    | (go_at_call 21; refine HCK.out.mono ?_; rintro e w1 ⟨rfl, h1, h2⟩; have HB1 := Aside0.mk h1; have HG1 := Aside0.mk h2; clear h1 h2))
  have c1 : w1.cell? ⟨g, j + 1, none⟩ = some v := (blk_cellB HB1.out (j + 1)).trans HC1.out.2.1
  have hown : w1.ownsRowF base 5 1 v l.length (byteCells l) := HH.out.own.kept HG1.out (.inr HH.out.ne)
  have HO := Aside0.mk hown
  clear hown
  go_wp2_with (first
    | ((with_reducible refine gate_dst (N := 14) rfl ?_); at_builtin; refine append_strF w1 base rfl (.tmp 12) (.tmp 13) 45 9 5 rfl Try.underlying45 Try.underlying9 INF.out v l.length (byteCells l) rfl HO.out s rfl hlen (Nat.le_trans hbase HG1.out.size) ?_; intro v2 w2 ho hg hn hat; have HO2 := Aside0.mk ho; have HG2 := Aside0.mk hg; have HN2 := Aside0.mk hn; have HAT := Aside0.mk hat; have hb2 : w2.heap[g]? = some (.cells cs1 T (0, 0)) := (by rw [hg.block g (Array.getElem?_eq_some_iff.1 HB1.out).1 (fun e => HH.out.ne e.symm)]; exact HB1.out); have HB2 := Aside0.mk hb2; have c2 : w2.cell? ⟨g, j + 1, none⟩ = some v := (blk_cellB hb2 (j + 1)).trans HC1.out.2.1; have f2 := blk_frozenB hb2 (j + 1); clear ho hg hn hat hb2; obtain ⟨ao, n', cap, rfl⟩ : ∃ ao n' cap, v2 = .slice ao n' cap := (by rcases HO2.out.2 with ⟨hv, _⟩ | ⟨g, cap, cur, fz, hv, _⟩ <;> exact ⟨_, _, _, hv⟩)))
  go_ret2
  have hglt : g < w1.heap.size := (Array.getElem?_eq_some_iff.1 HB1.out).1
  have hne2 : (Value.slice ao n' cap).ownBlock ≠ some g := by
    rcases HAT.out with h | ⟨b, h, hb⟩
    · rw [h]; exact HH.out.ne
    · rw [h]; intro e; injection e with e; omega
  have hl2 : (l ++ s.data.toList).length = l.length + s.size := len_str l s
  refine ⟨rfl, _, ⟨blk_setB HB2.out (j + 1) _, ?_, ?_, ?_, ?_, hne2, ?_⟩, ?_, ?_, ?_, ?_⟩
  · rw [Array.size_setIfInBounds, HC1.out.1]; exact HH.out.place
  · right
    rw [Array.getElem?_setIfInBounds, if_neg (by omega)]; exact HC1.out.2.2.1
  · rw [Array.getElem?_setIfInBounds, if_pos rfl, if_pos (by rw [HC1.out.1]; exact HC1.out.2.2.2)]
  · rw [hl2, ← byteCells_str]
    exact HO2.out.kept (set_grownB w2 g (j + 1) _) (.inr hne2)
  · intro e
    have h1 := List.append_eq_nil_iff.1 e
    exact HN2.out.2 ⟨HH.out.nil h1.1, size_nil h1.2⟩
  · rcases HAT.out with h | ⟨b, h, hb⟩
    · exact .inl h
    · exact .inr ⟨b, h, Nat.le_trans HG1.out.size hb⟩
  · have h1 := HG1.out.size
    have h2 := HG2.out.size
    have h3 := (set_grownB w2 g (j + 1) (Value.slice ao n' cap)).size
    omega
  · intro k hk hkg hkv
    have h1 := HG1.out.size
    rw [Below.heap_setCell _ _ _ _ (fun e => hkg e), HG2.out.block k (by omega) hkv, HG1.out.block k hk (fun e => hkg (by injection e))]
  · exact ⟨HG2.out.os.trans HG1.out.os, HG2.out.tape.trans HG1.out.tape, HG2.out.output.trans HG1.out.output⟩
end Go.Proofs.Ytlccmkfkemilbaa.Bld
