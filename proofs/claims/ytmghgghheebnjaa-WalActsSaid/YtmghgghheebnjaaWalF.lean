/- Wal: rows that stay while a disk turns; Write at once; Read, Record, Scan. -/
import Derived.Test.YtmghgghheebnjaaWalE
namespace Go.Proofs.Ytmghgghheebnjaa.Dis
open Go.RowKit Go.Proofs.YtmghgghheebnjaaW.PrintWords Go.Proofs.YtmghgghheebnjaaW.PrintLast Go.Proofs.YtmghgghheebnjaaW.PrintMore Go.Maps Go.Proofs.Ytmghgghheebnjaa.PWalRecords
set_option linter.unusedVariables false
set_option linter.unusedSimpArgs false
/-- What a call on a wal leaves: no block but the disk's and the wal's own kinds has turned. -/
def KeepW (w w' : World) : Prop := w.heap.size ≤ w'.heap.size ∧ ∀ (i : Nat) (cs : Array Value) (t : TypeId) (fr : Nat × Nat), w.heap[i]? = some (Obj.cells cs t fr) → t ≠ 106 → t ≠ 88 → t ≠ 81 → w'.heap[i]? = some (Obj.cells cs t fr)
theorem KeepW.refl (w : World) : KeepW w w := ⟨Nat.le_refl _, fun _ _ _ _ h _ _ _ => h⟩
theorem KeepW.trans {a b c : World} (h : KeepW a b) (k : KeepW b c) : KeepW a c := ⟨Nat.le_trans h.1 k.1, fun i cs t fr hi h1 h2 h3 => k.2 i cs t fr (h.2 i cs t fr hi h1 h2 h3) h1 h2 h3⟩
theorem KeepD.w {w w' : World} (h : KeepD w w') : KeepW w w' := ⟨h.1, fun i cs t fr hi h1 h2 _ => h.2 i cs t fr hi h1 h2⟩
theorem KeepW.of_below {w w' : World} (h : Below w.heap.size w w') : KeepW w w' := (KeepD.of_below h).w
theorem KeepW.set {w w' : World} (h : KeepW w w') {g j : Nat} {cs : Array Value} (hb : w'.heap[g]? = some (.cells cs 81 (0, 0))) (u : Value) : KeepW w (w'.setCell ⟨g, j, none⟩ u) :=
  h.trans ⟨by simp [World.setCell], fun i cs' t fr hi h1 h2 h3 => by
    have hne : i ≠ g := by rintro rfl; rw [hb] at hi; injection hi with hi; injection hi with _ ht; exact h3 ht.symm
    exact (Below.heap_setCell w' ⟨g, j, none⟩ u i hne).trans hi⟩
theorem R_keep {α : Type} {d : Kd α} {e base : Nat} {w w' : World} {ok : Nat → Prop} {v : Value} {xs : List α} (h : d.R e w base ok v xs) (hk : KeepW w w') (ht : ∀ q, q ∈ e :: d.E → q ≠ 106 ∧ q ≠ 88 ∧ q ≠ 81) : d.R e w' base ok v xs :=
  Kd.R_mono (Kd.R_move (Kd.R_bound h) (fun k hb => by
    obtain ⟨_, _, _, q, hq, cs, hc⟩ := hb
    rw [hk.2 k cs q (0, 0) hc (ht q hq).1 (ht q hq).2.1 (ht q hq).2.2, hc])) (fun _ hb => hb.1)
theorem M_keep {α : Type} {d : Kd α} {base : Nat} {w w' : World} {ok : Nat → Prop} {x : α} {cs : List Value} (h : d.M w base ok x cs) (hk : KeepW w w') (ht : ∀ q, q ∈ d.E → q ≠ 106 ∧ q ≠ 88 ∧ q ≠ 81) : d.M w' base ok x cs :=
  d.M_mono (fun _ hb => hb.1) (d.M_move (fun k hb => by
    obtain ⟨_, _, _, q, hq, cs, hc⟩ := hb
    rw [hk.2 k cs q (0, 0) hc (ht q hq).1 (ht q hq).2.1 (ht q hq).2.2, hc]) (d.M_bound h))
theorem R_lie {α : Type} {d : Kd α} {e base : Nat} {W : World} {ok : Nat → Prop} {v : Value} {xs : List α} (z : α) (h : d.R e W base ok v xs) (ht : ∀ q, q ∈ e :: d.E → q ≠ 106 ∧ q ≠ 88 ∧ q ≠ 81) :
    ∃ A c, v = .slice A xs.length c ∧ xs.length ≤ c ∧ ∀ k, k < xs.length → ∃ ad cs, A = some ad ∧ cs.length = d.sz ∧ ∀ W', KeepW W W' → d.M W' base tt (xs.getD k z) cs ∧ ∀ i u, cs[i]? = some u → W'.cell? (ad.add (k * d.sz + i)) = some u := by
  obtain ⟨h0, inner, hown, hr⟩ := h
  have hlen := hown.1
  rcases hown.2 with ⟨rfl, hn⟩ | ⟨g, cap, cur, rfl, hg, hh, hcap, hmax, hsz, hcur⟩
  · exact ⟨none, 0, by rw [hn], by omega, fun k hk => by omega⟩
  · refine ⟨some ⟨g, 0, none⟩, cap, rfl, hcap, fun k hk => ⟨⟨g, 0, none⟩, (inner.drop (k * d.sz)).take d.sz, rfl, ?_, fun W' hk' => ⟨?_, fun i u hi => ?_⟩⟩⟩
    · have h1 : (k + 1) * d.sz ≤ xs.length * d.sz := Nat.mul_le_mul_right _ (by omega)
      rw [Nat.add_mul, Nat.one_mul] at h1
      rw [List.length_take, List.length_drop, hlen]
      omega
    · have hp := hr.2 k (xs.getD k z) (by rw [List.getD_eq_getElem?_getD, List.getElem?_eq_getElem hk]; rfl)
      exact d.M_mono (fun _ _ => trivial) (M_keep hp hk' (fun q hq => ht q (List.mem_cons_of_mem _ hq)))
    · have hc := ht e List.mem_cons_self
      have hb := hk'.2 g cur e (0, 0) hh hc.1 hc.2.1 hc.2.2
      have h2 : cur[k * d.sz + i]? = some u := by
        rw [List.getElem?_take] at hi
        split at hi
        · rw [List.getElem?_drop, ← hcur, List.getElem?_take] at hi
          split at hi
          · rw [← Array.getElem?_toList]; exact hi
          · cases hi
        · cases hi
      have h3 := (blk_cell hb (k * d.sz + i)).trans h2
      have h4 : Addr.add ⟨g, 0, none⟩ (k * d.sz + i) = ⟨g, k * d.sz + i, none⟩ := by
        unfold Addr.add
        split
        · rename_i h5; rw [h5]
        · simp
      rw [h4]
      exact h3
/-- Pages that stay. -/
structure PgL (W : World) (A : Option Addr) (n : Nat) (l : List S58) : Prop where
  len : l.length = n
  at_ : ∀ k, k < n → ∃ ad A1 c1, A = some ad ∧ (l.getD k z58).f1.length ≤ c1 ∧ ∀ W', KeepW W W' → W'.cell? (ad.add (k * 2)) = some (.int .i64 (l.getD k z58).f0) ∧ W'.cell? ⟨(ad.add (k * 2)).block, (ad.add (k * 2)).off + 1, none⟩ = some (.slice A1 (l.getD k z58).f1.length c1) ∧ Kd.C byteK W' A1 (l.getD k z58).f1.length (l.getD k z58).f1
theorem PgL.keep {W W' : World} {A : Option Addr} {n : Nat} {l : List S58} (h : PgL W A n l) (hk : KeepW W W') : PgL W' A n l :=
  ⟨h.len, fun k hk' => by
    obtain ⟨ad, A1, c1, h1, h2, h3⟩ := h.at_ k hk'
    exact ⟨ad, A1, c1, h1, h2, fun W2 h4 => h3 W2 (hk.trans h4)⟩⟩
theorem PgL.C {W : World} {A : Option Addr} {n : Nat} {l : List S58} (h : PgL W A n l) (hn : n ≤ 1000000) : Kd.C k58 W A n l := by
  refine ⟨h.len, by omega, fun h0 => ?_⟩
  obtain ⟨ad, _, _, hA, _⟩ := h.at_ 0 h0
  refine ⟨ad, hA, fun j p hj => ?_⟩
  have hj' : j < l.length := (List.getElem?_eq_some_iff.1 hj).1
  have hp : l.getD j z58 = p := by rw [List.getD_eq_getElem?_getD, hj]; rfl
  obtain ⟨ad', A1, c1, hA', h2, h3⟩ := h.at_ j (by rw [← h.len]; exact hj')
  rw [hA] at hA'
  injection hA' with hA'
  subst hA'
  obtain ⟨h4, h5, h6⟩ := h3 W (KeepW.refl _)
  rw [hp] at h2 h4 h5 h6
  refine ⟨[.int .i64 p.f0, .slice A1 p.f1.length c1], rfl, k58_mk W p h2 h6, fun i u hi => ?_⟩
  match i, hi with
  | 0, hi => simp at hi; subst hi; exact h4
  | 1, hi =>
    simp at hi; subst hi
    rw [← add_field _ _ 1 (by omega)] at h5
    exact h5
theorem pgL_of_R {W : World} {base : Nat} {ok : Nat → Prop} {v : Value} {l : List S58} (h : Kd.R k58 58 W base ok v l) : ∃ A c, v = .slice A l.length c ∧ l.length ≤ c ∧ PgL W A l.length l := by
  obtain ⟨A, c, hv, hc, hl⟩ := R_lie z58 h (by intro q hq; simp [k58, Kd.iso, Kd.pair, Kd.slice, Kd.int, Kd.scalar] at hq; omega)
  refine ⟨A, c, hv, hc, rfl, fun k hk => ?_⟩
  obtain ⟨ad, cs, hA, _, h1⟩ := hl k hk
  obtain ⟨v1, rfl, hv1⟩ := k58_openM (h1 W (KeepW.refl _)).1
  obtain ⟨A1, c1, rfl⟩ := Kd.R_slice hv1
  refine ⟨ad, A1, c1, hA, (Kd.R_reads' hv1).2.1, fun W' hk' => ?_⟩
  obtain ⟨h2, h3⟩ := h1 W' hk'
  obtain ⟨v2, he, hv2⟩ := k58_openM h2
  simp only [List.cons.injEq, and_true, true_and] at he
  subst he
  refine ⟨h3 0 _ rfl, ?_, (Kd.R_reads' hv2).2.2⟩
  rw [← add_field _ _ 1 (by omega)]
  exact h3 1 _ rfl
/-- Sectors that stay. -/
structure ScL (W : World) (A : Option Addr) (n : Nat) (l : List (List Int)) : Prop where
  len : l.length = n
  at_ : ∀ k, k < n → ∃ ad A1 c1, A = some ad ∧ (l.getD k []).length ≤ c1 ∧ ∀ W', KeepW W W' → W'.cell? (ad.add k) = some (.slice A1 (l.getD k []).length c1) ∧ Kd.C byteK W' A1 (l.getD k []).length (l.getD k [])
theorem ScL.keep {W W' : World} {A : Option Addr} {n : Nat} {l : List (List Int)} (h : ScL W A n l) (hk : KeepW W W') : ScL W' A n l :=
  ⟨h.len, fun k hk' => by
    obtain ⟨ad, A1, c1, h1, h2, h3⟩ := h.at_ k hk'
    exact ⟨ad, A1, c1, h1, h2, fun W2 h4 => h3 W2 (hk.trans h4)⟩⟩
theorem scL_of_R {W : World} {base : Nat} {ok : Nat → Prop} {v : Value} {l : List (List Int)} (h : Kd.R rowK 56 W base ok v l) : ∃ A c, v = .slice A l.length c ∧ l.length ≤ c ∧ ScL W A l.length l := by
  obtain ⟨A, c, hv, hc, hl⟩ := R_lie [] h (by intro q hq; simp [Kd.slice, Kd.int, Kd.scalar] at hq; omega)
  refine ⟨A, c, hv, hc, rfl, fun k hk => ?_⟩
  obtain ⟨ad, cs, hA, _, h1⟩ := hl k hk
  obtain ⟨v1, rfl, hv1⟩ := (h1 W (KeepW.refl _)).1
  obtain ⟨A1, c1, rfl⟩ := Kd.R_slice hv1
  refine ⟨ad, A1, c1, hA, (Kd.R_reads' hv1).2.1, fun W' hk' => ?_⟩
  obtain ⟨⟨v2, he, hv2⟩, h3⟩ := h1 W' hk'
  simp only [List.cons.injEq, and_true] at he
  subst he
  refine ⟨?_, (Kd.R_reads' hv2).2.2⟩
  have h4 := h3 0 _ rfl
  rwa [show rowK.sz = 1 from rfl, Nat.mul_one, Nat.add_zero] at h4
/-- Write. -/
theorem write_c (base g : Nat) (d : D) (i : Int) (A : Option Addr) (c : Nat) (b : List Int) (w W : World) (h : IsD base W g d) (hB : Below base w W) (hl : ∀ W', KeepW W W' → Kd.C byteK W' A b.length b) (ho : BytesOk b) (hcnt : d.cnt < 1000000) (hbase : base ≤ w.heap.size) :
    Calls Try.prog 52 #[.pointer (some ⟨g, 0, none⟩), .int .i64 i, .slice A b.length c] W fun e w' => e = .returned (.int .i64 (writeD d i b).2) ∧ IsD base w' g (writeD d i b).1 ∧ Below base w w' ∧ KeepD W w' := by
  by_cases hr : (writeD d i b).2 = 0
  · rw [hr]
    exact write_yes base g d i A c b w W h hB (fun W' h1 _ => hl W' h1.w) ho hr hcnt hbase
  · exact write_no base g d i A c b w W h hB (fun W' h1 _ => hl W' h1.w) hr
set_option maxRecDepth 100000 in
theorem Record_c (W : World) (seq : Int) (A : Option Addr) (n c : Nat) (l : List S58) (hC : Kd.C k58 W A n l) (hn : n ≤ 1000000) (h0 : 0 ≤ seq) (h1 : seq < 18446744073709551616) :
    Calls Try.prog 9 #[.int .u64 seq, .slice A n c] W fun e w' => ∃ v, e = .returned (.tuple #[v, .int .i64 (recE seq l)]) ∧ Kd.R rowK 56 w' W.heap.size tt v (recR seq l) ∧ Below W.heap.size W w' := by
  have HR := Aside0.mk (record_c W seq A n c l hC hn h0 h1)
  clear hC h0 h1
  generalize recE seq l = e0 at HR ⊢
  generalize recR seq l = r0 at HR ⊢
  go_enter Try.func9, Try.ntmps9
  go_wp2_with (go_at_call 37; refine HR.out.mono ?_; rintro e w1 ⟨v, rfl, h1, h2⟩; have HX := Aside0.mk (And.intro h1 h2); clear h1 h2)
  go_ret2
  exact ⟨v, rfl, HX.out⟩
set_option maxRecDepth 100000 in
theorem Scan_c (W : World) (A : Option Addr) (n c : Nat) (l : List (List Int)) (hC : rowK.C W A n l) (hcap : n ≤ c) (hn : n ≤ 1000000) (hb : ∀ s ∈ l, BytesOk s) :
    Calls Try.prog 11 #[.slice A n c] W fun e w' => ∃ (sq : Int) (out : List S58) (ok : Bool) (v : Value), e = .returned (.tuple #[.int .u64 sq, v, .bool ok]) ∧ ScanR l sq out ok ∧ Kd.R k58 58 w' W.heap.size tt v out ∧ Below W.heap.size W w' := by
  have HR := Aside0.mk (scan_c W A n c l hC hcap hn hb)
  clear hC hcap hn hb
  go_enter Try.func11, Try.ntmps11
  go_wp2_with (go_at_call 40; refine HR.out.mono ?_; rintro e w1 ⟨sq, out, ok, v, rfl, h1, h2, h3⟩; have HX := Aside0.mk (And.intro h1 (And.intro h2 h3)); clear h1 h2 h3)
  refine bodyPost_ret (results_list (rs := [.tmp 2, .tmp 3, .tmp 4]) rfl (by simp) (.tmp (.tmp (.tmp .nil)))) rfl ?_
  exact ⟨sq, out, ok, v, rfl, HX.out⟩
/-- Read of a page. -/
def readW (d : D) (no : Int) : D × List Int × Int := if thereB d.n no = true then readD d (64 + no) else (d, [], 1)
set_option maxRecDepth 100000 in
theorem wread_c (base gw g : Nat) (seq : Int) (d : D) (no : Int) (hi : I64 no) (w W : World) (hw : IsWl W gw g seq) (h : IsD base W g d) (hB : Below base w W) (hcnt : d.cnt ≤ 1000000) :
    Calls Try.prog 30 #[.pointer (some ⟨gw, 0, none⟩), .int .i64 no] W fun e w' => ∃ v, e = .returned (.tuple #[v, .int .i64 (readW d no).2.2]) ∧ IsD base w' g (readW d no).1 ∧ Below base w w' ∧ KeepD W w' ∧ Kd.R byteK 5 w' W.heap.size tt v (readW d no).2.1 := by
  have HT := Aside0.mk (there_c no hw h)
  unfold readW
  obtain ⟨r, hr⟩ : ∃ r, r = thereB d.n no := ⟨_, rfl⟩
  rw [← hr] at HT ⊢
  have c0 : W.cell? ⟨gw, 0, none⟩ = some (.pointer (some ⟨g, 0, none⟩)) := (blk_cell hw 0).trans rfl
  have f0 := blk_frozen hw 0
  cases r with
  | false =>
    have HI := Aside0.mk (And.intro h hB)
    clear hw h hB hr
    go_enter Try.func30, Try.ntmps30
    go_wp2_with (go_at_call 48; refine HT.out.mono ?_; rintro e w1 ⟨rfl, rfl⟩)
    go_ret2
    exact ⟨_, rfl, HI.out.1, HI.out.2, KeepD.refl _, Kd.R_nil _ _ _ _ _⟩
  | true =>
    have hn := of_decide_eq_true hr.symm
    have hn1 := h.1.n1
    have HR := Aside0.mk (read_calls base g d (64 + no) ⟨by have := hi.1; omega, by omega⟩ w W h hB hcnt)
    have b1 : 0 ≤ no ∧ no ≤ 5000 := by omega
    clear hw h hB hr hn hn1
    rw [if_pos rfl]
    obtain ⟨r3, hr3⟩ : ∃ r3, r3 = readD d (64 + no) := ⟨_, rfl⟩
    rw [← hr3] at HR ⊢
    clear hr3
    go_enter Try.func30, Try.ntmps30
    go_wp2_with (first
      | (go_at_call 48; refine HT.out.mono ?_; rintro e w1 ⟨rfl, rfl⟩)
      | (go_at_call 44; refine HR.out.mono ?_; rintro e w2 ⟨v, rfl, h1⟩; have HX := Aside0.mk h1; clear h1))
    go_ret2
    exact ⟨v, rfl, HX.out⟩
end Go.Proofs.Ytmghgghheebnjaa.Dis
