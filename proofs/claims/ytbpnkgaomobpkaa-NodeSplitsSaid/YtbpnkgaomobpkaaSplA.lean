/- slices.Clone, the closure of node.Split, and sort.Search with it, walked by hand (written by mkspla.py). -/
import Derived.Test.YtbpnkgaomobpkaaMrgV
import Derived.WalkSpells
namespace Go.Proofs.Ytbpnkgaomobpkaa.Mrg
open Go.RowKit Go.Proofs.Ytbpnkgaomobpkaa.PNxu Go.Proofs.YtbpnkgaomobpkaaW.PrintWords Go.Proofs.YtbpnkgaomobpkaaW.PrintLast Go.Proofs.YtbpnkgaomobpkaaW.PrintMore Go.Proofs.Ytbpnkgaomobpkaa.Pure
set_option linter.unusedVariables false
set_option linter.unusedSimpArgs false
set_option maxHeartbeats 4000000 in
set_option maxRecDepth 100000 in
theorem clone_s (W : World) (A : Option Addr) (n c : Nat) (l : List ByteArray) (hC : Kd.C Kd.string W A n l) (hl : n ≤ 1000000) : Calls Try.prog 39 #[.slice A n c] W fun e w' => ∃ v, e = .returned v ∧ RowR Kd.string 9 W.heap.size w' v l ∧ Below W.heap.size W w' := by
  have info : (Try.prog.info? 9).map (fun i => (i.zero, i.size, i.bytes)) = some (some (.string ⟨#[]⟩), 1, 16) := by kernel_rfl
  have INF := Aside0.mk info
  have HB := Aside0.mk (Below.refl W.heap.size W)
  have HC := Aside0.mk hC
  have hnil := fun (w : World) => Go.Lib.run_eql_slice_nil (P := Try.prog) w 22 9 A n c 0 0 Try.underlying22
  clear info hC
  by_cases hA : A = none
  · have hl0 : n = 0 := by
      by_cases h2 : 0 < n
      · obtain ⟨ad, h3, _⟩ := HC.out.2.2 h2
        rw [hA] at h3; cases h3
      · omega
    have hy : l = [] := List.eq_nil_of_length_eq_zero (by rw [HC.out.1]; exact hl0)
    subst hy
    rw [hl0, hA] at hnil ⊢
    go_enter Try.func39, Try.ntmps39
    go_wp2
    go_ret
    exact ⟨_, rfl, Kd.R_nil _ _ _ _ _, HB.out⟩
  obtain ⟨ad, rfl⟩ := Option.ne_none_iff_exists'.1 hA
  go_enter Try.func39, Try.ntmps39
  go_wp2_with (first
    | ((with_reducible refine gate_dst (N := 5) rfl ?_); refine Kd.R_lit Kd.string W.heap.size 9 ?hg (N := 5) ?hd (xs := ([] : List ByteArray)) (inner := []) (ok := tt) (okp := tt) ?hr ?hp (fun _ hk => hk) trivial (Below.refl _ _) (Nat.le_refl _) (by simp) ?_; (case hd => rfl); (case hg => rfl); (case hr => first | (go_simp; done) | (go_simp; rfl)); (case hp => exact (Reps.none _ _)); intro v3 w3 ho hb hg_ hnew_; have HO := Aside0.mk ho; have HB3 := Aside0.mk hb; have HC3 := Aside0.mk (Kd.C_below HC.out hb); clear hg_ hnew_ ho hb)
    | ((with_reducible refine gate_dst (N := 7) rfl ?_); at_builtin; refine Kd.R_append_rows Kd.string (w0 := W) W.heap.size rfl (.tmp 5) (.tmp 6) 22 9 (.string ⟨#[]⟩) 16 rfl Try.underlying22 INF.out rfl (by decide) (by decide) v3 [] l (some ad) n c tt (fun _ => False) rfl rfl HO.out HC3.out (fun _ _ h => h) (fun _ h => h.elim) (fun _ _ => trivial) HB3.out HB3.out.size ?aL ?_; (case aL => simp; omega); intro v6 w12 ho hb hg hat; rw [List.nil_append] at ho; have HO7 := Aside0.mk ho; have HB7 := Aside0.mk hb; clear ho hb hg hat))
  go_ret
  exact ⟨_, rfl, HO7.out, HB7.out⟩
set_option maxHeartbeats 4000000 in
set_option maxRecDepth 100000 in
theorem clone_i (W : World) (A : Option Addr) (n c : Nat) (l : List Int) (hC : Kd.C (Kd.int .i64) W A n l) (hl : n ≤ 1000000) : Calls Try.prog 40 #[.slice A n c] W fun e w' => ∃ v, e = .returned v ∧ RowR (Kd.int .i64) 3 W.heap.size w' v l ∧ Below W.heap.size W w' := by
  have info : (Try.prog.info? 3).map (fun i => (i.zero, i.size, i.bytes)) = some (some (.int .i64 0), 1, 8) := by kernel_rfl
  have INF := Aside0.mk info
  have HB := Aside0.mk (Below.refl W.heap.size W)
  have HC := Aside0.mk hC
  have hnil := fun (w : World) => Go.Lib.run_eql_slice_nil (P := Try.prog) w 23 3 A n c 0 0 Try.underlying23
  clear info hC
  by_cases hA : A = none
  · have hl0 : n = 0 := by
      by_cases h2 : 0 < n
      · obtain ⟨ad, h3, _⟩ := HC.out.2.2 h2
        rw [hA] at h3; cases h3
      · omega
    have hy : l = [] := List.eq_nil_of_length_eq_zero (by rw [HC.out.1]; exact hl0)
    subst hy
    rw [hl0, hA] at hnil ⊢
    go_enter Try.func40, Try.ntmps40
    go_wp2
    go_ret
    exact ⟨_, rfl, Kd.R_nil _ _ _ _ _, HB.out⟩
  obtain ⟨ad, rfl⟩ := Option.ne_none_iff_exists'.1 hA
  go_enter Try.func40, Try.ntmps40
  go_wp2_with (first
    | ((with_reducible refine gate_dst (N := 5) rfl ?_); refine Kd.R_lit (Kd.int .i64) W.heap.size 3 ?hg (N := 5) ?hd (xs := ([] : List Int)) (inner := []) (ok := tt) (okp := tt) ?hr ?hp (fun _ hk => hk) trivial (Below.refl _ _) (Nat.le_refl _) (by simp) ?_; (case hd => rfl); (case hg => rfl); (case hr => first | (go_simp; done) | (go_simp; rfl)); (case hp => exact (Reps.none _ _)); intro v3 w3 ho hb hg_ hnew_; have HO := Aside0.mk ho; have HB3 := Aside0.mk hb; have HC3 := Aside0.mk (Kd.C_below HC.out hb); clear hg_ hnew_ ho hb)
    | ((with_reducible refine gate_dst (N := 7) rfl ?_); at_builtin; refine Kd.R_append_rows (Kd.int .i64) (w0 := W) W.heap.size rfl (.tmp 5) (.tmp 6) 23 3 (.int .i64 0) 8 rfl Try.underlying23 INF.out rfl (by decide) (by decide) v3 [] l (some ad) n c tt (fun _ => False) rfl rfl HO.out HC3.out (fun _ _ h => h) (fun _ h => h.elim) (fun _ _ => trivial) HB3.out HB3.out.size ?aL ?_; (case aL => simp; omega); intro v6 w12 ho hb hg hat; rw [List.nil_append] at ho; have HO7 := Aside0.mk ho; have HB7 := Aside0.mk hb; clear ho hb hg hat))
  go_ret
  exact ⟨_, rfl, HO7.out, HB7.out⟩
/-- What sort.Search asks: whether so many keys are too many. -/
theorem over_c {w : World} {g : Nat} {p : At} {b : Bool} {K V : List ByteArray} {D : List Int} (hg : w.heap[g]? = some (.cells #[.bool b, .slice p.a1 K.length p.c1, .slice p.a2 V.length p.c2, .slice p.a3 D.length p.c3] 25 (0, 0))) (h : Bk w p b K V D) (hK : Small K) (hV : Small V) (i : Nat) (hi : i + 1 ≤ K.length) (hb : b = true → i + 1 ≤ V.length) :
    Calls Try.prog 38 #[.int .i64 i, .pointer (some ⟨g, 0, none⟩)] w fun e w' => e = .returned (.bool (decide (509 < needTo b K V (i + 1)))) ∧ Below w.heap.size w w' := by
  have hn := nneed_c h hK hV (i + 1) hi hb
  obtain ⟨c0, c1, c2, c3⟩ := cells_of hg
  obtain ⟨N, hN⟩ : ∃ N, N = needTo b K V (i + 1) := ⟨_, rfl⟩
  rw [← hN] at hn ⊢
  have hk := hK.1
  have HN := Aside0.mk hn
  clear hn hg h hN
  go_enter Try.func38, Try.ntmps38
  go_wp2_with (go_at_call 36; refine HN.out.mono ?_; rintro e w1 ⟨rfl, h1⟩; have HB := Aside0.mk h1; clear h1)
  go_ret
  exact ⟨rfl, HB.out⟩
/-- Where a block is parted: the most keys that have room. -/
def IsCut (b : Bool) (K V : List ByteArray) (m c : Nat) : Prop := c ≤ m ∧ needTo b K V c ≤ 509 ∧ (c = m ∨ 509 < needTo b K V (c + 1))
theorem cut_one {b : Bool} {K V : List ByteArray} (hK : Small K) (hV : Small V) {m c c' : Nat} (h : IsCut b K V m c) (h' : IsCut b K V m c') : c = c' := by
  rcases Nat.lt_trichotomy c c' with hlt | he | hlt
  · exfalso
    rcases h.2.2 with h1 | h1
    · have := h'.1; omega
    · have := need_mono b K V hK hV (show c + 1 ≤ c' from hlt)
      have := h'.2.1
      omega
  · exact he
  · exfalso
    rcases h'.2.2 with h1 | h1
    · have := h.1; omega
    · have := need_mono b K V hK hV (show c' + 1 ≤ c from hlt)
      have := h.2.1
      omega
set_option maxHeartbeats 8000000 in
set_option maxRecDepth 100000 in
theorem search_c (W : World) (g : Nat) (p : At) (b : Bool) (K V : List ByteArray) (D : List Int) (hg : W.heap[g]? = some (.cells #[.bool b, .slice p.a1 K.length p.c1, .slice p.a2 V.length p.c2, .slice p.a3 D.length p.c3] 25 (0, 0))) (h : Bk W p b K V D) (hK : Small K) (hV : Small V) (m : Nat) (hm : m ≤ K.length) (hb : b = true → m ≤ V.length) :
    Calls Try.prog 37 #[.int .i64 m, .func (.func 38) #[] #[.pointer (some ⟨g, 0, none⟩)]] W fun e w' => ∃ c, e = .returned (.int .i64 (c : Nat)) ∧ IsCut b K V m c ∧ Below W.heap.size W w' := by
  have HOV := Aside0.mk (fun (w : World) (hB : Below W.heap.size W w) (i : Nat) (hi : i < m) => over_c (blk_below hg hB) (h.below hB) hK hV i (by omega) (fun e => by have := hb e; omega))
  have HS := Aside0.mk (And.intro hK hV)
  have hk := hK.1
  have hm2 : m ≤ 100000 := by omega
  have HB0 := Aside0.mk (Below.refl W.heap.size W)
  have hn0 : needTo b K V 0 ≤ 509 := by unfold needTo; cases b <;> simp
  clear hg h hK hV hb hk
  go_enter Try.func37, Try.ntmps37
  go_wp2_with fail
  go_loopw [5, 6] (fun y x wr => ∃ (lo hi : Nat), lo ≤ hi ∧ hi ≤ m ∧ y = .int .i64 lo ∧ x = .int .i64 hi ∧ needTo b K V lo ≤ 509 ∧ (hi = m ∨ 509 < needTo b K V (hi + 1)) ∧ Aside0 (Below W.heap.size W wr)) (fun y x _ => (intOf x).toNat - (intOf y).toNat)
  case atStart => exact ⟨0, m, Nat.zero_le _, Nat.le_refl _, rfl, rfl, hn0, .inl rfl, HB0⟩
  case round =>
    obtain ⟨lo, hi, hlh, hhm, rfl, rfl, hlo, hhi, HBk⟩ := hrel
    by_cases hlt : lo < hi
    · have e1 : decide ((lo : Int) < hi) = true := decide_eq_true (by omega)
      go_upto_region 4 with fail
      obtain ⟨h, hh⟩ : ∃ h : Nat, h = (lo + hi) / 2 := ⟨_, rfl⟩
      have eh : ((lo : Int) + (hi : Int)) / 2 = (h : Int) := by omega
      have h1 : lo ≤ h ∧ h < hi := by omega
      rw [eh]
      have hov := fun (w : World) (hB : Below W.heap.size W w) => HOV.out w hB h (by omega)
      obtain ⟨N, hN⟩ : ∃ N, N = needTo b K V (h + 1) := ⟨_, rfl⟩
      rw [← hN] at hov
      have HV := Aside0.mk hov
      have HNN := Aside0.mk hN
      clear hov hN hh eh
      by_cases hc : 509 < N
      · have e2 : decide (509 < N) = true := decide_eq_true hc
        rw [e2] at HV
        go_wp2_with (go_at_call 38; refine (HV.out wr HBk.out).mono ?_; rintro e w1 ⟨rfl, h1⟩; have HB1 := Aside0.mk (HBk.out.trans (h1.mono HBk.out.size)); clear h1)
        go_roundw
        case rel => exact ⟨lo, h, by omega, by omega, rfl, rfl, hlo, .inr (by rw [← HNN.out]; exact hc), HB1⟩
        case measure => simp [intOf]; omega
      · have e2 : decide (509 < N) = false := decide_eq_false hc
        rw [e2] at HV
        go_wp2_with (go_at_call 38; refine (HV.out wr HBk.out).mono ?_; rintro e w1 ⟨rfl, h1⟩; have HB1 := Aside0.mk (HBk.out.trans (h1.mono HBk.out.size)); clear h1)
        go_roundw
        case rel => exact ⟨h + 1, hi, by omega, by omega, by go_num, rfl, by rw [← HNN.out]; omega, hhi, HB1⟩
        case measure => simp [intOf]; omega
    · obtain rfl : lo = hi := by omega
      have e1 : decide ((lo : Int) < lo) = false := decide_eq_false (by omega)
      go_wp2
      go_ret
      exact ⟨lo, rfl, ⟨hhm, hlo, hhi⟩, HBk.out⟩
end Go.Proofs.Ytbpnkgaomobpkaa.Mrg
