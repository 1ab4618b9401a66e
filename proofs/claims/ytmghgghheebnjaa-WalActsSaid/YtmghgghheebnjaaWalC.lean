/- Wal: pages, there; the closures; IndexFunc, ContainsFunc (written by mkwalc.py). -/
import Derived.Test.YtmghgghheebnjaaWalB
namespace Go.Proofs.Ytmghgghheebnjaa.Dis
open Go.RowKit Go.Proofs.YtmghgghheebnjaaW.PrintWords Go.Proofs.YtmghgghheebnjaaW.PrintLast Go.Proofs.YtmghgghheebnjaaW.PrintMore Go.Maps Go.Proofs.Ytmghgghheebnjaa.PWalRecords
set_option linter.unusedVariables false
set_option linter.unusedSimpArgs false
/-- The wal's own block. -/
def IsWl (w : World) (gw g : Nat) (seq : Int) : Prop := w.heap[gw]? = some (.cells #[.pointer (some ⟨g, 0, none⟩), .int .u64 seq] 81 (0, 0))
theorem IsWl.below {w w' : World} {gw g : Nat} {seq : Int} (h : IsWl w gw g seq) (hb : Below w.heap.size w w') : IsWl w' gw g seq := blk_below h hb
theorem IsWl.keep {w w' : World} {gw g : Nat} {seq : Int} (h : IsWl w gw g seq) (hb : KeepD w w') : IsWl w' gw g seq := hb.2 _ _ _ _ h (by decide) (by decide)
theorem pages_c {base gw g : Nat} {seq : Int} {d : D} {W : World} (hw : IsWl W gw g seq) (h : IsD base W g d) : Calls Try.prog 57 #[.pointer (some ⟨gw, 0, none⟩)] W fun e w' => e = .returned (.int .i64 (d.n - 64)) ∧ w' = W := by
  have c0 : W.cell? ⟨gw, 0, none⟩ = some (.pointer (some ⟨g, 0, none⟩)) := (blk_cell hw 0).trans rfl
  have f0 := blk_frozen hw 0
  have h0 := h.1.n0
  have h1 := h.1.n1
  have HS := Aside0.mk (sectors_calls base g d W h)
  clear hw h
  obtain ⟨n, hn⟩ : ∃ n, n = d.n := ⟨_, rfl⟩
  rw [← hn] at h0 h1 HS ⊢
  clear hn
  go_enter Try.func57, Try.ntmps57
  go_wp2_with (go_at_call 43; refine HS.out.mono ?_; rintro e w1 ⟨rfl, rfl⟩)
  go_ret
  exact ⟨by go_num, rfl⟩
def thereB (n no : Int) : Bool := decide (0 ≤ no ∧ no < n - 64)
theorem there_c {base gw g : Nat} {seq : Int} {d : D} {W : World} (no : Int) (hw : IsWl W gw g seq) (h : IsD base W g d) : Calls Try.prog 48 #[.pointer (some ⟨gw, 0, none⟩), .int .i64 no] W fun e w' => e = .returned (.bool (thereB d.n no)) ∧ w' = W := by
  have HS := Aside0.mk (pages_c hw h)
  clear hw h
  unfold thereB
  generalize d.n = n at HS ⊢
  by_cases h0 : 0 ≤ no
  · by_cases h1 : no < n - 64
    · have e0 : decide (0 ≤ no) = true := decide_eq_true h0
      have e1 : decide (no < n - 64) = true := decide_eq_true h1
      rw [decide_eq_true (show 0 ≤ no ∧ no < n - 64 from ⟨h0, h1⟩)]
      go_enter Try.func48, Try.ntmps48
      go_wp2_with (go_at_call 57; refine HS.out.mono ?_; rintro e w1 ⟨rfl, rfl⟩)
      go_ret
      exact ⟨rfl, rfl⟩
    · have e0 : decide (0 ≤ no) = true := decide_eq_true h0
      have e1 : decide (no < n - 64) = false := decide_eq_false h1
      rw [decide_eq_false (show ¬ (0 ≤ no ∧ no < n - 64) from fun h => h1 h.2)]
      go_enter Try.func48, Try.ntmps48
      go_wp2_with (go_at_call 57; refine HS.out.mono ?_; rintro e w1 ⟨rfl, rfl⟩)
      go_ret
      exact ⟨rfl, rfl⟩
  · have e0 : decide (0 ≤ no) = false := decide_eq_false h0
    rw [decide_eq_false (show ¬ (0 ≤ no ∧ no < n - 64) from fun h => h0 h.1)]
    go_enter Try.func48, Try.ntmps48
    go_wp2
    go_ret
    exact ⟨rfl, rfl⟩
theorem pagesm_c {base gw g : Nat} {seq : Int} {d : D} {W : World} (hw : IsWl W gw g seq) (h : IsD base W g d) : Calls Try.prog 29 #[.pointer (some ⟨gw, 0, none⟩)] W fun e w' => e = .returned (.int .i64 (d.n - 64)) ∧ w' = W := by
  have HS := Aside0.mk (pages_c hw h)
  clear hw h
  go_enter Try.func29, Try.ntmps29
  go_wp2_with (go_at_call 57; refine HS.out.mono ?_; rintro e w1 ⟨rfl, rfl⟩)
  go_ret
  exact ⟨rfl, rfl⟩
theorem seq_c {gw g : Nat} {seq : Int} {W : World} (hw : IsWl W gw g seq) : Calls Try.prog 24 #[.pointer (some ⟨gw, 0, none⟩)] W fun e w' => e = .returned (.int .u64 seq) ∧ w' = W := by
  have c0 : W.cell? ⟨gw, 1, none⟩ = some (.int .u64 seq) := (blk_cell hw 1).trans rfl
  have f0 := blk_frozen hw 1
  clear hw
  go_enter Try.func24, Try.ntmps24
  go_wp2
  go_ret
  exact ⟨rfl, rfl⟩
/-! ### The closures -/
def badB (no : Int) (n : Nat) : Bool := decide (no < 0) || (decide (2147483647 < no) || !decide (n = 512))
theorem rec1_c (w : World) (no : Int) (A : Option Addr) (n c : Nat) : Calls Try.prog 63 #[.agg #[.int .i64 no, .slice A n c]] w fun e w' => e = .returned (.bool (badB no n)) ∧ Below w.heap.size w w' := by
  unfold badB
  by_cases h0 : no < 0
  · have e0 : decide (no < 0) = true := decide_eq_true h0
    rw [e0]
    go_enter Try.func63, Try.ntmps63
    go_wp2
    go_ret
    exact ⟨by rfl, below_alloc (Below.refl _ _) _⟩
  · have e0 : decide (no < 0) = false := decide_eq_false h0
    rw [e0]
    by_cases h1 : 2147483647 < no
    · have e1 : decide (2147483647 < no) = true := decide_eq_true h1
      rw [e1]
      go_enter Try.func63, Try.ntmps63
      go_wp2
      go_ret
      exact ⟨by rfl, below_alloc (Below.refl _ _) _⟩
    · have e1 : decide (2147483647 < no) = false := decide_eq_false h1
      rw [e1]
      by_cases h2 : n = 512
      · subst h2
        go_enter Try.func63, Try.ntmps63
        go_wp2
        go_ret
        exact ⟨by rfl, below_alloc (Below.refl _ _) _⟩
      · have e2 : ((n : Int) != 512) = true := by simp; omega
        rw [decide_eq_false h2]
        go_enter Try.func63, Try.ntmps63
        go_wp2
        go_ret
        exact ⟨by rfl, below_alloc (Below.refl _ _) _⟩
theorem open1_c {base gw g gb : Nat} {seq : Int} {d : D} (w : World) (no : Int) (A : Option Addr) (n c : Nat) (hb : w.heap[gb]? = some (.cells #[.pointer (some ⟨gw, 0, none⟩)] 39 (0, 0))) (hw : IsWl w gw g seq) (h : IsD base w g d) :
    Calls Try.prog 47 #[.agg #[.int .i64 no, .slice A n c], .pointer (some ⟨gb, 0, none⟩)] w fun e w' => e = .returned (.bool (!thereB d.n no)) ∧ Below w.heap.size w w' := by
  have HBX := Aside0.mk hb
  have HS := Aside0.mk (fun (w' : World) (hB : Below w.heap.size w w') => there_c no (hw.below hB) (h.below hB))
  clear hb hw h
  generalize thereB d.n no = r at HS ⊢
  go_enter Try.func47, Try.ntmps47
  go_upto_region 1 with fail
  obtain ⟨w0, hw0⟩ : ∃ w0, w0 = w.alloc (.cells #[.int .i64 no, .slice A n c] 58) := ⟨_, rfl⟩
  have hb0 : Below w.heap.size w w0 := by rw [hw0]; exact below_alloc (Below.refl _ _) _
  have q0 : w0.heap[w.heap.size]? = some (.cells #[.int .i64 no, .slice A n c] 58 (0, 0)) := by rw [hw0]; exact blk_new w _
  rw [← hw0]
  clear hw0
  obtain ⟨gp, hgp⟩ : ∃ gp, gp = w.heap.size := ⟨_, rfl⟩
  rw [← hgp] at q0 ⊢
  clear hgp
  have p0 : w0.cell? ⟨gp, 0, none⟩ = some (.int .i64 no) := (blk_cell q0 0).trans rfl
  have p1 : w0.cell? ⟨gp, 1, none⟩ = some (.slice A n c) := (blk_cell q0 1).trans rfl
  have c0 : w0.cell? ⟨gb, 0, none⟩ = some (.pointer (some ⟨gw, 0, none⟩)) := (blk_cell (blk_below HBX.out hb0) 0).trans rfl
  have HB0 := Aside0.mk hb0
  clear hb0 q0
  go_wp2_with (go_at_call 48; refine (HS.out w0 HB0.out).mono ?_; rintro e w1 ⟨rfl, rfl⟩)
  go_ret
  exact ⟨rfl, HB0.out⟩
theorem commit1_c {base gw g gb : Nat} {seq : Int} {d : D} (w : World) (no : Int) (A : Option Addr) (n c : Nat) (hb : w.heap[gb]? = some (.cells #[.pointer (some ⟨gw, 0, none⟩)] 39 (0, 0))) (hw : IsWl w gw g seq) (h : IsD base w g d) :
    Calls Try.prog 51 #[.agg #[.int .i64 no, .slice A n c], .pointer (some ⟨gb, 0, none⟩)] w fun e w' => e = .returned (.bool (!thereB d.n no || !decide (n = 512))) ∧ Below w.heap.size w w' := by
  have HBX := Aside0.mk hb
  have HS := Aside0.mk (fun (w' : World) (hB : Below w.heap.size w w') => there_c no (hw.below hB) (h.below hB))
  clear hb hw h
  generalize thereB d.n no = r at HS ⊢
  cases r with
  | false =>
    go_enter Try.func51, Try.ntmps51
    go_upto_region 1 with fail
    obtain ⟨w0, hw0⟩ : ∃ w0, w0 = w.alloc (.cells #[.int .i64 no, .slice A n c] 58) := ⟨_, rfl⟩
    have hb0 : Below w.heap.size w w0 := by rw [hw0]; exact below_alloc (Below.refl _ _) _
    have q0 : w0.heap[w.heap.size]? = some (.cells #[.int .i64 no, .slice A n c] 58 (0, 0)) := by rw [hw0]; exact blk_new w _
    rw [← hw0]
    clear hw0
    obtain ⟨gp, hgp⟩ : ∃ gp, gp = w.heap.size := ⟨_, rfl⟩
    rw [← hgp] at q0 ⊢
    clear hgp
    have p0 : w0.cell? ⟨gp, 0, none⟩ = some (.int .i64 no) := (blk_cell q0 0).trans rfl
    have p1 : w0.cell? ⟨gp, 1, none⟩ = some (.slice A n c) := (blk_cell q0 1).trans rfl
    have c0 : w0.cell? ⟨gb, 0, none⟩ = some (.pointer (some ⟨gw, 0, none⟩)) := (blk_cell (blk_below HBX.out hb0) 0).trans rfl
    have HB0 := Aside0.mk hb0
    clear hb0 q0
    go_wp2_with (go_at_call 48; refine (HS.out w0 HB0.out).mono ?_; rintro e w1 ⟨rfl, rfl⟩)
    go_ret
    exact ⟨rfl, HB0.out⟩
  | true =>
    by_cases h2 : n = 512
    · rw [decide_eq_true h2]
      have e2 : ((n : Int) != 512) = false := by simp [h2]
      clear h2
      go_enter Try.func51, Try.ntmps51
      go_upto_region 1 with fail
      obtain ⟨w0, hw0⟩ : ∃ w0, w0 = w.alloc (.cells #[.int .i64 no, .slice A n c] 58) := ⟨_, rfl⟩
      have hb0 : Below w.heap.size w w0 := by rw [hw0]; exact below_alloc (Below.refl _ _) _
      have q0 : w0.heap[w.heap.size]? = some (.cells #[.int .i64 no, .slice A n c] 58 (0, 0)) := by rw [hw0]; exact blk_new w _
      rw [← hw0]
      clear hw0
      obtain ⟨gp, hgp⟩ : ∃ gp, gp = w.heap.size := ⟨_, rfl⟩
      rw [← hgp] at q0 ⊢
      clear hgp
      have p0 : w0.cell? ⟨gp, 0, none⟩ = some (.int .i64 no) := (blk_cell q0 0).trans rfl
      have p1 : w0.cell? ⟨gp, 1, none⟩ = some (.slice A n c) := (blk_cell q0 1).trans rfl
      have c0 : w0.cell? ⟨gb, 0, none⟩ = some (.pointer (some ⟨gw, 0, none⟩)) := (blk_cell (blk_below HBX.out hb0) 0).trans rfl
      have HB0 := Aside0.mk hb0
      clear hb0 q0
      go_wp2_with (go_at_call 48; refine (HS.out w0 HB0.out).mono ?_; rintro e w1 ⟨rfl, rfl⟩)
      go_ret
      exact ⟨by rfl, HB0.out⟩
    · have e2 : ((n : Int) != 512) = true := by simp; omega
      rw [decide_eq_false h2]
      go_enter Try.func51, Try.ntmps51
      go_upto_region 1 with fail
      obtain ⟨w0, hw0⟩ : ∃ w0, w0 = w.alloc (.cells #[.int .i64 no, .slice A n c] 58) := ⟨_, rfl⟩
      have hb0 : Below w.heap.size w w0 := by rw [hw0]; exact below_alloc (Below.refl _ _) _
      have q0 : w0.heap[w.heap.size]? = some (.cells #[.int .i64 no, .slice A n c] 58 (0, 0)) := by rw [hw0]; exact blk_new w _
      rw [← hw0]
      clear hw0
      obtain ⟨gp, hgp⟩ : ∃ gp, gp = w.heap.size := ⟨_, rfl⟩
      rw [← hgp] at q0 ⊢
      clear hgp
      have p0 : w0.cell? ⟨gp, 0, none⟩ = some (.int .i64 no) := (blk_cell q0 0).trans rfl
      have p1 : w0.cell? ⟨gp, 1, none⟩ = some (.slice A n c) := (blk_cell q0 1).trans rfl
      have c0 : w0.cell? ⟨gb, 0, none⟩ = some (.pointer (some ⟨gw, 0, none⟩)) := (blk_cell (blk_below HBX.out hb0) 0).trans rfl
      have HB0 := Aside0.mk hb0
      clear hb0 q0
      go_wp2_with (go_at_call 48; refine (HS.out w0 HB0.out).mono ?_; rintro e w1 ⟨rfl, rfl⟩)
      go_ret
      exact ⟨by rfl, HB0.out⟩
/-- Where the first page is of which it is said, or -1. -/
def IsIdx (P : S58 → Bool) (l : List S58) (r : Int) : Prop := (r = -1 ∧ ∀ p ∈ l, P p = false) ∨ (∃ k : Nat, k < l.length ∧ r = (k : Int) ∧ P (l.getD k z58) = true ∧ ∀ j, j < k → P (l.getD j z58) = false)
theorem rd58 (l : List S58) (k : Nat) : rd_T58 l (k : Int) = l.getD k z58 := by show l.getD ((k : Int)).toNat z58 = _; rw [Int.toNat_natCast]
theorem idx_yes {P : S58 → Bool} {l : List S58} {r : Int} (h : IsIdx P l r) (ha : l.any P = true) : 0 ≤ r := by
  rcases h with ⟨_, h⟩ | ⟨k, _, rfl, _⟩
  · obtain ⟨p, hp, hb⟩ := List.any_eq_true.1 ha
    rw [h p hp] at hb; cases hb
  · omega
theorem idx_no {P : S58 → Bool} {l : List S58} {r : Int} (h : IsIdx P l r) (ha : l.any P = false) : r = -1 := by
  rcases h with ⟨h, _⟩ | ⟨k, hk, rfl, hp, _⟩
  · exact h
  · have h3 := List.any_eq_false.1 ha (l.getD k z58) (by rw [List.getD_eq_getElem?_getD, List.getElem?_eq_getElem hk]; exact List.getElem_mem hk)
    exact absurd hp h3
/-- A page of a row. -/
theorem at58 {w : World} {A : Option Addr} {n : Nat} {l : List S58} (h : Kd.C k58 w A n l) (k : Nat) (hk : k < n) : ∃ ad A1 c1, A = some ad ∧ w.cell? (ad.add (k * 2)) = some (.int .i64 (l.getD k z58).f0) ∧ w.cell? ⟨(ad.add (k * 2)).block, (ad.add (k * 2)).off + 1, none⟩ = some (.slice A1 (l.getD k z58).f1.length c1) ∧ (l.getD k z58).f1.length ≤ c1 ∧ (Kd.int .u8).C w A1 (l.getD k z58).f1.length (l.getD k z58).f1 := by
  obtain ⟨ad, A1, c1, h1, h2, h3, h4, h5⟩ := at_T58 h (k : Int) (by omega) (by omega)
  rw [Int.toNat_natCast] at h2 h3
  rw [rd58] at h2 h3 h4 h5
  exact ⟨ad, A1, c1, h1, h2, h3, h4, h5⟩
set_option maxHeartbeats 4000000 in
set_option maxRecDepth 100000 in
theorem index63_c {W : World} {A : Option Addr} {n c : Nat} {l : List S58} (hC : Kd.C k58 W A n l) (hn : n ≤ 1000000) :
    Calls Try.prog 70 #[.slice A n c, .func (.func 63) #[] #[]] W fun e w' => ∃ r : Int, e = .returned (.int .i64 r) ∧ IsIdx (fun p => badB p.f0 p.f1.length) l r ∧ Below W.heap.size W w' := by
  have HC := Aside0.mk hC
  have HB := Aside0.mk (Below.refl W.heap.size W)
  have HP := Aside0.mk (fun (w' : World) (hB : Below W.heap.size W w') (no : Int) (A' : Option Addr) (n' c' : Nat) => rec1_c w' no A' n' c')
  have HL := Aside0.mk hC.1
  clear hC
  go_enter Try.func70, Try.ntmps70
  go_wp2_with fail
  go_loopw [8] (fun x wr => ∃ (k : Nat), k ≤ n ∧ x = .int .i64 k ∧ Aside0 (∀ j, j < k → (fun p => badB p.f0 p.f1.length) (l.getD j z58) = false) ∧ Aside0 (Below W.heap.size W wr)) (fun x _ => n - (intOf x).toNat)
  case atStart => exact ⟨0, Nat.zero_le _, rfl, ⟨fun j h => absurd h (Nat.not_lt_zero _)⟩, HB⟩
  case round =>
    obtain ⟨k, hk, rfl, HF, HBk⟩ := hrel
    by_cases hlt : k < n
    · have e1 : decide ((k : Int) < n) = true := decide_eq_true (by omega)
      obtain ⟨ad, A1, c1, hA, h0, h1, h2, _⟩ := at58 (Kd.C_below HC.out HBk.out) k hlt
      subst hA
      obtain ⟨x, hx⟩ : ∃ x, x = l.getD k z58 := ⟨_, rfl⟩
      rw [← hx] at h0 h1 h2
      have HX := Aside0.mk hx
      obtain ⟨r, hr⟩ : ∃ r, r = (fun p => badB p.f0 p.f1.length) x := ⟨_, rfl⟩
      have hp := HP.out wr HBk.out x.f0 A1 x.f1.length c1
      rw [show (badB x.f0 x.f1.length) = r from hr.symm] at hp
      have HQ := Aside0.mk hp
      have HRR := Aside0.mk hr
      clear hx hr hp h2
      obtain ⟨n1, hn1⟩ : ∃ n1, n1 = x.f1.length := ⟨_, rfl⟩
      obtain ⟨no, hno⟩ : ∃ no, no = x.f0 := ⟨_, rfl⟩
      rw [← hn1, ← hno] at HQ
      rw [← hn1] at h1
      rw [← hno] at h0
      clear hn1 hno
      cases r with
      | true =>
        go_wp2_with (go_at_call 63; refine HQ.out.mono ?_; rintro e w1 ⟨rfl, h1⟩; have HB1 := Aside0.mk (HBk.out.trans (h1.mono HBk.out.size)); clear h1)
        go_ret
        exact ⟨(k : Int), rfl, .inr ⟨k, by rw [HL.out]; exact hlt, rfl, by rw [← HX.out]; exact HRR.out.symm, HF.out⟩, HB1.out⟩
      | false =>
        go_wp2_with (go_at_call 63; refine HQ.out.mono ?_; rintro e w1 ⟨rfl, h1⟩; have HB1 := Aside0.mk (HBk.out.trans (h1.mono HBk.out.size)); clear h1)
        go_roundw
        case rel => exact ⟨k + 1, by omega, by go_num, ⟨fun j hj => by
          by_cases e : j = k
          · subst e; rw [← HX.out]; exact HRR.out.symm
          · exact HF.out j (by omega)⟩, HB1⟩
        case measure => simp [intOf]; omega
    · obtain rfl : k = n := by omega
      have e1 : decide ((k : Int) < k) = false := decide_eq_false (by omega)
      go_wp2
      go_ret
      exact ⟨-1, rfl, .inl ⟨rfl, fun p hp => by
        obtain ⟨j, hj, rfl⟩ := List.getElem_of_mem hp
        have := HF.out j (by rw [← HL.out]; exact hj)
        rwa [List.getD_eq_getElem?_getD, List.getElem?_eq_getElem hj] at this⟩, HBk.out⟩
set_option maxHeartbeats 4000000 in
set_option maxRecDepth 100000 in
theorem contains63_c {W : World} {A : Option Addr} {n c : Nat} {l : List S58} (hC : Kd.C k58 W A n l) (hn : n ≤ 1000000) :
    Calls Try.prog 50 #[.slice A n c, .func (.func 63) #[] #[]] W fun e w' => e = .returned (.bool (l.any (fun p => badB p.f0 p.f1.length))) ∧ Below W.heap.size W w' := by
  have HI := Aside0.mk (index63_c (c := c) hC hn)
  clear hC
  obtain ⟨r, hr⟩ : ∃ r, r = l.any (fun p => badB p.f0 p.f1.length) := ⟨_, rfl⟩
  rw [← hr]
  have HR := Aside0.mk hr
  clear hr
  go_enter Try.func50, Try.ntmps50
  cases r with
  | true =>
    go_wp2_with (go_at_call 70; refine HI.out.mono ?_; rintro e w1 ⟨r, rfl, h1, h2⟩; have hr0 : 0 ≤ r := idx_yes h1 HR.out.symm; have e1 : decide (0 ≤ r) = true := decide_eq_true hr0; have HB1 := Aside0.mk h2; clear h1 h2 hr0)
    go_ret
    exact ⟨rfl, HB1.out⟩
  | false =>
    go_wp2_with (go_at_call 70; refine HI.out.mono ?_; rintro e w1 ⟨r, rfl, h1, h2⟩; have hr0 : r = -1 := idx_no h1 HR.out.symm; subst hr0; have HB1 := Aside0.mk h2; clear h1 h2)
    go_ret
    exact ⟨rfl, HB1.out⟩
set_option maxHeartbeats 4000000 in
set_option maxRecDepth 100000 in
theorem index51_c {base gw g gb : Nat} {seq : Int} {d : D} {W : World} {A : Option Addr} {n c : Nat} {l : List S58} (hC : Kd.C k58 W A n l) (hn : n ≤ 1000000) (hb : W.heap[gb]? = some (.cells #[.pointer (some ⟨gw, 0, none⟩)] 39 (0, 0))) (hw : IsWl W gw g seq) (h : IsD base W g d) :
    Calls Try.prog 70 #[.slice A n c, .func (.func 51) #[] #[.pointer (some ⟨gb, 0, none⟩)]] W fun e w' => ∃ r : Int, e = .returned (.int .i64 r) ∧ IsIdx (fun p => !thereB d.n p.f0 || !decide (p.f1.length = 512)) l r ∧ Below W.heap.size W w' := by
  have HC := Aside0.mk hC
  have HB := Aside0.mk (Below.refl W.heap.size W)
  have HP := Aside0.mk (fun (w' : World) (hB : Below W.heap.size W w') (no : Int) (A' : Option Addr) (n' c' : Nat) => commit1_c w' no A' n' c' (blk_below hb hB) (hw.below hB) (h.below hB))
  have HL := Aside0.mk hC.1
  clear hC hb hw h
  go_enter Try.func70, Try.ntmps70
  go_wp2_with fail
  go_loopw [8] (fun x wr => ∃ (k : Nat), k ≤ n ∧ x = .int .i64 k ∧ Aside0 (∀ j, j < k → (fun p => !thereB d.n p.f0 || !decide (p.f1.length = 512)) (l.getD j z58) = false) ∧ Aside0 (Below W.heap.size W wr)) (fun x _ => n - (intOf x).toNat)
  case atStart => exact ⟨0, Nat.zero_le _, rfl, ⟨fun j h => absurd h (Nat.not_lt_zero _)⟩, HB⟩
  case round =>
    obtain ⟨k, hk, rfl, HF, HBk⟩ := hrel
    by_cases hlt : k < n
    · have e1 : decide ((k : Int) < n) = true := decide_eq_true (by omega)
      obtain ⟨ad, A1, c1, hA, h0, h1, h2, _⟩ := at58 (Kd.C_below HC.out HBk.out) k hlt
      subst hA
      obtain ⟨x, hx⟩ : ∃ x, x = l.getD k z58 := ⟨_, rfl⟩
      rw [← hx] at h0 h1 h2
      have HX := Aside0.mk hx
      obtain ⟨r, hr⟩ : ∃ r, r = (fun p => !thereB d.n p.f0 || !decide (p.f1.length = 512)) x := ⟨_, rfl⟩
      have hp := HP.out wr HBk.out x.f0 A1 x.f1.length c1
      rw [show (!thereB d.n x.f0 || !decide (x.f1.length = 512)) = r from hr.symm] at hp
      have HQ := Aside0.mk hp
      have HRR := Aside0.mk hr
      clear hx hr hp h2
      obtain ⟨n1, hn1⟩ : ∃ n1, n1 = x.f1.length := ⟨_, rfl⟩
      obtain ⟨no, hno⟩ : ∃ no, no = x.f0 := ⟨_, rfl⟩
      rw [← hn1, ← hno] at HQ
      rw [← hn1] at h1
      rw [← hno] at h0
      clear hn1 hno
      cases r with
      | true =>
        go_wp2_with (go_at_call 51; refine HQ.out.mono ?_; rintro e w1 ⟨rfl, h1⟩; have HB1 := Aside0.mk (HBk.out.trans (h1.mono HBk.out.size)); clear h1)
        go_ret
        exact ⟨(k : Int), rfl, .inr ⟨k, by rw [HL.out]; exact hlt, rfl, by rw [← HX.out]; exact HRR.out.symm, HF.out⟩, HB1.out⟩
      | false =>
        go_wp2_with (go_at_call 51; refine HQ.out.mono ?_; rintro e w1 ⟨rfl, h1⟩; have HB1 := Aside0.mk (HBk.out.trans (h1.mono HBk.out.size)); clear h1)
        go_roundw
        case rel => exact ⟨k + 1, by omega, by go_num, ⟨fun j hj => by
          by_cases e : j = k
          · subst e; rw [← HX.out]; exact HRR.out.symm
          · exact HF.out j (by omega)⟩, HB1⟩
        case measure => simp [intOf]; omega
    · obtain rfl : k = n := by omega
      have e1 : decide ((k : Int) < k) = false := decide_eq_false (by omega)
      go_wp2
      go_ret
      exact ⟨-1, rfl, .inl ⟨rfl, fun p hp => by
        obtain ⟨j, hj, rfl⟩ := List.getElem_of_mem hp
        have := HF.out j (by rw [← HL.out]; exact hj)
        rwa [List.getD_eq_getElem?_getD, List.getElem?_eq_getElem hj] at this⟩, HBk.out⟩
set_option maxHeartbeats 4000000 in
set_option maxRecDepth 100000 in
theorem contains51_c {base gw g gb : Nat} {seq : Int} {d : D} {W : World} {A : Option Addr} {n c : Nat} {l : List S58} (hC : Kd.C k58 W A n l) (hn : n ≤ 1000000) (hb : W.heap[gb]? = some (.cells #[.pointer (some ⟨gw, 0, none⟩)] 39 (0, 0))) (hw : IsWl W gw g seq) (h : IsD base W g d) :
    Calls Try.prog 50 #[.slice A n c, .func (.func 51) #[] #[.pointer (some ⟨gb, 0, none⟩)]] W fun e w' => e = .returned (.bool (l.any (fun p => !thereB d.n p.f0 || !decide (p.f1.length = 512)))) ∧ Below W.heap.size W w' := by
  have HI := Aside0.mk (index51_c (c := c) hC hn hb hw h)
  clear hC hb hw h
  obtain ⟨r, hr⟩ : ∃ r, r = l.any (fun p => !thereB d.n p.f0 || !decide (p.f1.length = 512)) := ⟨_, rfl⟩
  rw [← hr]
  have HR := Aside0.mk hr
  clear hr
  go_enter Try.func50, Try.ntmps50
  cases r with
  | true =>
    go_wp2_with (go_at_call 70; refine HI.out.mono ?_; rintro e w1 ⟨r, rfl, h1, h2⟩; have hr0 : 0 ≤ r := idx_yes h1 HR.out.symm; have e1 : decide (0 ≤ r) = true := decide_eq_true hr0; have HB1 := Aside0.mk h2; clear h1 h2 hr0)
    go_ret
    exact ⟨rfl, HB1.out⟩
  | false =>
    go_wp2_with (go_at_call 70; refine HI.out.mono ?_; rintro e w1 ⟨r, rfl, h1, h2⟩; have hr0 : r = -1 := idx_no h1 HR.out.symm; subst hr0; have HB1 := Aside0.mk h2; clear h1 h2)
    go_ret
    exact ⟨rfl, HB1.out⟩
set_option maxHeartbeats 4000000 in
set_option maxRecDepth 100000 in
theorem index47_c {base gw g gb : Nat} {seq : Int} {d : D} {W : World} {A : Option Addr} {n c : Nat} {l : List S58} (hC : Kd.C k58 W A n l) (hn : n ≤ 1000000) (hb : W.heap[gb]? = some (.cells #[.pointer (some ⟨gw, 0, none⟩)] 39 (0, 0))) (hw : IsWl W gw g seq) (h : IsD base W g d) :
    Calls Try.prog 70 #[.slice A n c, .func (.func 47) #[] #[.pointer (some ⟨gb, 0, none⟩)]] W fun e w' => ∃ r : Int, e = .returned (.int .i64 r) ∧ IsIdx (fun p => !thereB d.n p.f0) l r ∧ Below W.heap.size W w' := by
  have HC := Aside0.mk hC
  have HB := Aside0.mk (Below.refl W.heap.size W)
  have HP := Aside0.mk (fun (w' : World) (hB : Below W.heap.size W w') (no : Int) (A' : Option Addr) (n' c' : Nat) => open1_c w' no A' n' c' (blk_below hb hB) (hw.below hB) (h.below hB))
  have HL := Aside0.mk hC.1
  clear hC hb hw h
  go_enter Try.func70, Try.ntmps70
  go_wp2_with fail
  go_loopw [8] (fun x wr => ∃ (k : Nat), k ≤ n ∧ x = .int .i64 k ∧ Aside0 (∀ j, j < k → (fun p => !thereB d.n p.f0) (l.getD j z58) = false) ∧ Aside0 (Below W.heap.size W wr)) (fun x _ => n - (intOf x).toNat)
  case atStart => exact ⟨0, Nat.zero_le _, rfl, ⟨fun j h => absurd h (Nat.not_lt_zero _)⟩, HB⟩
  case round =>
    obtain ⟨k, hk, rfl, HF, HBk⟩ := hrel
    by_cases hlt : k < n
    · have e1 : decide ((k : Int) < n) = true := decide_eq_true (by omega)
      obtain ⟨ad, A1, c1, hA, h0, h1, h2, _⟩ := at58 (Kd.C_below HC.out HBk.out) k hlt
      subst hA
      obtain ⟨x, hx⟩ : ∃ x, x = l.getD k z58 := ⟨_, rfl⟩
      rw [← hx] at h0 h1 h2
      have HX := Aside0.mk hx
      obtain ⟨r, hr⟩ : ∃ r, r = (fun p => !thereB d.n p.f0) x := ⟨_, rfl⟩
      have hp := HP.out wr HBk.out x.f0 A1 x.f1.length c1
      rw [show (!thereB d.n x.f0) = r from hr.symm] at hp
      have HQ := Aside0.mk hp
      have HRR := Aside0.mk hr
      clear hx hr hp h2
      obtain ⟨n1, hn1⟩ : ∃ n1, n1 = x.f1.length := ⟨_, rfl⟩
      obtain ⟨no, hno⟩ : ∃ no, no = x.f0 := ⟨_, rfl⟩
      rw [← hn1, ← hno] at HQ
      rw [← hn1] at h1
      rw [← hno] at h0
      clear hn1 hno
      cases r with
      | true =>
        go_wp2_with (go_at_call 47; refine HQ.out.mono ?_; rintro e w1 ⟨rfl, h1⟩; have HB1 := Aside0.mk (HBk.out.trans (h1.mono HBk.out.size)); clear h1)
        go_ret
        exact ⟨(k : Int), rfl, .inr ⟨k, by rw [HL.out]; exact hlt, rfl, by rw [← HX.out]; exact HRR.out.symm, HF.out⟩, HB1.out⟩
      | false =>
        go_wp2_with (go_at_call 47; refine HQ.out.mono ?_; rintro e w1 ⟨rfl, h1⟩; have HB1 := Aside0.mk (HBk.out.trans (h1.mono HBk.out.size)); clear h1)
        go_roundw
        case rel => exact ⟨k + 1, by omega, by go_num, ⟨fun j hj => by
          by_cases e : j = k
          · subst e; rw [← HX.out]; exact HRR.out.symm
          · exact HF.out j (by omega)⟩, HB1⟩
        case measure => simp [intOf]; omega
    · obtain rfl : k = n := by omega
      have e1 : decide ((k : Int) < k) = false := decide_eq_false (by omega)
      go_wp2
      go_ret
      exact ⟨-1, rfl, .inl ⟨rfl, fun p hp => by
        obtain ⟨j, hj, rfl⟩ := List.getElem_of_mem hp
        have := HF.out j (by rw [← HL.out]; exact hj)
        rwa [List.getD_eq_getElem?_getD, List.getElem?_eq_getElem hj] at this⟩, HBk.out⟩
end Go.Proofs.Ytmghgghheebnjaa.Dis
