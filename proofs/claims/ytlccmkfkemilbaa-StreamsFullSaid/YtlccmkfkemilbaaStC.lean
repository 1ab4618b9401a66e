/- Streams: which sink has a name; no file may be read; walked by hand. -/
import Derived.Test.YtlccmkfkemilbaaStB
namespace Go.Proofs.Ytlccmkfkemilbaa.Bld
open Go.RowKit Go.Lib Go.Proofs.YtlccmkfkemilbaaW.PrintWords Go.Proofs.YtlccmkfkemilbaaW.PrintLast Go.Proofs.YtlccmkfkemilbaaW.PrintMore
set_option linter.unusedVariables false
set_option linter.unusedSimpArgs false
set_option maxHeartbeats 2000000 in
set_option maxRecDepth 100000 in
theorem match_calls (b gk : Nat) (cs : Array Value) (nm name : ByteArray) (W : World) (hb : W.heap[b]? = some (.cells cs 49 (0, 0))) (hn : cs[2]? = some (.string nm)) (hk : W.heap[gk]? = some (.cells #[.string name] 9 (0, 0))) :
    Calls Try.prog 18 #[.pointer (some ⟨b, 0, none⟩), .pointer (some ⟨gk, 0, none⟩)] W fun e w' => e = .returned (.bool (nm.toList == name.toList)) ∧ Below W.heap.size W w' := by
  have c2 : W.cell? ⟨b, 2, none⟩ = some (.string nm) := (blk_cellB hb 2).trans hn
  have c0 : W.cell? ⟨gk, 0, none⟩ = some (.string name) := (blk_cellB hk 0).trans rfl
  have d2 : W.drew.cell? ⟨b, 2, none⟩ = some (.string nm) := c2
  have d0 : W.drew.cell? ⟨gk, 0, none⟩ = some (.string name) := c0
  clear hb hn hk
  go_enter Try.func18, Try.ntmps18
  go_wp2
  go_region
  all_goals (go_wp2; go_ret; exact ⟨rfl, below_drew (Below.refl _ _)⟩)
/-- The first file of a name. -/
def idxS (s : Str) (name : ByteArray) : Int := match s.sk.findIdx? (fun x => x.1.toList == name.toList) with
  | some k => k
  | none => -1
theorem find_first {sk : List (ByteArray × List UInt8)} {name : ByteArray} {k : Nat} {t : ByteArray × List UInt8} (ht : sk[k]? = some t) (hb : (t.1.toList == name.toList) = true) (h : ∀ (j : Nat) (t : ByteArray × List UInt8), j < k → sk[j]? = some t → (t.1.toList == name.toList) = false) : sk.findIdx? (fun x => x.1.toList == name.toList) = some k := by
  rw [List.findIdx?_eq_some_iff_getElem]
  obtain ⟨hk, he⟩ := List.getElem?_eq_some_iff.1 ht
  refine ⟨hk, by rw [he]; exact hb, fun j hj => ?_⟩
  have := h j _ hj (List.getElem?_eq_getElem (by omega))
  simp [this]
theorem find_none {sk : List (ByteArray × List UInt8)} {name : ByteArray} (h : ∀ (j : Nat) (t : ByteArray × List UInt8), sk[j]? = some t → (t.1.toList == name.toList) = false) : sk.findIdx? (fun x => x.1.toList == name.toList) = none := by
  rw [List.findIdx?_eq_none_iff]
  intro x hx
  obtain ⟨i, hi, he⟩ := List.getElem_of_mem hx
  exact h i x (by rw [List.getElem?_eq_getElem hi, he])
set_option maxHeartbeats 2000000 in
set_option maxRecDepth 100000 in
theorem idx_nil_calls (f : Value) (W : World) : Calls Try.prog 19 #[.slice none 0 0, f] W fun e w' => e = .returned (.int .i64 (-1)) ∧ w' = W := by
  go_enter Try.func19, Try.ntmps19
  go_wp2_with fail
  go_loopw [8] (fun x wr => x = .int .i64 0 ∧ wr = W) (fun _ _ => 0)
  case atStart => exact ⟨rfl, rfl⟩
  case round =>
    obtain ⟨rfl, hw⟩ := hrel
    subst hw
    go_wp2
    go_ret
    exact ⟨rfl, rfl⟩
set_option maxHeartbeats 2000000 in
set_option maxRecDepth 100000 in
theorem file_calls (base g : Nat) (s : Str) (name : ByteArray) (W : World) (h : IsSt base W g s) :
    Calls Try.prog 13 #[.pointer (some ⟨g, 0, none⟩), .string name] W fun e w' => e = .returned (.pointer none) ∧ Below W.heap.size W w' := by
  obtain ⟨vo, vs, cs, ks, h⟩ := h
  obtain ⟨w1, hw1⟩ : ∃ w1, w1 = W.alloc (.cells #[.string name] 9) := ⟨_, rfl⟩
  have bl : Below W.heap.size W w1 := by rw [hw1]; exact below_alloc (Below.refl _ _) _
  have c1 : w1.cell? ⟨g, 1, none⟩ = some (.slice none 0 0) := (blk_cellB ((bl.block g (lt_of_blk h.out.blk)).trans h.out.blk) 1).trans h.files
  rw [hw1] at c1
  have HB := Aside0.mk bl
  rw [hw1] at HB
  clear h bl hw1
  go_enter Try.func13, Try.ntmps13
  go_wp2_with (first
    | (go_at_call 19; refine (idx_nil_calls _ _).mono ?_; rintro e w2 ⟨rfl, h1⟩; obtain rfl := h1.symm))
  go_ret
  exact ⟨rfl, HB.out⟩
set_option maxHeartbeats 4000000 in
set_option maxRecDepth 100000 in
theorem idx_calls (base g gk : Nat) (s : Str) (name : ByteArray) (vo vs : Value) (cs : Array Value) (ks : List Sk) (W : World) (h : StAt base W g s vo vs cs ks) (hk : W.heap[gk]? = some (.cells #[.string name] 9 (0, 0))) (hl : s.sk.length ≤ 1000) :
    Calls Try.prog 17 #[vs, .func (.func 18) #[] #[.pointer (some ⟨gk, 0, none⟩)]] W fun e w' => e = .returned (.int .i64 (idxS s name)) ∧ Below W.heap.size W w' := by
  obtain ⟨n, hn⟩ : ∃ n, n = ks.length := ⟨_, rfl⟩
  have hln : n ≤ 1000 := by rw [hn, h.len]; exact hl
  obtain ⟨A, c, hvs⟩ : ∃ A c, vs = .slice A n c := by
    rw [hn]
    rcases h.row.2 with ⟨hv, h0⟩ | ⟨gv, cap, cur, hv, _⟩
    · exact ⟨_, _, by rw [hv, h0]⟩
    · exact ⟨_, _, hv⟩
  have hcell : ∀ k, k < n → ∃ gv, A = some ⟨gv, 0, none⟩ ∧ gv < W.heap.size ∧ ∃ q, ks[k]? = some q ∧ ∀ w', Below W.heap.size W w' → w'.cell? ⟨gv, k, none⟩ = some (.pointer (some ⟨q.1, 0, none⟩)) := fun k hk => by
    rcases h.row.2 with ⟨hv, h0⟩ | ⟨gv, cap, cur, hv, hb, hg, hnc, hcm, hcs, htake⟩
    · omega
    · have hA : A = some ⟨gv, 0, none⟩ := by rw [hvs] at hv; injection hv
      refine ⟨gv, hA, lt_of_blk hg, ks[k]'(by omega), List.getElem?_eq_getElem (by omega), fun w' hb' => ?_⟩
      have h1 : w'.heap[gv]? = some (.cells cur 54 (0, 0)) := (hb'.block gv (lt_of_blk hg)).trans hg
      rw [blk_cellB h1 k]
      have h2 := congrArg (fun l => l[k]?) htake
      simp only [Nat.mul_one, List.getElem?_take, List.getElem?_map] at h2
      rw [if_pos (by omega), List.getElem?_eq_getElem (show k < ks.length by omega)] at h2
      simpa using h2
  have hsink : ∀ (k : Nat) (q : Sk), ks[k]? = some q → ∃ t, s.sk[k]? = some t ∧ W.heap[q.1]? = some (.cells q.2.1 49 (0, 0)) ∧ q.2.1[2]? = some (.string t.1) := fun k q hq => by
    obtain ⟨t, h1, h2, _, h3⟩ := h.sink hq
    exact ⟨t, h1, h2.blk, h3⟩
  have hnl : n = s.sk.length := by rw [hn, h.len]
  have HNL := Aside0.mk hnl
  have HC := Aside0.mk hcell
  have HS := Aside0.mk hsink
  have HK := Aside0.mk hk
  subst hvs
  clear h hk hl hn hcell hsink hnl
  go_enter Try.func17, Try.ntmps17
  go_wp2_with fail
  go_loopw [8] (fun x wr => ∃ k : Nat, k ≤ n ∧ x = .int .i64 k ∧ Aside0 (Below W.heap.size W wr) ∧ Aside0 (∀ (j : Nat) (t : ByteArray × List UInt8), j < k → s.sk[j]? = some t → (t.1.toList == name.toList) = false)) (fun x _ => n - (intOf x).toNat)
  case atStart => exact ⟨0, Nat.zero_le _, rfl, ⟨Below.refl _ _⟩, ⟨fun j t hj => absurd hj (Nat.not_lt_zero _)⟩⟩
  case round =>
    obtain ⟨k, hk, rfl, HBk, HF⟩ := hrel
    by_cases hlt : k < n
    · have e1 : decide ((k : Int) < n) = true := decide_eq_true (by omega)
      have e2 : decide (k < n) = true := decide_eq_true hlt
      obtain ⟨gv, hA, hgv, q, hq, hcel⟩ := HC.out k hlt
      subst hA
      have cel := hcel wr HBk.out
      obtain ⟨t, ht, hblk, h2⟩ := HS.out k q hq
      obtain ⟨sb, hsb⟩ : ∃ sb, sb = q.1 := ⟨_, rfl⟩
      rw [← hsb] at cel hblk
      have HT := Aside0.mk ht
      have HM := Aside0.mk (match_calls sb gk q.2.1 t.1 name wr ((HBk.out.block sb (lt_of_blk hblk)).trans hblk) h2 ((HBk.out.block gk (lt_of_blk HK.out)).trans HK.out))
      clear hgv hq hcel ht hblk h2 hsb
      obtain ⟨bo, hbo⟩ : ∃ bo, bo = (t.1.toList == name.toList) := ⟨_, rfl⟩
      rw [← hbo] at HM
      have HBO := Aside0.mk hbo
      clear hbo
      cases bo with
      | true =>
        go_wp2_with (first
          | (go_at_call 18; refine HM.out.mono ?_; rintro e w4 ⟨rfl, h1⟩; have HB4 := Aside0.mk (HBk.out.trans (h1.mono HBk.out.size)); clear h1))
        go_ret
        refine ⟨?_, HB4.out⟩
        unfold idxS
        rw [find_first HT.out HBO.out.symm HF.out]
        rfl
      | false =>
        go_wp2_with (first
          | (go_at_call 18; refine HM.out.mono ?_; rintro e w4 ⟨rfl, h1⟩; have HB4 := Aside0.mk (HBk.out.trans (h1.mono HBk.out.size)); clear h1))
        go_roundw
        case rel => exact ⟨k + 1, by omega, by go_num, HB4, ⟨fun j t' hj ht' => by
          by_cases hjk : j = k
          · subst hjk
            rw [HT.out] at ht'
            injection ht' with ht'
            subst ht'
            exact HBO.out.symm
          · exact HF.out j t' (by omega) ht'⟩⟩
        case measure => simp [intOf]; omega
    · obtain rfl : k = n := by omega
      have e1 : decide ((k : Int) < k) = false := decide_eq_false (by omega)
      go_wp2
      go_ret
      refine ⟨?_, HBk.out⟩
      unfold idxS
      rw [find_none (fun j t ht => HF.out j t (by rw [HNL.out]; exact (List.getElem?_eq_some_iff.1 ht).1) ht)]
      rfl
end Go.Proofs.Ytlccmkfkemilbaa.Bld
