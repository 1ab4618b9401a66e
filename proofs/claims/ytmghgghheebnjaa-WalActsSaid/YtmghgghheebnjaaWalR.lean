/- Wal: lives, walked by hand. -/
import Derived.Test.YtmghgghheebnjaaWalQ
namespace Go.Proofs.Ytmghgghheebnjaa.Dis
open Go.RowKit Go.Proofs.YtmghgghheebnjaaW.PrintWords Go.Proofs.YtmghgghheebnjaaW.PrintLast Go.Proofs.YtmghgghheebnjaaW.PrintMore Go.Maps Go.Proofs.Ytmghgghheebnjaa.PWalRecords
set_option linter.unusedVariables false
set_option linter.unusedSimpArgs false
def bA : List Int := List.replicate 512 97
def lA : List S58 := [⟨0, bA⟩]
theorem lives_plain : ∃ (d2 d3 : D), commitD (freshD 70) 0 lA = (d2, 1, 0) ∧ d2.cnt ≤ 1000 ∧ openD d2 = (d3, 1, 0) ∧ d3.cnt ≤ 2000 ∧ d3.n = 70 ∧ ∃ d4 : D, readW d3 0 = (d4, bA, 0) ∧ d4.n = 70 := by
  have hok : BytesOk bA := fun x hx => by rw [(List.mem_replicate.1 hx).2]; omega
  have hbl : bA.length = 512 := List.length_replicate
  have hE : recE (0 + 1) lA = 0 := by
    have hany : lA.any (fun p => badB p.f0 p.f1.length) = false := by
      show (badB 0 bA.length || false) = false
      rw [hbl]
      decide
    unfold recE
    rw [if_neg (by decide), hany, if_neg (by decide), if_neg (by decide), if_neg (by decide)]
  have hp : ∀ p ∈ lA, thereB (70 : Int) p.f0 = true ∧ p.f1.length = 512 ∧ BytesOk p.f1 := by
    intro p hpm
    obtain rfl : p = ⟨0, bA⟩ := by simpa [lA] using hpm
    exact ⟨by show thereB 70 0 = true; decide, hbl, hok⟩
  obtain ⟨c, hc, hcb⟩ := commitD_live (d := freshD 70) ⟨rfl, rfl⟩ rfl (by decide) (seq := 0) (by decide) (by decide) (l := lA) (by decide) hp hE
  obtain ⟨d2, hd2⟩ : ∃ d2 : D, d2 = { freshD 70 with fast := applyW (pgW lA) (applyW (enumW 0 (recS (0 + 1) lA)) (freshD 70).fast), cnt := c } := ⟨_, rfl⟩
  rw [← hd2] at hc
  have hl2 : Live d2 := by rw [hd2]; exact ⟨rfl, rfl⟩
  have hs2 : d2.since = [] := by rw [hd2]; rfl
  have hn2 : d2.n = 70 := by rw [hd2]; rfl
  have hf2 : d2.fast = applyW (pgW lA) (applyW (enumW 0 (recS (0 + 1) lA)) (freshD 70).fast) := by rw [hd2]
  have hc2 : d2.cnt ≤ 128 := by rw [hd2]; exact Nat.le_trans hcb (by decide)
  clear hd2
  have hlog : logF d2.fast = recS (0 + 1) lA ++ (logF (freshD 70).fast).drop (secsN lA.length) := by
    rw [hf2]; exact log_commit (fun p hpm => by have := of_decide_eq_true (hp p hpm).1; omega) (by decide)
  have hpg : pagesOf (logF d2.fast) = lA := by rw [hlog]; exact pages_rec _ hE (by decide) (by decide)
  have hfl : lA.filter (fun p => thereB d2.n p.f0) = lA := List.filter_eq_self.2 (fun p hpm => by rw [hn2]; exact (hp p hpm).1)
  obtain ⟨c3, hc3, hcb3⟩ := writesD_live hl2 hs2 (l := lA) (fun p hpm => by rw [hn2]; exact ⟨(hp p hpm).1, (hp p hpm).2.1⟩)
  have hrow : ∀ i : Nat, i < 64 → numB ((rdRow d2 i).take 8) = if i < secsN lA.length then 1 else 0 := by
    intro i hi
    rw [(rd_live hl2 hs2 (by rw [hn2]; decide) hi).1]
    have h1 := logF_at d2.fast hi
    rw [hlog] at h1
    by_cases hc : i < secsN lA.length
    · rw [if_pos hc]
      rw [recS_at _ _ _ hc] at h1
      rw [← h1, sect_parts.1]
      decide
    · rw [if_neg hc]
      have h2 : (recS (0 + 1) lA ++ (logF (freshD 70).fast).drop (secsN lA.length)).getD i [] = zeros := by
        rw [List.getD_eq_getElem?_getD, List.getElem?_append_right (by rw [recS_len]; omega), List.getElem?_drop, recS_len, show secsN lA.length + (i - secsN lA.length) = i by omega]
        have h3 := logF_at (freshD 70).fast hi
        rw [List.getD_eq_getElem?_getD] at h3
        exact h3
      rw [h2] at h1
      rw [← h1, numB_zeros]
  have hsq : seqTo d2 64 = 1 := by
    refine Int.le_antisymm (seqTo_le (by decide) 64 (fun i hi => by rw [hrow i hi]; split <;> decide)) ?_
    have h1 := seqTo_ge (d := d2) 64 0 (by decide)
    rw [hrow 0 (by decide), if_pos (by decide)] at h1
    exact h1
  have ho : openD d2 = ({ d2 with fast := applyW (pgW lA) d2.fast, cnt := c3 }, 1, 0) := by
    rw [openD_live hl2 hs2 (by rw [hn2]; decide), hpg, hfl, hc3, hsq]
  refine ⟨d2, _, hc, by omega, ho, ?_, hn2, ?_⟩
  · show c3 ≤ 2000
    have : lA.length = 1 := rfl
    omega
  · refine ⟨{ d2 with fast := applyW (pgW lA) d2.fast, cnt := c3 }, ?_, hn2⟩
    unfold readW
    rw [if_pos (by show thereB d2.n 0 = true; rw [hn2]; decide), readD_live (d := { d2 with fast := applyW (pgW lA) d2.fast, cnt := c3 }) hl2 hs2 (by decide) (by show _ < d2.n; rw [hn2]; decide)]
    have hb : applyW (pgW lA) d2.fast (64 + 0) = bA := by
      show upd d2.fast (64 + 0, bA) (64 + 0) = bA
      exact if_pos rfl
    show (_, applyW (pgW lA) d2.fast (64 + 0), (0 : Int)) = _
    rw [hb]
set_option maxHeartbeats 16000000 in
set_option maxRecDepth 100000 in
theorem lives_c (W : World) : Calls Try.prog 15 #[] W fun e w' => e = .returned (.bool true) ∧ Below W.heap.size W w' := by
  obtain ⟨d2, d3, hc, hc2, ho, hc3, hn3, d4, hr, hn4⟩ := lives_plain
  have HN4 := Aside0.mk hn4
  clear hn4
  have HP := Aside0.mk (And.intro hc (And.intro hc2 (And.intro ho (And.intro hc3 (And.intro hn3 hr)))))
  clear hc hc2 ho hc3 hn3 hr
  have HOF := Aside0.mk (open_fresh (n := 70) (by decide))
  have HNF := Aside0.mk (new_fresh (n := 70) (by decide) (by decide))
  go_enter Try.func15, Try.ntmps15
  go_upto_region 3 with (first
    | (go_at_call 16; refine (new_calls 70 W).mono ?_; rintro e w1 ⟨g, rfl, h1, h2, h3⟩; rw [HNF.out] at h1; have HD1 := Aside0.mk h1; have HB1 := Aside0.mk h3; clear h1 h2 h3)
    | (go_at_call 17; refine (open_c W.heap.size g (freshD 70) W w1 HD1.out HB1.out (Nat.le_refl _) (by decide)).mono ?_; rintro e w2 ⟨v2, rfl, h1, h2, h3, _, h5⟩; rw [HOF.out] at h1 h5 ⊢; obtain ⟨gw, rfl, hg, hw⟩ := h5 rfl; have HD2 := Aside0.mk h1; have HB2 := Aside0.mk h2; have HW2 := Aside0.mk hw; have HGW := Aside0.mk (Nat.le_trans HB1.out.size hg); clear h1 h2 h3 h5 hg hw))
  have hbs : W.heap.size ≤ w2.heap.size := HB2.out.size
  have HBS := Aside0.mk hbs
  clear hbs
  go_upto_region 5 with (first
    | (go_at_call 25; refine (page_c w2 0 97).mono ?_; rintro e w3 ⟨A3, c3, rfl, h1, h2⟩; have HV3 := Aside0.mk h1; have HB3 := Aside0.mk h2; clear h1 h2)
    | (go_at_call 20; have hbl := HB3.out.trans (below_alloc (Below.refl w3.heap.size w3) (.cells #[.int .i64 0, .slice A3 512 c3] 58) |>.mono HB3.out.size); have hq := blk_new w3 (.cells #[.int .i64 0, .slice A3 512 c3] 58 (0, 0)); refine (commit_c W.heap.size gw g 0 (freshD 70) W (w3.alloc (.cells #[.int .i64 0, .slice A3 512 c3] 58)) (some ⟨w3.heap.size, 0, none⟩) 1 1 lA (pgL_lit hq (Kd.R_below HV3.out (below_alloc (Below.refl _ _) _))) (HW2.out.below hbl) (HD2.out.below hbl) (HB2.out.trans (hbl.mono HBS.out)) (Nat.le_refl _) HGW.out (by decide) (by decide) (fun p hp => by obtain rfl : p = ⟨0, bA⟩ := (by simpa [lA] using hp); exact fun x hx => by rw [(List.mem_replicate.1 hx).2]; omega) (by decide) (by decide)).mono ?_; rintro e w4 ⟨rfl, h1, h2, h3, h4⟩; rw [HP.out.1] at h1 h2 ⊢; have HD4 := Aside0.mk h1; have HW4 := Aside0.mk h2; have HB4 := Aside0.mk h3; clear h1 h2 h3 h4 hbl hq))
  go_upto_region 6 with (go_at_call 17; refine (open_c W.heap.size g d2 W w4 HD4.out HB4.out (Nat.le_refl _) (by have := HP.out.2.1; omega)).mono ?_; rintro e w5 ⟨v5, rfl, h1, h2, h3, _, h5⟩; rw [HP.out.2.2.1] at h1 h5 ⊢; obtain ⟨gv, rfl, hg, hw⟩ := h5 rfl; have HD5 := Aside0.mk h1; have HB5 := Aside0.mk h2; have HW5 := Aside0.mk hw; clear h1 h2 h3 h5 hg hw)
  have HR4 := Aside0.mk HP.out.2.2.2.2.2
  go_upto_region 9 with (go_at_call 30; refine (wread_c W.heap.size gv g 1 d3 0 ⟨by decide, by decide⟩ W w5 HW5.out HD5.out HB5.out (by have := HP.out.2.2.2.1; omega)).mono ?_; rintro e w6 ⟨v6, rfl, h1, h2, h3, h4⟩; rw [HR4.out] at h1 h4 ⊢; have HD6 := Aside0.mk h1; have HB6 := Aside0.mk h2; have HW6 := Aside0.mk (HW5.out.keep h3); have HV6 := Aside0.mk h4; clear h1 h2 h3 h4)
  obtain ⟨A6, c6, hv6⟩ := Kd.R_slice HV6.out
  rw [show bA.length = 512 from List.length_replicate] at hv6
  subst hv6
  have hC6 := (Kd.R_reads' HV6.out).2.2
  rw [show bA.length = 512 from List.length_replicate] at hC6
  obtain ⟨ad, c, hA, hl, hK, hcell⟩ := Kd.C_get hC6 (0 : Int) (511 : Int) (by decide) (by decide)
  have hx : bA.getD ((511 : Int)).toNat 0 = 97 := by
    show bA.getD 511 0 = 97
    unfold bA
    rw [List.getD_eq_getElem?_getD, List.getElem?_replicate, if_pos (by decide)]
    rfl
  rw [hx] at hK
  have hc : c = [Value.int .u8 97] := hK
  subst hc
  have hcl := hcell 0 _ rfl
  subst hA
  have hcl2 : w6.cell? ⟨ad.block, ad.off + 511, none⟩ = some (.int .u8 97) := hcl
  have hpm := pagesm_c HW6.out HD6.out
  rw [show (d4, bA, (0 : Int)).1.n - 64 = 6 by show d4.n - 64 = 6; rw [HN4.out]; decide] at hpm
  have HPM := Aside0.mk hpm
  clear hpm
  clear hC6 hl hK hcell hx hcl
  go_wp2_with (first
    | (go_at_call 24; refine (seq_c HW6.out).mono ?_; rintro e w7 ⟨rfl, rfl⟩)
    | (go_at_call 29; refine HPM.out.mono ?_; rintro e w7 ⟨rfl, rfl⟩))
  go_ret
  exact ⟨rfl, HB6.out⟩
end Go.Proofs.Ytmghgghheebnjaa.Dis
