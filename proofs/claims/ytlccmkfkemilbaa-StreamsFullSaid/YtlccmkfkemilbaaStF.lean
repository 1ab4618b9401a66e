/- Streams: Write, walked by hand. -/
import Derived.Test.YtlccmkfkemilbaaStE
namespace Go.Proofs.Ytlccmkfkemilbaa.Bld
open Go.RowKit Go.Lib Go.Proofs.YtlccmkfkemilbaaW.PrintWords Go.Proofs.YtlccmkfkemilbaaW.PrintLast Go.Proofs.YtlccmkfkemilbaaW.PrintMore
set_option linter.unusedVariables false
set_option linter.unusedSimpArgs false
theorem StAt.vs_form {base g : Nat} {w : World} {s : Str} {vo vs : Value} {cs : Array Value} {ks : List Sk} (h : StAt base w g s vo vs cs ks) : ∃ A c, vs = .slice A ks.length c := by
  rcases h.row.2 with ⟨hv, h0⟩ | ⟨gv, cap, cur, hv, _⟩
  · exact ⟨_, _, by rw [hv, h0]⟩
  · exact ⟨_, _, hv⟩
theorem StAt.at {base g : Nat} {w : World} {s : Str} {vo vs : Value} {cs : Array Value} {ks : List Sk} (h : StAt base w g s vo vs cs ks) (k : Nat) (hk : k < ks.length) : ∃ gv c, vs = .slice (some ⟨gv, 0, none⟩) ks.length c ∧ w.cell? ⟨gv, k, none⟩ = some (.pointer (some ⟨(ks[k]).1, 0, none⟩)) := by
  rcases h.row.2 with ⟨hv, h0⟩ | ⟨gv, cap, cur, hv, hb, hg, hnc, hcm, hcs, htake⟩
  · omega
  · refine ⟨gv, cap, hv, ?_⟩
    rw [blk_cellB hg k]
    have h2 := congrArg (fun l => l[k]?) htake
    simp only [Nat.mul_one, List.getElem?_take, List.getElem?_map] at h2
    rw [if_pos (by omega), List.getElem?_eq_getElem (show k < ks.length by omega)] at h2
    simpa using h2
def writeS (s : Str) (name t : ByteArray) : Str × Int := match s.sk.findIdx? (fun x => x.1.toList == name.toList) with
  | some i => if 65536 - s.size < t.size then (s, 8) else ({ s with size := s.size + t.size, sk := s.sk.set i ((s.sk.getD i (name, [])).1, (s.sk.getD i (name, [])).2 ++ t.data.toList) }, 0)
  | none => if s.sk.length = 8 then (s, 8) else if 65536 - s.size < t.size then (s, 8) else ({ s with size := s.size + t.size, sk := s.sk ++ [(name, t.data.toList)] }, 0)
set_option maxHeartbeats 4000000 in
set_option maxRecDepth 100000 in
theorem write_at (base g i : Nat) (s : Str) (name t : ByteArray) (more : Bool) (w W : World) (h : IsSt base W g s) (hB : Below base w W) (hs : 0 ≤ s.size ∧ s.size ≤ 65536) (hlen : ∀ u ∈ s.sk, u.2.length ≤ 65536) (h8 : s.sk.length ≤ 8) (ht : t.size ≤ 9223372036854775807) (hname : (name.toList == []) = false)
    (hi : s.sk.findIdx? (fun x => x.1.toList == name.toList) = some i) :
    Calls Try.prog 10 #[.pointer (some ⟨g, 0, none⟩), .string name, .string t, .bool more] W fun e w' => e = .returned (.int .i64 (writeS s name t).2) ∧ IsSt base w' g (writeS s name t).1 ∧ Below base w w' ∧ KeepT W w' := by
  have hidx : idxS s name = (i : Int) := by unfold idxS; rw [hi]
  have hil : i < s.sk.length := (List.findIdx?_eq_some_iff_getElem.1 hi).1
  obtain ⟨w1, hw1⟩ : ∃ w1, w1 = W.alloc (.cells #[.string name] 9) := ⟨_, rfl⟩
  have bl : Below W.heap.size W w1 := by rw [hw1]; exact below_alloc (Below.refl _ _) _
  have hbase : base ≤ W.heap.size := Nat.le_of_lt (Nat.lt_of_le_of_lt h.ge h.lt)
  have h1 := h.below bl
  have hgk : w1.heap[W.heap.size]? = some (.cells #[.string name] 9 (0, 0)) := by rw [hw1]; exact Array.getElem?_push_size
  have hB1 : Below base w w1 := hB.trans (bl.mono hbase)
  have hK1 := KeepT.of_below bl
  obtain ⟨gk, hgke⟩ : ∃ gk, gk = W.heap.size := ⟨_, rfl⟩
  rw [← hgke] at hgk
  obtain ⟨vo, vs, cs, ks, h2⟩ := h1.out
  have hidc := idx_calls base g gk s name vo vs cs ks w1 h2 hgk (by omega)
  rw [hidx] at hidc
  have c5 : w1.cell? ⟨g, 5, none⟩ = some vs := (blk_cellB h2.out.blk 5).trans h2.sinks
  have c0 : w1.cell? ⟨gk, 0, none⟩ = some (.string name) := (blk_cellB hgk 0).trans rfl
  obtain ⟨A, c, hvs⟩ := h2.vs_form
  subst hvs
  obtain ⟨n, hn⟩ : ∃ n, n = ks.length := ⟨_, rfl⟩
  rw [← hn] at hidc c5
  have H1 := Aside0.mk h1
  have HB1 := Aside0.mk hB1
  have HK1 := Aside0.mk hK1
  have HI := Aside0.mk hidc
  have HS := Aside0.mk hs
  have HIL := Aside0.mk hil
  have HLN := Aside0.mk hlen
  unfold writeS
  rw [hi]
  dsimp only
  have e0 : decide ((0 : Int) ≤ (i : Int)) = true := decide_eq_true (by omega)
  have HGK := Aside0.mk (And.intro hw1 hgke)
  by_cases hnn : 65536 - s.size < (t.size : Int)
  · rw [if_pos hnn]
    have HNN := Aside0.mk hnn
    clear h hB hs hlen h8 hi hidx hil bl h1 hB1 hK1 h2 hidc hgk hn hnn hw1 hgke
    go_enter Try.func10, Try.ntmps10
    go_upto_region 3 with fail
    rw [← HGK.out.1, ← HGK.out.2]
    go_wp2_with (first
      | (go_at_call 17; refine HI.out.mono ?_; rintro e w2 ⟨rfl, h1⟩; have H2 := Aside0.mk (H1.out.below h1); have HB2 := Aside0.mk (HB1.out.trans (h1.mono (Nat.le_of_lt (Nat.lt_of_le_of_lt H1.out.ge H1.out.lt)))); have HK2 := Aside0.mk (HK1.out.trans (KeepT.of_below h1)); clear h1)
      | (go_at_call 15; refine (room_no base g s t.size w2 H2.out HS.out HNN.out).mono ?_; rintro e w3 ⟨rfl, h1⟩; obtain rfl := h1.symm))
    go_ret
    exact ⟨rfl, H2.out, HB2.out, HK2.out⟩
  · rw [if_neg hnn]
    have HNN := Aside0.mk hnn
    have hts : t.size ≤ 65536 := by omega
    have HTS := Aside0.mk hts
    clear h hB hs hlen h8 hi hidx hil bl h1 hB1 hK1 h2 hidc hgk hn hnn hw1 hgke hts
    go_enter Try.func10, Try.ntmps10
    go_upto_region 3 with fail
    rw [← HGK.out.1, ← HGK.out.2]
    go_upto_region 7 with (first
      | (go_at_call 17; refine HI.out.mono ?_; rintro e w2 ⟨rfl, h1⟩; have H2 := Aside0.mk (H1.out.below h1); have HB2 := Aside0.mk (HB1.out.trans (h1.mono (Nat.le_of_lt (Nat.lt_of_le_of_lt H1.out.ge H1.out.lt)))); have HK2 := Aside0.mk (HK1.out.trans (KeepT.of_below h1)); clear h1)
      | (go_at_call 15; refine (room_yes base g s t.size w w2 H2.out HB2.out HS.out (by omega) (by have := HNN.out; omega)).mono ?_; rintro e w3 ⟨rfl, h1, h2, h3⟩; have H3 := Aside0.mk h1; have HB3 := Aside0.mk h2; have HK3 := Aside0.mk (HK2.out.trans h3); clear h1 h2 h3))
    obtain ⟨vo3, vs3, cs3, ks3, h3⟩ := H3.out
    have hi3 : i < ks3.length := by rw [h3.len]; exact HIL.out
    obtain ⟨gv, c3, hvs3, hcel⟩ := h3.at i hi3
    obtain ⟨n3, hn3⟩ : ∃ n3, n3 = ks3.length := ⟨_, rfl⟩
    have c53 : w3.cell? ⟨g, 5, none⟩ = some (.slice (some ⟨gv, 0, none⟩) n3 c3) := (blk_cellB h3.out.blk 5).trans (by rw [hn3, ← hvs3]; exact h3.sinks)
    have e7 : decide ((i : Int) < n3) = true := decide_eq_true (by omega)
    have e8 : decide (i < n3) = true := decide_eq_true (by omega)
    have hin : i < n3 := by omega
    obtain ⟨k, hk⟩ : ∃ k, k = ks3[i] := ⟨_, rfl⟩
    have hkk : ks3[i]? = some k := by rw [hk]; exact List.getElem?_eq_getElem hi3
    rw [← hk] at hcel
    obtain ⟨sb, hsb⟩ : ∃ sb, sb = k.1 := ⟨_, rfl⟩
    rw [← hsb] at hcel
    have hu : s.sk[i]? = some (s.sk.getD i (name, [])) := by rw [List.getD_eq_getElem?_getD, List.getElem?_eq_getElem HIL.out]; rfl
    have hst := sink_step base g i { s with size := s.size + t.size } t (s.sk.getD i (name, [])) k vo3 vs3 cs3 ks3 w w3 h3 HB3.out hkk hu (HLN.out _ (List.mem_of_getElem? hu)) HTS.out
    rw [← hsb] at hst
    have HST := Aside0.mk hst
    clear h3 hi3 hvs3 hn3 hk hkk hsb hu hst
    go_wp2_with (first
      | (go_at_call 16; refine HST.out.mono ?_; rintro e w4 ⟨rfl, h1, h2, h3⟩; have H4 := Aside0.mk h1; have HB4 := Aside0.mk h2; have HK4 := Aside0.mk (HK3.out.trans h3); clear h1 h2 h3))
    go_ret
    exact ⟨rfl, H4.out, HB4.out, HK4.out⟩
end Go.Proofs.Ytlccmkfkemilbaa.Bld
