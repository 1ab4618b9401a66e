/- Wal: Commit, walked by hand. -/
import Derived.Test.YtmghgghheebnjaaWalJ
namespace Go.Proofs.Ytmghgghheebnjaa.Dis
open Go.RowKit Go.Proofs.YtmghgghheebnjaaW.PrintWords Go.Proofs.YtmghgghheebnjaaW.PrintLast Go.Proofs.YtmghgghheebnjaaW.PrintMore Go.Maps Go.Proofs.Ytmghgghheebnjaa.PWalRecords
set_option linter.unusedVariables false
set_option linter.unusedSimpArgs false
def enumW (k : Nat) : List (List Int) → List (Int × List Int)
  | [] => []
  | s :: ss => ((k : Int), s) :: enumW (k + 1) ss
def badW (n : Int) (p : S58) : Bool := !thereB n p.f0 || !decide (p.f1.length = 512)
def commitD (d : D) (seq : Int) (l : List S58) : D × Int × Int :=
  if l.any (badW d.n) = true then (d, seq, 1) else if l.length = 0 then (d, seq, 0) else if seq = 18446744073709551615 then (d, seq, 8)
  else if recE (seq + 1) l ≠ 0 then (d, seq, recE (seq + 1) l)
  else if (wrD d (enumW 0 (recS (seq + 1) l))).2 ≠ 0 then ((wrD d (enumW 0 (recS (seq + 1) l))).1, seq, (wrD d (enumW 0 (recS (seq + 1) l))).2)
  else if (flushD (wrD d (enumW 0 (recS (seq + 1) l))).1).2 ≠ 0 then ((flushD (wrD d (enumW 0 (recS (seq + 1) l))).1).1, seq, (flushD (wrD d (enumW 0 (recS (seq + 1) l))).1).2)
  else ((writesD (flushD (wrD d (enumW 0 (recS (seq + 1) l))).1).1 l).1, seq + 1, (writesD (flushD (wrD d (enumW 0 (recS (seq + 1) l))).1).1 l).2)
theorem enumW_len : ∀ (l : List (List Int)) (k : Nat), (enumW k l).length = l.length
  | [], _ => rfl
  | s :: ss, k => by simp [enumW, enumW_len ss]
theorem pad_ok {b : List Int} (h : b.length ≤ 512) (ho : BytesOk b) : (pad b).length = 512 ∧ BytesOk (pad b) := pad_sec h ho
theorem bodyTo_ok {n k : Nat} {l : List S58} (h : ∀ p ∈ l, BytesOk p.f1) : BytesOk (bodyTo n k l) := by
  unfold bodyTo
  refine BytesOk.append (bigB_ok _ _) (fun x hx => ?_)
  obtain ⟨s, hs, hxs⟩ := List.mem_flatten.1 hx
  obtain ⟨p, hp, rfl⟩ := List.mem_map.1 hs
  unfold pageB at hxs
  exact BytesOk.append (bigB_ok _ _) (h p (List.mem_of_mem_take hp)) x hxs
theorem sectB_ok {seq : Int} {n i : Nat} {b : List Int} (h : BytesOk b) : (sectB seq n i b).length = 512 ∧ BytesOk (sectB seq n i b) := by
  unfold sectB
  refine pad_ok ?_ (BytesOk.append (bigB_ok _ _) (BytesOk.append (bigB_ok _ _) (BytesOk.append (bigB_ok _ _) ((h.drop _).take _))))
  simp only [List.length_append, bigB_len, List.length_take]
  omega
theorem recS_ok {seq : Int} {l : List S58} (h : ∀ p ∈ l, BytesOk p.f1) : ∀ s ∈ recS seq l, s.length = 512 ∧ BytesOk s := by
  intro s hs
  unfold recS at hs
  obtain ⟨i, _, rfl⟩ := List.mem_map.1 hs
  exact sectB_ok (bodyTo_ok h)
theorem recE_0 {seq : Int} {l : List S58} (h : recE seq l = 0) : seq ≠ 0 ∧ l.any (fun p => badB p.f0 p.f1.length) = false ∧ l.length ≤ 64 ∧ secsN l.length ≤ 64 := by
  unfold recE at h
  split at h
  · simp at h
  · rename_i h1
    split at h
    · simp at h
    · rename_i h2
      split at h
      · simp at h
      · split at h
        · simp at h
        · exact ⟨h1, by simpa using h2, by omega, by omega⟩
set_option maxHeartbeats 16000000 in
set_option maxRecDepth 100000 in
theorem commit_c (base gw g : Nat) (seq : Int) (d : D) (w W : World) (A : Option Addr) (n c : Nat) (l : List S58) (hp : PgL W A n l) (hw : IsWl W gw g seq) (h : IsD base W g d) (hB : Below base w W) (hbase : base ≤ w.heap.size) (hgw : base ≤ gw)
    (hs0 : 0 ≤ seq) (hs1 : seq < 18446744073709551616) (hok : ∀ p ∈ l, BytesOk p.f1) (hcnt : d.cnt + 200 < 1000000) (hn : n ≤ 100000) :
    Calls Try.prog 20 #[.pointer (some ⟨gw, 0, none⟩), .slice A n c] W fun e w' => e = .returned (.int .i64 (commitD d seq l).2.2) ∧ IsD base w' g (commitD d seq l).1 ∧ IsWl w' gw g (commitD d seq l).2.1 ∧ Below base w w' ∧ KeepW W w' := by
  obtain ⟨R0, hR0⟩ : ∃ R0, R0 = commitD d seq l := ⟨_, rfl⟩
  rw [← hR0]
  have HR0 := Aside0.mk hR0
  have HP := Aside0.mk hp
  have HW := Aside0.mk hw
  have HD := Aside0.mk h
  have HB := Aside0.mk hB
  have HC := Aside0.mk (And.intro hbase (And.intro hcnt hgw))
  have HS := Aside0.mk (And.intro hs0 hs1)
  have HOK := Aside0.mk hok
  have HL := Aside0.mk hp.len
  clear hR0 hp hw h hB hbase hcnt hgw hs0 hs1 hok
  go_enter Try.func20, Try.ntmps20
  go_upto_region 1 with fail
  obtain ⟨w0, hw0⟩ : ∃ w0, w0 = W.alloc (.cells #[.pointer (some ⟨gw, 0, none⟩)] 39) := ⟨_, rfl⟩
  have hb0 : Below W.heap.size W w0 := by rw [hw0]; exact below_alloc (Below.refl _ _) _
  have q0 : w0.heap[W.heap.size]? = some (.cells #[.pointer (some ⟨gw, 0, none⟩)] 39 (0, 0)) := by rw [hw0]; exact blk_new W _
  rw [← hw0]
  clear hw0
  obtain ⟨gb, hgb⟩ : ∃ gb, gb = W.heap.size := ⟨_, rfl⟩
  rw [← hgb] at q0 ⊢
  clear hgb
  have hbs : base ≤ W.heap.size := Nat.le_trans HC.out.1 HB.out.size
  have HBS := Aside0.mk hbs
  have HQ := Aside0.mk q0
  have HP0 := Aside0.mk (HP.out.keep (KeepW.of_below hb0))
  have HW0 := Aside0.mk (HW.out.below hb0)
  have HD0 := Aside0.mk (HD.out.below hb0)
  have HB0 := Aside0.mk (HB.out.trans (hb0.mono hbs))
  have HK0 := Aside0.mk (KeepW.of_below hb0)
  have HWS := Aside0.mk hb0.size
  have HCT := Aside0.mk (contains51_c (base := base) (gw := gw) (g := g) (gb := gb) (seq := seq) (d := d) (W := w0) (c := c) (HP0.out.C (by omega)) (by omega) q0 HW0.out HD0.out)
  clear hb0 q0 hbs
  obtain ⟨bad, hbad⟩ : ∃ bad, bad = l.any (badW d.n) := ⟨_, rfl⟩
  have HBAD := Aside0.mk hbad
  rw [show (l.any (fun p => !thereB d.n p.f0 || !decide (p.f1.length = 512))) = bad from hbad.symm] at HCT
  clear hbad
  cases bad with
  | true =>
    have hR : R0 = (d, seq, 1) := by rw [HR0.out]; unfold commitD; rw [if_pos HBAD.out.symm]
    have HR := Aside0.mk hR
    clear hR
    go_wp2_with (go_at_call 50; refine HCT.out.mono ?_; rintro e w1 ⟨rfl, h1⟩; have HB1 := Aside0.mk h1; clear h1)
    go_ret
    rw [HR.out]
    exact ⟨rfl, HD0.out.below HB1.out, HW0.out.below HB1.out, HB0.out.trans (HB1.out.mono (Nat.le_trans HBS.out HWS.out)), HK0.out.trans (KeepW.of_below HB1.out)⟩
  | false =>
  by_cases hz : n = 0
  · have hR : R0 = (d, seq, 0) := by rw [HR0.out]; unfold commitD; rw [if_neg (by rw [← HBAD.out]; decide), if_pos (by rw [HL.out]; exact hz)]
    have HR := Aside0.mk hR
    have f1 : ((n : Int) == 0) = true := by simp [hz]
    clear hR hz
    go_wp2_with (go_at_call 50; refine HCT.out.mono ?_; rintro e w1 ⟨rfl, h1⟩; have HB1 := Aside0.mk h1; clear h1)
    go_ret
    rw [HR.out]
    exact ⟨rfl, HD0.out.below HB1.out, HW0.out.below HB1.out, HB0.out.trans (HB1.out.mono (Nat.le_trans HBS.out HWS.out)), HK0.out.trans (KeepW.of_below HB1.out)⟩
  have f1 : ((n : Int) == 0) = false := by simp; omega
  have HZ := Aside0.mk hz
  clear hz
  go_upto_region 5 with (go_at_call 50; refine HCT.out.mono ?_; rintro e w1 ⟨rfl, h1⟩; have HB1 := Aside0.mk h1; clear h1)
  have bx := (blk_cell (blk_below HQ.out HB1.out) 0).trans (rfl : _ = some (Value.pointer (some ⟨gw, 0, none⟩)))
  have sx := (blk_cell (HW0.out.below HB1.out) 1).trans (rfl : _ = some (Value.int .u64 seq))
  have dx := (blk_cell (HW0.out.below HB1.out) 0).trans (rfl : _ = some (Value.pointer (some ⟨g, 0, none⟩)))
  by_cases hmx : seq = 18446744073709551615
  · have hR : R0 = (d, seq, 8) := by rw [HR0.out]; unfold commitD; rw [if_neg (by rw [← HBAD.out]; decide), if_neg (by rw [HL.out]; exact HZ.out), if_pos hmx]
    have HR := Aside0.mk hR
    have f2 : (seq == 18446744073709551615) = true := by simp [hmx]
    clear hR hmx
    go_wp2
    go_ret
    rw [HR.out]
    exact ⟨rfl, HD0.out.below HB1.out, HW0.out.below HB1.out, HB0.out.trans (HB1.out.mono (Nat.le_trans HBS.out HWS.out)), HK0.out.trans (KeepW.of_below HB1.out)⟩
  have f2 : (seq == 18446744073709551615) = false := by simp [hmx]
  have hs2 : IntKind.u64.wrap (seq + 1) = seq + 1 := u64_in (by have := HS.out; omega) (by have := HS.out; omega)
  have hR : R0 = if recE (seq + 1) l ≠ 0 then (d, seq, recE (seq + 1) l)
      else if (wrD d (enumW 0 (recS (seq + 1) l))).2 ≠ 0 then ((wrD d (enumW 0 (recS (seq + 1) l))).1, seq, (wrD d (enumW 0 (recS (seq + 1) l))).2)
      else if (flushD (wrD d (enumW 0 (recS (seq + 1) l))).1).2 ≠ 0 then ((flushD (wrD d (enumW 0 (recS (seq + 1) l))).1).1, seq, (flushD (wrD d (enumW 0 (recS (seq + 1) l))).1).2)
      else ((writesD (flushD (wrD d (enumW 0 (recS (seq + 1) l))).1).1 l).1, seq + 1, (writesD (flushD (wrD d (enumW 0 (recS (seq + 1) l))).1).1 l).2) := by
    rw [HR0.out]; unfold commitD; rw [if_neg (by rw [← HBAD.out]; decide), if_neg (by rw [HL.out]; exact HZ.out), if_neg hmx]
  have HRC := Aside0.mk (record_c w1 (seq + 1) A n c l ((HP0.out.keep (KeepW.of_below HB1.out)).C (by omega)) (by omega) (by have := HS.out; omega) (by have := HS.out; omega))
  have HMX := Aside0.mk hmx
  obtain ⟨er, her⟩ : ∃ er, er = recE (seq + 1) l := ⟨_, rfl⟩
  rw [← her] at HRC hR
  have HER := Aside0.mk her
  clear her hmx HR0
  by_cases he : er = 0
  case neg =>
    have f3 : (er != 0) = true := by simp [he]
    rw [if_pos he] at hR
    have HR := Aside0.mk hR
    clear hR he
    go_wp2_with (go_at_call 37; refine HRC.out.mono ?_; rintro e w2 ⟨v2, rfl, h1, h2⟩; have HB2 := Aside0.mk (HB1.out.trans (h2.mono HB1.out.size)); clear h1 h2)
    go_ret
    rw [HR.out]
    exact ⟨rfl, HD0.out.below HB2.out, HW0.out.below HB2.out, HB0.out.trans (HB2.out.mono (Nat.le_trans HBS.out HWS.out)), HK0.out.trans (KeepW.of_below HB2.out)⟩
  rw [if_neg (fun h => h he)] at hR
  have hr0 := recE_0 (HER.out.symm.trans he)
  have hrr : recR (seq + 1) l = recS (seq + 1) l := by unfold recR; rw [if_pos (HER.out.symm.trans he)]
  rw [hrr] at HRC
  subst he
  have hsl : (recS (seq + 1) l).length = secsN l.length := by unfold recS; simp
  have hso := recS_ok (seq := seq + 1) HOK.out
  obtain ⟨rs, hrs⟩ : ∃ rs, rs = recS (seq + 1) l := ⟨_, rfl⟩
  rw [← hrs] at HRC hR hsl hso
  have hNl : rs.length ≤ 64 := by omega
  obtain ⟨N, hN⟩ : ∃ N, N = rs.length := ⟨_, rfl⟩
  have HSO := Aside0.mk hso
  have HRR := Aside0.mk hr0
  obtain ⟨T, hT⟩ : ∃ T, T = wrD d (enumW 0 rs) := ⟨_, rfl⟩
  rw [← hT] at hR
  have HT := Aside0.mk hT
  have HR := Aside0.mk hR
  have HNN := Aside0.mk hN
  have hN64 : N ≤ 64 := by omega
  clear hrr hsl hso hrs hr0 hT hR hN hNl
  go_upto_region 8 with (go_at_call 37; refine HRC.out.mono ?_; rintro e w2 ⟨v2, rfl, h1, h2⟩; have HB2 := Aside0.mk (HB1.out.trans (h2.mono HB1.out.size)); have HV2 := Aside0.mk h1; clear h1 h2)
  obtain ⟨Ar, cr, hv2, _, hsc⟩ := scL_of_R HV2.out
  subst hv2
  rw [← HNN.out] at hsc ⊢
  have HSC := Aside0.mk hsc
  have HD2 := Aside0.mk (HD0.out.below HB2.out)
  have HW2 := Aside0.mk (HW0.out.below HB2.out)
  have HBb2 := Aside0.mk (HB0.out.trans (HB2.out.mono (Nat.le_trans HBS.out HWS.out)))
  have HQ2 := Aside0.mk (blk_below HQ.out HB2.out)
  have HK2 := Aside0.mk (HK0.out.trans (KeepW.of_below HB2.out))
  clear hsc bx sx dx
  go_wp2_with fail
  go_loopw [40] (fun x wr => ∃ (k : Nat) (d' : D), k ≤ N ∧ x = .int .i64 k ∧ Aside0 (T = wrD d' (enumW k (rs.drop k))) ∧ Aside0 (IsD base wr g d') ∧ Aside0 (Below base w wr) ∧ Aside0 (KeepD w2 wr) ∧ Aside0 (d'.cnt ≤ d.cnt + k)) (fun x _ => N - (intOf x).toNat)
  case atStart => exact ⟨0, d, Nat.zero_le _, rfl, ⟨by rw [List.drop_zero]; exact HT.out⟩, HD2, HBb2, ⟨KeepD.refl _⟩, ⟨Nat.le_refl _⟩⟩
  case round =>
    obtain ⟨k, d', hk, rfl, HTk, HDk, HBk, HKk, HNk⟩ := hrel
    have bx := (blk_cell (HKk.out.2 _ _ _ _ HQ2.out (by decide) (by decide)) 0).trans (rfl : _ = some (Value.pointer (some ⟨gw, 0, none⟩)))
    have dx := (blk_cell (HW2.out.keep HKk.out) 0).trans (rfl : _ = some (Value.pointer (some ⟨g, 0, none⟩)))
    by_cases hlt : k < N
    · have g1 : decide ((k : Int) < N) = true := decide_eq_true (by omega)
      obtain ⟨ad, A1, c1, hA, hle, hat⟩ := HSC.out.at_ k hlt
      subst hA
      have hkl : k < rs.length := by rw [← HNN.out]; exact hlt
      have hg := HSO.out (rs.getD k []) (by rw [List.getD_eq_getElem?_getD, List.getElem?_eq_getElem hkl]; exact List.getElem_mem _)
      have hdr : rs.drop k = rs.getD k [] :: rs.drop (k + 1) := by rw [List.getD_eq_getElem?_getD, List.getElem?_eq_getElem hkl]; exact List.drop_eq_getElem_cons hkl
      obtain ⟨s, hs⟩ : ∃ s, s = rs.getD k [] := ⟨_, rfl⟩
      rw [← hs] at hle hat hg hdr
      clear hs
      have p0 := (hat wr HKk.out.w).1
      rw [hg.1] at p0
      have HWR := Aside0.mk (write_c base g d' (k : Int) A1 c1 s w wr HDk.out HBk.out (fun W' h4 => (hat W' (HKk.out.w.trans h4)).2) hg.2 (by have := HNk.out; have := HC.out; omega) HC.out.1)
      rw [hg.1] at HWR
      have hT2 : T = if (writeD d' (k : Int) s).2 = 0 then wrD (writeD d' (k : Int) s).1 (enumW (k + 1) (rs.drop (k + 1))) else writeD d' (k : Int) s := by rw [HTk.out, hdr]; rfl
      have hcn := writeD_cnt d' (k : Int) s
      obtain ⟨r, hr⟩ : ∃ r, r = writeD d' (k : Int) s := ⟨_, rfl⟩
      rw [← hr] at HWR hT2 hcn
      obtain ⟨d2, e2⟩ := r
      dsimp only at HWR hT2 hcn
      have HT2 := Aside0.mk hT2
      have HCN := Aside0.mk (show d2.cnt ≤ d.cnt + (k + 1) by have := HNk.out; omega)
      clear hle hat hg hdr hr hT2 hcn hkl
      by_cases h0 : e2 = 0
      · subst h0
        have hT3 := HT2.out
        rw [if_pos rfl] at hT3
        have HT3 := Aside0.mk hT3
        clear hT3
        go_wp2_with (go_at_call 52; refine HWR.out.mono ?_; rintro e w5 ⟨rfl, h1, h2, h3⟩; have HD5 := Aside0.mk h1; have HB5 := Aside0.mk h2; have HK5 := Aside0.mk (HKk.out.trans h3); clear h1 h2 h3)
        go_roundw
        case rel => exact ⟨k + 1, d2, by omega, by go_num, HT3, HD5, HB5, HK5, HCN⟩
        case measure => simp [intOf]; omega
      · have g2 : (e2 != 0) = true := by simp [h0]
        have hT3 := HT2.out
        rw [if_neg h0] at hT3
        have hR := HR.out
        rw [hT3, if_pos (show (d2, e2).2 ≠ 0 from h0)] at hR
        have HR2 := Aside0.mk hR
        clear h0 hT3 hR
        go_wp2_with (go_at_call 52; refine HWR.out.mono ?_; rintro e w5 ⟨rfl, h1, h2, h3⟩; have HD5 := Aside0.mk h1; have HB5 := Aside0.mk h2; have HK5 := Aside0.mk (HKk.out.trans h3); clear h1 h2 h3)
        go_ret
        rw [HR2.out]
        exact ⟨rfl, HD5.out, HW2.out.keep HK5.out, HB5.out, HK2.out.trans HK5.out.w⟩
    · obtain rfl : k = N := by omega
      have g1 : decide ((k : Int) < k) = false := decide_eq_false (by omega)
      have hT2 := HTk.out
      rw [List.drop_of_length_le (by rw [← HNN.out]; exact Nat.le_refl _)] at hT2
      have hT3 : T = (d', 0) := hT2
      have hR := HR.out
      rw [hT3, if_neg (fun h => h rfl)] at hR
      dsimp only at hR
      have HFL := Aside0.mk (flush_calls base g d' w wr HDk.out HBk.out HC.out.1 (by have := HNk.out; have := HC.out; omega))
      have hfc : (flushD d').1.cnt = d'.cnt := by unfold flushD; split <;> exact callD_cnt d'
      obtain ⟨f, hf⟩ : ∃ f, f = flushD d' := ⟨_, rfl⟩
      rw [← hf] at HFL hR hfc
      clear hT2 hT3 hf
      obtain ⟨df, ef⟩ := f
      dsimp only at HFL hR hfc
      have HFC := Aside0.mk hfc
      clear hfc
      by_cases h0 : ef = 0
      case neg =>
        have g2 : (ef != 0) = true := by simp [h0]
        rw [if_pos h0] at hR
        have HR2 := Aside0.mk hR
        clear h0 hR
        go_wp2_with (go_at_call 53; refine HFL.out.mono ?_; rintro e w5 ⟨rfl, h1, h2, h3⟩; have HD5 := Aside0.mk h1; have HB5 := Aside0.mk h2; have HK5 := Aside0.mk (HKk.out.trans h3); clear h1 h2 h3)
        go_ret
        rw [HR2.out]
        exact ⟨rfl, HD5.out, HW2.out.keep HK5.out, HB5.out, HK2.out.trans HK5.out.w⟩
      subst h0
      rw [if_neg (fun h => h rfl)] at hR
      have HR2 := Aside0.mk hR
      clear hR
      go_upto_region 20 with (go_at_call 53; refine HFL.out.mono ?_; rintro e w5 ⟨rfl, h1, h2, h3⟩; have HD5 := Aside0.mk h1; have HB5 := Aside0.mk h2; have HK5 := Aside0.mk (HKk.out.trans h3); clear h1 h2 h3)
      have hw5 := HW2.out.keep HK5.out
      have hq5 := HK5.out.2 _ _ _ _ HQ2.out (by decide) (by decide)
      have bx5 := (blk_cell hq5 0).trans (rfl : _ = some (Value.pointer (some ⟨gw, 0, none⟩)))
      have sx5 := (blk_cell hw5 1).trans (rfl : _ = some (Value.int .u64 seq))
      have fx5 := blk_frozen hw5 1
      have HW5 := Aside0.mk hw5
      have HQ5 := Aside0.mk hq5
      clear hw5 hq5 bx dx
      go_upto_region 21 with fail
      have ht81 : ∀ k, (some gw : Option Nat) = some k → ∃ cs t, w5.heap[k]? = some (.cells cs t (0, 0)) ∧ t ≠ 88 ∧ t ≠ 106 := fun k e => by cases e; exact ⟨_, 81, HW5.out, by decide, by decide⟩
      have hne : gb ≠ gw := by
        intro e
        have h1 := HQ5.out
        have h2 : w5.heap[gw]? = _ := HW5.out
        rw [e, h2] at h1
        injection h1 with h1
        injection h1 with _ h3
        exact absurd h3 (by decide)
      have hd6 := HD5.out.grown (grown_set w5 gw 1 (.int .u64 (seq + 1))) ht81
      have hw6 := HW5.out.put (s1 := seq + 1)
      have hb6 := HB5.out.setCell (p := ⟨gw, 1, none⟩) HC.out.2.2 (.int .u64 (seq + 1))
      have hk6 := (HK2.out.trans HK5.out.w).set (j := 1) HW5.out (.int .u64 (seq + 1))
      have hq6 := (Below.heap_setCell w5 ⟨gw, 1, none⟩ (.int .u64 (seq + 1)) gb hne).trans HQ5.out
      clear bx5 sx5 fx5 ht81 hne
      generalize w5.setCell ⟨gw, 1, none⟩ (.int .u64 (seq + 1)) = w6 at hd6 hw6 hb6 hk6 hq6 ⊢
      have bx6 := (blk_cell hq6 0).trans (rfl : _ = some (Value.pointer (some ⟨gw, 0, none⟩)))
      have hgo := good_all HRR.out.2.1
      have HWC := Aside0.mk (writes_c base gw g (seq + 1) df w w6 A n c l (HP.out.keep hk6) hw6 hd6 hb6 HC.out.1 (fun p hp => ⟨HOK.out p hp, (hgo p hp).1, (hgo p hp).2.1⟩) (by have h1 := HFC.out; have h2 := HNk.out; have h3 := HC.out; have h4 := HRR.out.2.2.1; have h5 := HL.out; omega) (by omega))
      have HW6 := Aside0.mk hw6
      have HK6 := Aside0.mk hk6
      obtain ⟨r6, hr6⟩ : ∃ r6, r6 = writesD df l := ⟨_, rfl⟩
      rw [← hr6] at HWC
      have HR6 := Aside0.mk hr6
      clear hgo hd6 hw6 hb6 hk6 hq6 hr6
      go_wp2_with (go_at_call 49; refine HWC.out.mono ?_; rintro e w7 ⟨rfl, h1, h2, h3⟩; have HX := Aside0.mk (And.intro h1 (And.intro h2 h3)); clear h1 h2 h3)
      go_ret
      rw [HR2.out, ← HR6.out]
      exact ⟨rfl, HX.out.1, HW6.out.keep HX.out.2.2, HX.out.2.1, HK6.out.trans HX.out.2.2.w⟩
end Go.Proofs.Ytmghgghheebnjaa.Dis
