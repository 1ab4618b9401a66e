/- Which block any page is, and that it is that one's page: in plain Lean, for every page. -/
import Derived.Test.YtbpnkgaomobpkaaPagT
import Derived.Test.YtbpnkgaomobpkaaPNxux10
set_option linter.unusedVariables false
set_option linter.unusedSimpArgs false
namespace Go.Proofs.Ytbpnkgaomobpkaa.Pure
open Go.RowKit Go.Proofs.Ytbpnkgaomobpkaa.PNxu Go.Proofs.YtbpnkgaomobpkaaW.PrintWords Go.Proofs.YtbpnkgaomobpkaaW.PrintLast Go.Proofs.Ytbpnkgaomobpkaa.Giv
theorem node_lives : Ev (fun k => aukletlaw22_lives.f k) true := ev_mono (fun k => aukletlaw22_lives.mono k) 12 (by decide +kernel)
theorem same_s (l : List ByteArray) (hl : l.length ≤ 1000000) : Ev (fun k => aukletref02_Same.f k l l) true := by
  unfold aukletref02_Same.f
  simp only [if_true]
  refine loop_acc (g := fun k i => aukletref02_Same.l0 k l l (i : Int)) l.length (fun i hi k => ?_) (Ev.step (f := fun _ => some true) (fun k => ?_) (Ev.now _)) l.length 0 (by omega)
  · simp only [aukletref02_Same.l0, if_true]
    rw [if_pos (by omega), if_pos (by omega), wrap_s i (by omega), if_pos (by omega)]
  · simp only [aukletref02_Same.l0]
    rw [if_neg (by omega)]
theorem same_i (l : List Int) (hl : l.length ≤ 1000000) : Ev (fun k => aukletref06_Same.f k l l) true := by
  unfold aukletref06_Same.f
  simp only [if_true]
  refine loop_acc (g := fun k i => aukletref06_Same.l0 k l l (i : Int)) l.length (fun i hi k => ?_) (Ev.step (f := fun _ => some true) (fun k => ?_) (Ev.now _)) l.length 0 (by omega)
  · simp only [aukletref06_Same.l0, if_true]
    rw [if_pos (by omega), if_pos (by omega), wrap_s i (by omega), if_pos (by omega)]
  · simp only [aukletref06_Same.l0]
    rw [if_neg (by omega)]
theorem same_b (b : Bool) (K V : List ByteArray) (D : List Int) (hK : K.length ≤ 1000000) (hV : V.length ≤ 1000000) (hD : D.length ≤ 1000000) : Ev (fun k => aukletref22_Same.f k b K V D b K V D) true := by
  unfold aukletref22_Same.f
  simp only [beq_self_eq_true, if_true]
  refine Ev.bind (same_s K hK) (Ev.congr (fun k => by rw [if_pos rfl]) (Ev.bind (same_s V hV) (Ev.congr (fun k => by rw [if_pos rfl]) (Ev.bind (f := fun _ t => some t) (same_i D hD) (Ev.now _)))))
theorem head_of {b : Bool} {K V : List ByteArray} {D : List Int} {p : List Int} (hp : p.length = 512) (ho : OkB p) (h : (strOfNums (page b K V D)).toList = (strOfNums p).toList) : (p.getD 0 0 = 1 ↔ b = true) ∧ (p.getD 0 0 = 2 ↔ b = false) := by
  have e : ∀ l : List Int, (strOfNums l).toList = l.map fun n => UInt8.ofNat n.toNat := fun l => by
    show ByteArray.toList ⟨(l.map fun n => UInt8.ofNat n.toNat).toArray⟩ = _
    rw [ByteArray.toList_eq]
  rw [e, e] at h
  have hb := ok_getD ho 0
  obtain ⟨x, q, rfl⟩ : ∃ x q, p = x :: q := by
    cases p with
    | nil => simp at hp
    | cons x q => exact ⟨x, q, rfl⟩
  have hx : (x :: q).getD 0 0 = x := rfl
  rw [hx] at hb ⊢
  have hhead : ∃ l, page b K V D = (if b = true then 1 else 2) :: l := by
    have : ∀ i, ∃ l, putTo b K V D i = (if b = true then 1 else 2) :: l := by
      intro i
      induction i with
      | zero => cases b <;> exact ⟨_, rfl⟩
      | succ i ih =>
        obtain ⟨l, hl⟩ := ih
        exact ⟨_, by show putTo b K V D i ++ _ = _; rw [hl]; rfl⟩
    obtain ⟨l, hl⟩ := this K.length
    exact ⟨_, by unfold page; rw [hl]; rfl⟩
  obtain ⟨l, hl⟩ := hhead
  rw [hl] at h
  simp only [List.map_cons, List.cons.injEq] at h
  have h1 := congrArg UInt8.toNat h.1
  rw [UInt8.toNat_ofNat', UInt8.toNat_ofNat'] at h1
  cases b with
  | true => simp at h1 ⊢; omega
  | false => simp at h1 ⊢; omega
/-- Both texts of Take, and what they tell. -/
theorem take_ev (p : List Int) (ho : OkB p) : ∃ b r, Ev (fun k => node_Take.f k p) r ∧ Ev (fun k => aukletref22_Take.f k p) r ∧ Res p b r := by
  by_cases hp : p.length = 512
  · have hb := ok_getD ho 0
    have hb1 := ok_getD ho 1
    have hb2 := ok_getD ho 2
    have t12 : (p.drop 1).take 2 = [p.getD 1 0, p.getD 2 0] := by
      apply List.ext_getElem
      · rw [List.length_take, List.length_drop, hp]; rfl
      · intro i h1 h2
        have : i = 0 ∨ i = 1 := by simp at h2; omega
        rcases this with rfl | rfl
        · rw [List.getElem_take, List.getElem_drop]
          show p[1] = p.getD 1 0
          rw [List.getD_eq_getElem?_getD, List.getElem?_eq_getElem (by omega)]; rfl
        · rw [List.getElem_take, List.getElem_drop]
          show p[2] = p.getD 2 0
          rw [List.getD_eq_getElem?_getD, List.getElem?_eq_getElem (by omega)]; rfl
    obtain ⟨n, hn⟩ : ∃ n : Nat, (n : Int) = p.getD 1 0 * 256 + p.getD 2 0 := ⟨(p.getD 1 0 * 256 + p.getD 2 0).toNat, by omega⟩
    have hn2 : n ≤ 65535 := by omega
    have e0 : node_rnew.f p = some (p, false, 0) := by unfold node_rnew.f; rw [if_pos ho]
    have e1 : node_num.f p false 0 1 = some (p.getD 0 0, false, 1) := by
      unfold node_num.f
      rw [if_pos rfl, if_neg (by omega)]
      have := get_drop (p := p) hp ho 0
      rw [show ((0 : Int)).toNat = 0 from rfl, this]; rfl
    have e2 : node_num.f p false 1 2 = some ((n : Int), false, 3) := by
      unfold node_num.f
      rw [if_neg (by decide), if_pos rfl, if_neg (by omega), show ((1 : Int)).toNat = 1 from rfl, t12, hn]; rfl
    have hnum2 : Ev (fun k => aukletref20_Num.f k ((p.take 3).drop 1)) (n : Int) := by
      have := num_ev2 [p.getD 1 0, p.getD 2 0] rfl (fun x hx => by
        simp only [List.mem_cons, List.not_mem_nil, or_false] at hx
        rcases hx with rfl | rfl
        · exact hb1
        · exact hb2)
      rw [List.drop_take, t12, hn]
      exact this
    have ok4 : OkB ((p.drop 3).take 4) := fun x hx => ho x (List.mem_of_mem_drop (List.mem_of_mem_take hx))
    obtain ⟨L, hL⟩ : ∃ L, L = (p.drop 3).take 4 := ⟨_, rfl⟩
    have hl4 : L.length = 4 := by rw [hL, List.length_take, List.length_drop, hp]; rfl
    rw [← hL] at ok4
    obtain ⟨hne, hq0, hq1⟩ := num_ev4 L hl4 ok4
    have e3 := node_num_ok hp ho 3 (by decide)
    rw [← hL] at e3
    obtain ⟨q, hq⟩ : ∃ q, q = num4 L := ⟨_, rfl⟩
    rw [← hq] at e3 hne hq0 hq1
    have HN : Aside0 (wrap64 (n : Int) = (n : Int)) := ⟨wrap_in (by omega) (by omega)⟩
    have HQ : Aside0 (wrap64 q = q) := ⟨wrap_in (by omega) (by omega)⟩
    -- the branch way of node.Take, and the leaf way
    have way : ∀ r, p.getD 0 0 ≠ 1 → Ev (fun k => node_Take.l0 k p (n : Int) ((0 : Nat) : Int) p false ((7 : Nat) : Int) false [] [] [q]) r → Ev (fun k => node_Take.f k p) r := fun r hne1 h => by
      refine Ev.congr (f := fun k => node_Take.j0 k p (n : Int) p false 7 false [q]) (fun k => ?_) (Ev.step (fun k => by simp only [node_Take.j0]; rfl) h)
      unfold node_Take.f
      rw [if_pos (by omega), e0]
      simp only [Option.bind_some]
      rw [e1]
      simp only [Option.bind_some]
      rw [e2]
      simp only [Option.bind_some]
      rw [if_neg hne1]
      have e3' : node_number4.f p false 3 = some (q, false, 7) := e3
      rw [e3']
      simp only [Option.bind_some]
      rw [if_pos (by simp), beq_eq_false_iff_ne.2 hne1]
      rfl
    by_cases c1 : p.getD 0 0 = 1
    · obtain ⟨r, h1, h2, h3⟩ := loop_ev hp ho true n hn2 n 0 3 [] [] [] (by omega) (by decide) rfl (fun s hs => by cases hs) (fun s hs => by cases hs) (by decide) (by decide)
      refine ⟨true, r, ?_, ?_, h3⟩
      · refine Ev.congr (f := fun k => node_Take.j0 k p (n : Int) p false 3 true []) (fun k => ?_) (Ev.step (fun k => by simp only [node_Take.j0]; rfl) h1)
        unfold node_Take.f
        rw [if_pos (by omega), e0]
        simp only [Option.bind_some]
        rw [e1]
        simp only [Option.bind_some]
        rw [e2]
        simp only [Option.bind_some]
        rw [if_pos c1, c1]
        rfl
      · have hr : rd p 0 = p.getD 0 0 := rfl
        unfold aukletref22_Take.f
        refine Ev.congr (f := fun k => aukletref22_Take.j0 k p false) (fun k => by rw [if_pos (by omega), if_pos (by omega), hr, if_pos c1]) ?_
        refine Ev.step (f := fun k => (aukletref20_Num.f k ((p.take 3).drop 1)).bind fun t => aukletref22_Take.j1 k p 3 (wrap64 t) true []) (fun k => ?_) (num_then (G := fun k t => aukletref22_Take.j1 k p 3 t true []) hnum2 HN.out (Ev.step (fun k => by simp only [aukletref22_Take.j1]; rfl) h2))
        simp only [aukletref22_Take.j0, Bool.false_eq_true, if_false]
        rw [if_pos (by omega), if_pos (by decide), if_pos (by omega), hr]
        simp only [c1, if_true, beq_self_eq_true]
    · obtain ⟨r, h1, h2, h3⟩ := loop_ev hp ho false n hn2 n 0 7 [] [] [q] (by omega) (by decide) rfl (fun s hs => by cases hs) (fun s hs => by cases hs) (by decide) (by simp)
      have h1' := way r c1 h1
      have hr : rd p 0 = p.getD 0 0 := rfl
      by_cases c2 : p.getD 0 0 = 2
      · refine ⟨false, r, h1', ?_, h3⟩
        unfold aukletref22_Take.f
        refine Ev.congr (f := fun k => aukletref22_Take.j0 k p false) (fun k => by rw [if_pos (by omega), if_pos (by omega), hr, if_neg c1, c2]; rfl) ?_
        refine Ev.step (f := fun k => (aukletref20_Num.f k ((p.take 3).drop 1)).bind fun t => (fun k t => (aukletref20_Num.f k L).bind fun u => aukletref22_Take.j1 k p 7 t false [wrap64 u]) k (wrap64 t)) (fun k => ?_) (num_then (G := fun k t => (aukletref20_Num.f k L).bind fun u => aukletref22_Take.j1 k p 7 t false [wrap64 u]) hnum2 HN.out (num_then (G := fun k u => aukletref22_Take.j1 k p 7 (n : Int) false [u]) hne HQ.out (Ev.step (fun k => by simp only [aukletref22_Take.j1]; rfl) h2)))
        simp only [aukletref22_Take.j0, Bool.false_eq_true, if_false]
        rw [if_pos (by omega), if_pos (by decide), if_pos (by omega), hr]
        have hcut : (p.take 7).drop 3 = L := by rw [hL]; exact List.drop_take
        have hlen : (7 : Int) ≤ (p.length : Int) := by omega
        have c1' : (p.getD 0 0 == 1) = false := beq_eq_false_iff_ne.2 c1
        simp only [hcut, c1, if_false, c1', show (3 : Int) ≤ 7 from by decide, if_true, hlen, List.length_nil, List.nil_append, show (0 : Nat) < 17592186044416 from by decide]
        rfl
      · have hrc : r = cor := by
          rcases h3 with h | ⟨K, V, D, h, _, _, hpg, _⟩
          · exact h
          · exact absurd ((head_of hp ho hpg).2.2 rfl) c2
        refine ⟨false, cor, hrc ▸ h1', ?_, .inl rfl⟩
        unfold aukletref22_Take.f
        refine Ev.congr (f := fun k => aukletref22_Take.j0 k p true) (fun k => by rw [if_pos (by omega), if_pos (by omega), hr, if_neg c1, bne_iff_ne.2 c2]) ?_
        exact Ev.step (f := fun _ => some cor) (fun k => by simp only [aukletref22_Take.j0, if_true]; rfl) (Ev.now _)
  · refine ⟨true, cor, Ev.congr (f := fun _ => some cor) (fun k => ?_) (Ev.now _), ?_, .inl rfl⟩
    · unfold node_Take.f; rw [if_neg (by omega)]; rfl
    · unfold aukletref22_Take.f
      refine Ev.congr (f := fun k => aukletref22_Take.j0 k p true) (fun k => by rw [if_neg (by omega)]) ?_
      exact Ev.step (f := fun _ => some cor) (fun k => by simp only [aukletref22_Take.j0, if_true]; rfl) (Ev.now _)
theorem wf_ok {p : List Int} (h : ∀ x ∈ p, (Lit.int .u8 x).wf = true) : OkB p := fun x hx => by
  have := h x hx
  simp [Lit.wf] at this
  have e1 : IntKind.u8.min = 0 := by decide
  have e2 : IntKind.u8.max = 255 := by decide
  omega
theorem NodeTakes : aukletlaw22_NodeTakes.Pure := by
  intro p h1 h2 h3
  have ho := wf_ok h3
  apply Ev.rounds
  obtain ⟨b, r, hn, hr, hres⟩ := take_ev p ho
  unfold aukletlaw22_NodeTakes.f
  refine Ev.congr (f := fun k => (node_Take.f k p).bind fun bt328 => ((aukletref22_Take.f k p).bind fun bt340 => (if bt328.2.2.2.2 = bt340.2.2.2.2 then ((aukletref22_Same.f k bt328.1 bt328.2.1 bt328.2.2.1 bt328.2.2.2.1 bt340.1 bt340.2.1 bt340.2.2.1 bt340.2.2.2.1).bind fun t352 => (aukletlaw22_NodeTakes.j0 k p bt328.2.2.2.2 (!t352) bt328.1 bt328.2.1 bt328.2.2.1 bt328.2.2.2.1)) else (aukletlaw22_NodeTakes.j0 k p bt328.2.2.2.2 true bt328.1 bt328.2.1 bt328.2.2.1 bt328.2.2.2.1)))) (fun k => ?_) (Ev.bind hn (Ev.bind hr ?_))
  · simp only [Option.bind_some, List.nil_append, List.length_nil]
    rw [if_pos (by omega)]
  simp only [if_true]
  rcases hres with rfl | ⟨K, V, D, rfl, hc, hneed, hpg, hK, hV, hD⟩
  · refine Ev.bind (same_b _ _ _ _ (by simp [cor]) (by simp [cor]) (by simp [cor])) (Ev.step (f := fun k => (aukletlaw22_lives.f k).bind fun t => some t) (fun k => ?_) (Ev.bind (f := fun _ t => some t) node_lives (Ev.now _)))
    simp only [aukletlaw22_NodeTakes.j0, Bool.not_true, Bool.false_eq_true, if_false]
    exact if_neg (by decide)
  · obtain ⟨r1, hp1, pr1⟩ := nput_ev b K V D hK hV hD
    have hr1 : r1 = (page b K V D, 0) := by
      rcases pr1 with ⟨e, _⟩ | ⟨_, e⟩ | ⟨_, _, e⟩
      · exact e
      · exact absurd hc e
      · omega
    subst hr1
    have hP : Ev (fun k => node_Put.f k b K V D) (page b K V D, 0) := by
      unfold node_Put.f
      exact Ev.bind (f := fun _ t => some (t.1, t.2)) hp1 (Ev.now _)
    have hKl := hK.1
    have hVl := hV.1
    refine Ev.bind (same_b b K V D (by omega) (by omega) (by omega)) (Ev.step (f := fun k => (node_Put.f k b K V D).bind fun t => if t.2 = 0 then (if (strOfNums t.1).toList = (strOfNums p).toList then ((aukletlaw22_lives.f k).bind fun t => some t) else some false) else some false) (fun k => ?_) (Ev.bind (f := fun k t => if t.2 = 0 then (if (strOfNums t.1).toList = (strOfNums p).toList then ((aukletlaw22_lives.f k).bind fun t => some t) else some false) else some false) hP (Ev.congr (fun k => ?_) (Ev.bind (f := fun _ t => some t) node_lives (Ev.now _)))))
    · simp only [aukletlaw22_NodeTakes.j0, Bool.not_true, Bool.false_eq_true, if_false, if_true]
    · rw [if_pos rfl, if_pos hpg]
end Go.Proofs.Ytbpnkgaomobpkaa.Pure
