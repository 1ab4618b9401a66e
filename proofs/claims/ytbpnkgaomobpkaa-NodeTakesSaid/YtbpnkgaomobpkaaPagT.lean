/- Pages taken: both texts of Take tell the same block, and it is that one's page. -/
import Derived.Test.YtbpnkgaomobpkaaPag
import Derived.Test.YtbpnkgaomobpkaaPNxux9
import Derived.Test.YtbpnkgaomobpkaaPNxux4
set_option linter.unusedVariables false
set_option linter.unusedSimpArgs false
set_option linter.unusedSectionVars false
namespace Go.Proofs.Ytbpnkgaomobpkaa.Pure
open Go.RowKit Go.Proofs.Ytbpnkgaomobpkaa.PNxu Go.Proofs.YtbpnkgaomobpkaaW.PrintWords Go.Proofs.YtbpnkgaomobpkaaW.PrintLast Go.Proofs.Ytbpnkgaomobpkaa.Giv
theorem small_of {l : List ByteArray} (h1 : l.length ≤ 100000) (h2 : ∀ s ∈ l, s.size ≤ 1000) : Small l := by
  refine ⟨h1, fun i => ?_⟩
  unfold sz
  rw [List.getD_eq_getElem?_getD]
  cases e : l[i]? with
  | none => exact Nat.zero_le _
  | some s => exact h2 s (List.mem_of_getElem? e)
theorem mem_snoc {l : List ByteArray} {s : ByteArray} (h : ∀ x ∈ l, x.size ≤ 1000) (hs : s.size ≤ 1000) : ∀ x ∈ l ++ [s], x.size ≤ 1000 := fun x hx => by
  rcases List.mem_append.1 hx with h1 | h1
  · exact h x h1
  · rw [List.mem_singleton.1 h1]; exact hs
theorem str_size (l : List Int) : (strOfNums l).size = l.length := by
  show (List.toArray _).size = _
  simp
def txR (p : List Int) (a : Nat) : Option (ByteArray × Nat) :=
  if a < p.length then (if (p.getD a 0).toNat ≤ p.length - a - 1 then some (strOfNums ((p.drop (a + 1)).take (p.getD a 0).toNat), a + 1 + (p.getD a 0).toNat) else none) else none
section
variable {p : List Int} (hp : p.length = 512) (ho : OkB p)
include hp ho
theorem txR_bd {a e : Nat} {s : ByteArray} (h : txR p a = some (s, e)) : s.size ≤ 255 ∧ e ≤ 512 := by
  have hb := ok_getD ho a
  unfold txR at h
  by_cases c : a < p.length
  · rw [if_pos c] at h
    by_cases c2 : (p.getD a 0).toNat ≤ p.length - a - 1
    · rw [if_pos c2] at h
      simp only [Option.some.injEq, Prod.mk.injEq] at h
      obtain ⟨rfl, rfl⟩ := h
      rw [str_size, List.length_take]
      omega
    · rw [if_neg c2] at h; cases h
  · rw [if_neg c] at h; cases h
theorem ref_tx (a : Nat) (ha : a ≤ 512) : aukletref22_text1.f p (a : Int) = some (match txR p a with | some (s, e) => (s, (e : Int), true) | none => (⟨#[]⟩, (a : Int), false)) := by
  have hb := ok_getD ho a
  have hr : rd p (a : Int) = p.getD a 0 := rfl
  have e0 : wrap64 (rd p (a : Int)) = p.getD a 0 := by rw [hr]; exact wrap_in (by omega) (by omega)
  have e1 : wrap64 (wrap64 ((p.length : Int) - (a : Int)) - 1) = (p.length : Int) - (a : Int) - 1 := by
    rw [wrap_in (x := (p.length : Int) - (a : Int)) (by omega) (by omega), wrap_in (by omega) (by omega)]
  have e2 : wrap64 ((a : Int) + 1) = ((a + 1 : Nat) : Int) := wrap_s a (by omega)
  unfold aukletref22_text1.f txR
  rw [e0, e1, e2]
  by_cases c : a < p.length
  · rw [if_neg (by omega), if_pos (by omega), if_pos (by omega), if_pos c]
    by_cases c2 : (p.getD a 0).toNat ≤ p.length - a - 1
    · have e3 : wrap64 (((a + 1 : Nat) : Int) + p.getD a 0) = ((a + 1 + (p.getD a 0).toNat : Nat) : Int) := by
        rw [wrap_in (by omega) (by omega)]; omega
      rw [e3, if_neg (by omega), if_pos (by omega), if_pos (by omega), if_pos (by omega), if_pos c2]
      simp only [Int.toNat_natCast]
      rw [List.drop_take, show a + 1 + (p.getD a 0).toNat - (a + 1) = (p.getD a 0).toNat by omega]
    · rw [if_pos (by omega), if_neg c2]
  · rw [if_pos (by omega), if_neg c]
theorem get_drop (a : Nat) : ((p.drop a).take 1).getD 0 0 = p.getD a 0 := by
  rw [List.getD_eq_getElem?_getD, List.getD_eq_getElem?_getD, List.getElem?_take_of_lt (by decide), List.getElem?_drop]; rfl
theorem node_tx (a : Nat) (ha : a ≤ 512) : ∃ s b e, node_rtext.f p false (a : Int) = some (s, b, e) ∧ s.size ≤ 255 ∧ (match txR p a with | some (s', e') => s = s' ∧ b = false ∧ e = (e' : Int) | none => b = true) := by
  have hb := ok_getD ho a
  unfold node_rtext.f
  by_cases c : a < p.length
  · have h1 : rtk p false (a : Int) 1 = ((p.drop a).take 1, false, (a : Int) + 1) := by
      unfold rtk; rw [if_neg (by omega)]; rfl
    simp only [h1]
    rw [get_drop hp ho]
    by_cases c2 : (p.getD a 0).toNat ≤ p.length - a - 1
    · have h2 : rtk p false ((a : Int) + 1) (p.getD a 0) = ((p.drop (a + 1)).take (p.getD a 0).toNat, false, (a : Int) + 1 + p.getD a 0) := by
        unfold rtk; rw [if_neg (by omega)]; rfl
      rw [h2]
      refine ⟨_, _, _, rfl, by rw [str_size, List.length_take]; omega, ?_⟩
      unfold txR
      rw [if_pos c, if_pos c2]
      exact ⟨rfl, rfl, (show (a : Int) + 1 + p.getD a 0 = ((a + 1 + (p.getD a 0).toNat : Nat) : Int) by omega)⟩
    · have h2 : rtk p false ((a : Int) + 1) (p.getD a 0) = (List.replicate (p.getD a 0).toNat 0, true, (a : Int) + 1) := by
        unfold rtk; rw [if_pos (by omega)]
      rw [h2]
      refine ⟨_, _, _, rfl, by rw [str_size, List.length_replicate]; omega, ?_⟩
      unfold txR
      rw [if_pos c, if_neg c2]
  · have h1 : rtk p false (a : Int) 1 = (List.replicate 1 0, true, (a : Int)) := by
      unfold rtk; rw [if_pos (by omega)]; rfl
    simp only [h1]
    have h2 : rtk p true (a : Int) ((List.replicate 1 (0 : Int)).getD 0 0) = ((p.drop a).take 0, true, (a : Int) + 0) := by
      unfold rtk; rw [if_neg (by show ¬ ((p.length : Int) - (a : Int) < 0); omega)]; rfl
    rw [h2]
    refine ⟨_, _, _, rfl, by rw [str_size]; simp, ?_⟩
    unfold txR
    rw [if_neg c]
theorem rtk_true (a n : Int) : ∃ l a', rtk p true a n = (l, true, a') := by
  unfold rtk
  split
  · exact ⟨_, _, rfl⟩
  · exact ⟨_, _, rfl⟩
theorem rtk_size (s : Bool) (a n : Int) (h : n ≤ 255) : (rtk p s a n).1.length ≤ 255 ∧ OkB (rtk p s a n).1 := by
  unfold rtk
  split
  · exact ⟨by rw [List.length_replicate]; omega, fun x hx => by rw [(List.mem_replicate.1 hx).2]; omega⟩
  · exact ⟨by rw [List.length_take]; omega, fun x hx => ho x (List.mem_of_mem_drop (List.mem_of_mem_take hx))⟩
theorem node_tx_short (a : Int) : ∃ s e, node_rtext.f p true a = some (s, true, e) ∧ s.size ≤ 255 := by
  unfold node_rtext.f
  obtain ⟨l, a1, h1⟩ := rtk_true hp ho a 1
  have ok := (rtk_size hp ho true a 1 (by decide)).2
  rw [h1] at ok
  simp only [h1]
  have hb : 0 ≤ l.getD 0 0 ∧ l.getD 0 0 < 256 := ok_getD ok 0
  obtain ⟨l2, a2, h2⟩ := rtk_true hp ho a1 (l.getD 0 0)
  have hs := (rtk_size hp ho true a1 (l.getD 0 0) (by omega)).1
  rw [h2] at hs
  rw [h2]
  exact ⟨_, _, rfl, by rw [str_size]; exact hs⟩
theorem node_num_ok (a : Nat) (ha : a + 4 ≤ 512) : node_number4.f p false (a : Int) = some (num4 ((p.drop a).take 4), false, ((a + 4 : Nat) : Int)) := by
  unfold node_number4.f rtk
  rw [if_neg (by omega)]; rfl
theorem node_num_short (a : Nat) (ha : ¬ a + 4 ≤ 512) : ∃ d e, node_number4.f p false (a : Int) = some (d, true, e) := by
  unfold node_number4.f rtk
  rw [if_pos (by omega)]
  exact ⟨_, _, rfl⟩
theorem node_num_true (a : Int) : ∃ d e, node_number4.f p true a = some (d, true, e) := by
  unfold node_number4.f
  obtain ⟨l, a1, h1⟩ := rtk_true hp ho a 4
  rw [h1]
  exact ⟨_, _, rfl⟩
omit hp ho in
theorem num_ev4 (l : List Int) (hl : l.length = 4) (ok : OkB l) : Ev (fun k => aukletref20_Num.f k l) (num4 l) ∧ 0 ≤ num4 l ∧ num4 l < 4294967296 := by
  have o0 := ok_getD ok 0
  have o1 := ok_getD ok 1
  have o2 := ok_getD ok 2
  have o3 := ok_getD ok 3
  have w8 : ∀ x : Int, 0 ≤ x → x < 4294967296 → IntKind.u64.wrap x = x := fun x h1 h2 => by simp [IntKind.wrap, IntKind.bits, IntKind.signed]; omega
  have st : ∀ (i : Nat) (x : Int), i < 4 → 0 ≤ x → x * 256 + l.getD i 0 < 4294967296 → 0 ≤ l.getD i 0 ∧ l.getD i 0 < 256 → ∀ k, aukletref20_Num.l0 (k + 1) l x (i : Int) = aukletref20_Num.l0 k l (x * 256 + l.getD i 0) ((i + 1 : Nat) : Int) := fun i x hi h1 h2 h3 k => by
    have hr : rd l (i : Int) = l.getD i 0 := rfl
    simp only [aukletref20_Num.l0]
    rw [if_pos (by omega), if_pos (by omega), hr, w8 (x * 256) (by omega) (by omega), w8 (l.getD i 0) (by omega) (by omega), w8 _ (by omega) (by omega), wrap_s i (by omega)]
  refine ⟨?_, by unfold num4; omega, by unfold num4; omega⟩
  unfold aukletref20_Num.f
  refine Ev.step (st 0 0 (by decide) (by decide) (by omega) o0) (Ev.step (st 1 _ (by decide) (by omega) (by omega) o1) (Ev.step (st 2 _ (by decide) (by omega) (by omega) o2) (Ev.step (st 3 _ (by decide) (by omega) (by omega) o3) (Ev.step (f := fun _ => some (num4 l)) (fun k => ?_) (Ev.now _)))))
  simp only [aukletref20_Num.l0]
  rw [if_neg (by omega)]
  unfold num4
  congr 1
  omega
omit hp ho in
theorem num_ev2 (l : List Int) (hl : l.length = 2) (ok : OkB l) : Ev (fun k => aukletref20_Num.f k l) (l.getD 0 0 * 256 + l.getD 1 0) := by
  have o0 := ok_getD ok 0
  have o1 := ok_getD ok 1
  have w8 : ∀ x : Int, 0 ≤ x → x < 4294967296 → IntKind.u64.wrap x = x := fun x h1 h2 => by simp [IntKind.wrap, IntKind.bits, IntKind.signed]; omega
  have st : ∀ (i : Nat) (x : Int), i < 2 → 0 ≤ x → x * 256 + l.getD i 0 < 4294967296 → 0 ≤ l.getD i 0 ∧ l.getD i 0 < 256 → ∀ k, aukletref20_Num.l0 (k + 1) l x (i : Int) = aukletref20_Num.l0 k l (x * 256 + l.getD i 0) ((i + 1 : Nat) : Int) := fun i x hi h1 h2 h3 k => by
    have hr : rd l (i : Int) = l.getD i 0 := rfl
    simp only [aukletref20_Num.l0]
    rw [if_pos (by omega), if_pos (by omega), hr, w8 (x * 256) (by omega) (by omega), w8 (l.getD i 0) (by omega) (by omega), w8 _ (by omega) (by omega), wrap_s i (by omega)]
  unfold aukletref20_Num.f
  refine Ev.step (st 0 0 (by decide) (by decide) (by omega) o0) (Ev.step (st 1 _ (by decide) (by omega) (by omega) o1) (Ev.step (f := fun _ => some (l.getD 0 0 * 256 + l.getD 1 0)) (fun k => ?_) (Ev.now _)))
  simp only [aukletref20_Num.l0]
  rw [if_neg (by omega)]
  congr 1
  omega
end
abbrev Blk := Bool × List ByteArray × List ByteArray × List Int × Int
def cor : Blk := (false, [], [], [], 200)
def Res (p : List Int) (b : Bool) (r : Blk) : Prop :=
  r = cor ∨ ∃ K V D, r = (b, K, V, D, 0) ∧ CanP b K V D ∧ needTo b K V K.length ≤ 509 ∧ (strOfNums (page b K V D)).toList = (strOfNums p).toList ∧ Small K ∧ Small V ∧ D.length ≤ 100000
theorem num_then {β : Type} {L : List Int} {q : Int} {r : β} {G : Nat → Int → Option β} (hne : Ev (fun k => aukletref20_Num.f k L) q) (hq : wrap64 q = q) (h : Ev (fun k => G k q) r) : Ev (fun k => (aukletref20_Num.f k L).bind fun t => G k (wrap64 t)) r :=
  Ev.bind (f := fun k t => G k (wrap64 t)) hne (by simp only [hq]; exact h)
section
variable {p : List Int} (hp : p.length = 512) (ho : OkB p) (b : Bool)
theorem fin_ev (K V : List ByteArray) (D : List Int) (hK : Small K) (hV : Small V) (hD : D.length ≤ 100000) : ∃ r, Ev (fun k => (node_put.f k b K V D).bind fun t => if t.2 = 0 then (if (strOfNums t.1).toList = (strOfNums p).toList then some (b, K, V, D, 0) else some cor) else some cor) r ∧
    Ev (fun k => (aukletref22_Put.f k b K V D).bind fun t => if t.2 = 0 then (if (strOfNums t.1).toList = (strOfNums p).toList then some (b, K, V, D, 0) else some cor) else some cor) r ∧ Res p b r := by
  obtain ⟨r1, h1, p1⟩ := nput_ev b K V D hK hV hD
  obtain ⟨r2, h2, p2⟩ := rput_ev b K V D hK hV hD
  obtain rfl := putR_one b K V D p1 p2
  obtain ⟨r, hr, hres⟩ : ∃ r, (if r1.2 = 0 then (if (strOfNums r1.1).toList = (strOfNums p).toList then some ((b, K, V, D, 0) : Blk) else some cor) else some cor) = some r ∧ Res p b r := by
    rcases p1 with ⟨rfl, a, c⟩ | ⟨rfl, a⟩ | ⟨rfl, a, c⟩
    · rw [if_pos rfl]
      by_cases e : (strOfNums (page b K V D, (0 : Int)).1).toList = (strOfNums p).toList
      · rw [if_pos e]; exact ⟨_, rfl, .inr ⟨K, V, D, rfl, a, c, e, hK, hV, hD⟩⟩
      · rw [if_neg e]; exact ⟨_, rfl, .inl rfl⟩
    · rw [if_neg (by decide)]; exact ⟨_, rfl, .inl rfl⟩
    · rw [if_neg (by decide)]; exact ⟨_, rfl, .inl rfl⟩
  refine ⟨r, Ev.bind (f := fun _ t => if t.2 = 0 then (if (strOfNums t.1).toList = (strOfNums p).toList then some ((b, K, V, D, 0) : Blk) else some cor) else some cor) h1 (Ev.congr (fun _ => hr) (Ev.now r)), Ev.bind (f := fun _ t => if t.2 = 0 then (if (strOfNums t.1).toList = (strOfNums p).toList then some ((b, K, V, D, 0) : Blk) else some cor) else some cor) h2 (Ev.congr (fun _ => hr) (Ev.now r)), hres⟩
theorem node_short (n : Int) (i : Int) (a : Int) (K V : List ByteArray) (D : List Int) (hK : Small K) (hV : Small V) (hD : D.length ≤ 100000) : Ev (fun k => node_Take.l0 k p n i p true a b K V D) cor := by
  obtain ⟨r1, h1, p1⟩ := nput_ev b K V D hK hV hD
  refine Ev.step (f := fun k => (node_put.f k b K V D).bind fun _ => some cor) (fun k => ?_) (Ev.bind (f := fun _ _ => some cor) h1 (Ev.now _))
  simp only [node_Take.l0, if_true]
  by_cases c : i < n
  · rw [if_pos c]; rfl
  · rw [if_neg c]; rfl
include hp ho
theorem loop_ev (n : Nat) (hn : n ≤ 65535) : ∀ (d i a : Nat) (K V : List ByteArray) (D : List Int), i + d = n → a ≤ 512 → K.length = i → (∀ s ∈ K, s.size ≤ 1000) → (∀ s ∈ V, s.size ≤ 1000) → V.length ≤ i → D.length ≤ i + 1 →
    ∃ r, Ev (fun k => node_Take.l0 k p (n : Int) (i : Int) p false (a : Int) b K V D) r ∧ Ev (fun k => aukletref22_Take.l0 k p (a : Int) (n : Int) (i : Int) b K V D) r ∧ Res p b r := by
  intro d
  induction d with
  | zero =>
    intro i a K V D hi ha hK sK sV hV hD
    obtain ⟨r, h1, h2, h3⟩ := fin_ev (p := p) b K V D (small_of (by omega) sK) (small_of (by omega) sV) (by omega)
    refine ⟨r, Ev.step (fun k => ?_) h1, Ev.step (fun k => ?_) h2, h3⟩
    · simp only [node_Take.l0, Bool.false_eq_true, if_false]
      rw [if_neg (by omega)]; rfl
    · simp only [aukletref22_Take.l0]
      rw [if_neg (by omega)]; rfl
  | succ d ih =>
    intro i a K V D hi ha hK sK sV hV hD
    obtain ⟨s, sb, e, hs, hsz, hm⟩ := node_tx hp ho a ha
    have href := ref_tx hp ho a ha
    have sK' := mem_snoc sK (s := s) (by omega)
    have lK' : (K ++ [s]).length = i + 1 := by rw [List.length_append, hK]; rfl
    have smK' : Small (K ++ [s]) := small_of (by omega) sK'
    have smV : Small V := small_of (by omega) sV
    cases ht : txR p a with
    | none =>
      rw [ht] at hm href
      have hm : sb = true := hm
      subst hm
      refine ⟨cor, ?_, Ev.step (f := fun _ => some cor) (fun k => ?_) (Ev.now _), .inl rfl⟩
      · cases b with
        | true =>
          obtain ⟨v, e2, hv, hvs⟩ := node_tx_short hp ho e
          refine Ev.step (fun k => ?_) (node_short (p := p) true (n : Int) (wrap64 ((i : Int) + 1)) e2 (K ++ [s]) (V ++ [v]) D smK' (small_of (by rw [List.length_append]; simp; omega) (mem_snoc sV (by omega))) (by omega))
          simp only [node_Take.l0, Bool.false_eq_true, if_false]
          rw [if_pos (by omega), hs]
          simp only [Option.bind_some]
          rw [if_pos (by omega), if_pos trivial, hv]
          simp only [Option.bind_some]
          rw [if_pos (by omega)]
        | false =>
          obtain ⟨v, e2, hv⟩ := node_num_true hp ho e
          refine Ev.step (fun k => ?_) (node_short (p := p) false (n : Int) (wrap64 ((i : Int) + 1)) e2 (K ++ [s]) V (D ++ [v]) smK' smV (by rw [List.length_append]; simp; omega))
          simp only [node_Take.l0, Bool.false_eq_true, if_false]
          rw [if_pos (by omega), hs]
          simp only [Option.bind_some]
          rw [if_pos (by omega), hv]
          simp only [Option.bind_some]
          rw [if_pos (by omega)]
      · simp only [aukletref22_Take.l0]
        rw [if_pos (by omega), href]
        rfl
    | some se =>
      obtain ⟨s', e'⟩ := se
      rw [ht] at hm href
      obtain ⟨rfl, rfl, rfl⟩ := hm
      have hbd := txR_bd hp ho ht
      cases b with
      | true =>
        obtain ⟨v, vb, e2, hv, hvs, hvm⟩ := node_tx hp ho e' hbd.2
        have href2 := ref_tx hp ho e' hbd.2
        have sV' := mem_snoc sV (s := v) (by omega)
        have lV' : (V ++ [v]).length ≤ i + 1 := by rw [List.length_append]; simp; omega
        have nstep : ∀ k, node_Take.l0 (k + 1) p (n : Int) (i : Int) p false (a : Int) true K V D = node_Take.l0 k p (n : Int) (wrap64 ((i : Int) + 1)) p vb e2 true (K ++ [s]) (V ++ [v]) D := fun k => by
          simp only [node_Take.l0, Bool.false_eq_true, if_false]
          rw [if_pos (by omega), hs]
          simp only [Option.bind_some]
          rw [if_pos (by omega), if_pos trivial, hv]
          simp only [Option.bind_some]
          rw [if_pos (by omega)]
        cases ht2 : txR p e' with
        | none =>
          rw [ht2] at hvm href2
          have hvm : vb = true := hvm
          subst hvm
          refine ⟨cor, Ev.step nstep (node_short (p := p) true (n : Int) _ e2 _ _ D smK' (small_of (by omega) sV') (by omega)), Ev.step (f := fun _ => some cor) (fun k => ?_) (Ev.now _), .inl rfl⟩
          simp only [aukletref22_Take.l0]
          rw [if_pos (by omega), href]
          simp only [Option.bind_some, if_true]
          rw [if_pos (by omega), href2]
          rfl
        | some ve =>
          obtain ⟨v', e3⟩ := ve
          rw [ht2] at hvm href2
          obtain ⟨rfl, rfl, rfl⟩ := hvm
          have hbd2 := txR_bd hp ho ht2
          obtain ⟨r, h1, h2, h3⟩ := ih (i + 1) e3 (K ++ [s]) (V ++ [v]) D (by omega) hbd2.2 lK' sK' sV' lV' (by omega)
          refine ⟨r, Ev.step (fun k => by rw [nstep k, wrap_s i (by omega)]) h1, Ev.step (fun k => ?_) h2, h3⟩
          simp only [aukletref22_Take.l0]
          rw [if_pos (by omega), href]
          simp only [Option.bind_some, if_true]
          rw [if_pos (by omega), href2]
          simp only [Option.bind_some, if_true]
          rw [if_pos (by omega), wrap_s i (by omega)]
      | false =>
        have nstep : ∀ v vb e2, node_number4.f p false (e' : Int) = some (v, vb, e2) → ∀ k, node_Take.l0 (k + 1) p (n : Int) (i : Int) p false (a : Int) false K V D = node_Take.l0 k p (n : Int) (wrap64 ((i : Int) + 1)) p vb e2 false (K ++ [s]) V (D ++ [v]) := fun v vb e2 hv k => by
          simp only [node_Take.l0, Bool.false_eq_true, if_false]
          rw [if_pos (by omega), hs]
          simp only [Option.bind_some]
          rw [if_pos (by omega), hv]
          simp only [Option.bind_some]
          rw [if_pos (by omega)]
        have E4 : Aside0 (wrap64 ((e' : Int) + 4) = ((e' + 4 : Nat) : Int)) := ⟨(wrap_in (by omega) (by omega)).trans (by omega)⟩
        by_cases c4 : e' + 4 ≤ 512
        · obtain ⟨L, hL⟩ : ∃ L, L = (p.drop e').take 4 := ⟨_, rfl⟩
          have hv := node_num_ok hp ho e' c4
          have ok4 : OkB L := fun x hx => ho x (List.mem_of_mem_drop (List.mem_of_mem_take (hL ▸ hx)))
          have hl1 : (p.drop e').length = 512 - e' := by rw [List.length_drop, hp]
          have hl4 : L.length = 4 := (congrArg List.length hL).trans (List.length_take.trans (Nat.min_eq_left (by omega)))
          have hnn := num_ev4 L hl4 ok4
          obtain ⟨hne, hb0, hb1⟩ := hnn
          rw [← hL] at hv
          obtain ⟨q, hq⟩ : ∃ q, q = num4 L := ⟨_, rfl⟩
          rw [← hq] at hv hne hb0 hb1
          obtain ⟨r, h1, h2, h3⟩ := ih (i + 1) (e' + 4) (K ++ [s]) V (D ++ [q]) (by omega) c4 lK' sK' sV (by omega) (by rw [List.length_append, List.length_singleton]; omega)
          have hlt : D.length < 17592186044416 := by omega
          have hq2 : Aside0 (wrap64 q = q) := ⟨wrap_in (by omega) (by omega)⟩
          refine ⟨r, Ev.step (fun k => by rw [nstep _ _ _ hv k, wrap_s i (by omega)]) h1, Ev.step (fun k => ?_) (num_then (G := fun k t => aukletref22_Take.l0 k p ((e' + 4 : Nat) : Int) (n : Int) ((i + 1 : Nat) : Int) false (K ++ [s]) V (D ++ [t])) hne hq2.out h2), h3⟩
          simp only [aukletref22_Take.l0]
          rw [if_pos (by omega), href]
          simp only [Option.bind_some, if_true]
          rw [if_pos (by omega), if_neg (by simp), E4.out, if_neg (by omega), if_pos (by omega), if_pos (by omega), if_pos (by omega), wrap_s i (by omega)]
          simp only [Int.toNat_natCast, if_pos hlt]
          rw [List.drop_take, show e' + 4 - e' = 4 by omega, ← hL]
        · obtain ⟨v, e2, hv⟩ := node_num_short hp ho e' c4
          refine ⟨cor, Ev.step (nstep _ _ _ hv) (node_short (p := p) false (n : Int) _ e2 _ _ _ smK' smV (by rw [List.length_append]; simp; omega)), Ev.step (f := fun _ => some cor) (fun k => ?_) (Ev.now _), .inl rfl⟩
          simp only [aukletref22_Take.l0]
          rw [if_pos (by omega), href]
          simp only [Option.bind_some, if_true]
          rw [if_pos (by omega), if_neg (by simp), E4.out, if_pos (by omega)]
          rfl
end
end Go.Proofs.Ytbpnkgaomobpkaa.Pure
