/- What is a block, how much it needs, its page, and that it comes back: in plain Lean, for every block. -/
import Derived.Test.YtbpnkgaomobpkaaPagP
import Derived.Test.YtbpnkgaomobpkaaQPut
set_option linter.unusedVariables false
set_option linter.unusedSimpArgs false
namespace Go.Proofs.Ytbpnkgaomobpkaa.Pure
open Go.RowKit Go.Proofs.Ytbpnkgaomobpkaa.PNxu Go.Proofs.YtbpnkgaomobpkaaW.PrintWords Go.Proofs.YtbpnkgaomobpkaaW.PrintLast Go.Proofs.Ytbpnkgaomobpkaa.Giv
theorem node_lives : Ev (fun k => aukletlaw22_lives.f k) true := ev_mono (fun k => aukletlaw22_lives.mono k) 12 (by decide +kernel)
theorem same_s (l : List ByteArray) (hl : l.length ≤ 1000000) : Ev (fun k => aukletref02_Same.f k l l) true := by
  unfold aukletref02_Same.f
  simp only [if_true]
  refine loop_acc (g := fun k i => aukletref02_Same.l0 k l l (i : Int)) l.length (fun i hi k => ?_) (Ev.step (f := fun _ => some true) (fun k => ?_) (Ev.now _)) l.length 0 (by omega)
  · simp only [aukletref02_Same.l0, if_true]
    rw [if_pos (by omega), if_pos (by omega), wrap_s i (by omega), if_pos (by omega)]
  · simp only [aukletref02_Same.l0]
    rw [if_neg (by omega)]
theorem same_i (l : List Int) (hl : l.length ≤ 1000000) : Ev (fun k => aukletref06_Same.f k l l) true := by
  unfold aukletref06_Same.f
  simp only [if_true]
  refine loop_acc (g := fun k i => aukletref06_Same.l0 k l l (i : Int)) l.length (fun i hi k => ?_) (Ev.step (f := fun _ => some true) (fun k => ?_) (Ev.now _)) l.length 0 (by omega)
  · simp only [aukletref06_Same.l0, if_true]
    rw [if_pos (by omega), if_pos (by omega), wrap_s i (by omega), if_pos (by omega)]
  · simp only [aukletref06_Same.l0]
    rw [if_neg (by omega)]
theorem same_b (b : Bool) (K V : List ByteArray) (D : List Int) (hK : K.length ≤ 1000000) (hV : V.length ≤ 1000000) (hD : D.length ≤ 1000000) : Ev (fun k => aukletref22_Same.f k b K V D b K V D) true := by
  unfold aukletref22_Same.f
  simp only [beq_self_eq_true, if_true]
  refine Ev.bind (same_s K hK) (Ev.congr (fun k => by rw [if_pos rfl]) (Ev.bind (same_s V hV) (Ev.congr (fun k => by rw [if_pos rfl]) (Ev.bind (f := fun _ t => some t) (same_i D hD) (Ev.now _)))))
/-! ### few -/
section
variable (b : Bool) (K V : List ByteArray) (D : List Int)
theorem few_l1 (hV : V.length ≤ 300) : ∃ r, Ev (fun k => aukletlaw22_few.l1 k 0 b K V D) r ∧ (r = true ↔ ∀ j, 0 ≤ j → j < V.length → sz V j ≤ 1000) := by
  obtain ⟨r, hr, he⟩ := loop_all (g := fun k i => aukletlaw22_few.l1 k (i : Int) b K V D) V.length (fun i => sz V i ≤ 1000) true
    (fun i hi hp k => by
      simp only [aukletlaw22_few.l1]
      rw [if_pos (by omega), if_pos (by omega), if_neg (by rw [rd_sz]; omega), wrap_s i (by omega)])
    (fun i hi hp k => by
      simp only [aukletlaw22_few.l1]
      rw [if_pos (by omega), if_pos (by omega), if_pos (by rw [rd_sz]; omega)])
    (Ev.step (f := fun _ => some true) (fun k => by
      simp only [aukletlaw22_few.l1]
      rw [if_neg (by omega)]) (Ev.now _)) V.length 0 (by omega)
  exact ⟨r, hr, he.trans ⟨fun h => h.1, fun h => ⟨h, rfl⟩⟩⟩
theorem few_l0 (hK : K.length ≤ 300) (hV : V.length ≤ 300) : ∃ r, Ev (fun k => aukletlaw22_few.l0 k 0 b K V D) r ∧ (r = true → (∀ j, j < K.length → sz K j ≤ 1000) ∧ ∀ j, j < V.length → sz V j ≤ 1000) := by
  obtain ⟨t, ht, hte⟩ := few_l1 b K V D hV
  obtain ⟨r, hr, he⟩ := loop_all (g := fun k i => aukletlaw22_few.l0 k (i : Int) b K V D) K.length (fun i => sz K i ≤ 1000) t
    (fun i hi hp k => by
      simp only [aukletlaw22_few.l0]
      rw [if_pos (by omega), if_pos (by omega), if_neg (by rw [rd_sz]; omega), wrap_s i (by omega)])
    (fun i hi hp k => by
      simp only [aukletlaw22_few.l0]
      rw [if_pos (by omega), if_pos (by omega), if_pos (by rw [rd_sz]; omega)])
    (Ev.step (fun k => by
      simp only [aukletlaw22_few.l0]
      rw [if_neg (by omega)]) ht) K.length 0 (by omega)
  exact ⟨r, hr, fun h => ⟨fun j hj => (he.1 h).1 j (Nat.zero_le _) hj, fun j hj => hte.1 (he.1 h).2 j (Nat.zero_le _) hj⟩⟩
theorem few_ev : ∃ r, Ev (fun k => aukletlaw22_few.f k b K V D) r ∧ (r = true → Small K ∧ Small V ∧ D.length ≤ 300) := by
  have no : Ev (fun k => aukletlaw22_few.j0 k true b K V D) false := Ev.step (f := fun _ => some false) (fun k => by simp only [aukletlaw22_few.j0, if_true]) (Ev.now _)
  unfold aukletlaw22_few.f
  by_cases h1 : (K.length : Int) > 300
  · simp only [if_pos h1]
    exact ⟨false, no, fun e => by cases e⟩
  · simp only [if_neg h1]
    by_cases h2 : (V.length : Int) > 300
    · simp only [if_pos h2]
      exact ⟨false, no, fun e => by cases e⟩
    · simp only [if_neg h2]
      by_cases h3 : (D.length : Int) > 300
      · rw [decide_eq_true h3]
        exact ⟨false, no, fun e => by cases e⟩
      · rw [decide_eq_false h3]
        obtain ⟨r, hr, he⟩ := few_l0 b K V D (by omega) (by omega)
        have all : ∀ l : List ByteArray, (∀ j, j < l.length → sz l j ≤ 1000) → ∀ i, sz l i ≤ 1000 := fun l h i => by
          by_cases c : i < l.length
          · exact h i c
          · rw [sz_out (by omega)]; omega
        exact ⟨r, Ev.step (fun k => by simp only [aukletlaw22_few.j0, Bool.false_eq_true, if_false]) hr, fun h => ⟨⟨by omega, all K (he h).1⟩, ⟨by omega, all V (he h).2⟩, by omega⟩⟩
/-! ### node.Need -/
theorem pad_sz (m i : Nat) : sz (V ++ List.replicate m ⟨#[]⟩) i = sz V i := by
  unfold sz
  rw [List.getD_eq_getElem?_getD, List.getD_eq_getElem?_getD]
  by_cases c : i < V.length
  · rw [List.getElem?_append_left c]
  · rw [List.getElem?_append_right (by omega), List.getElem?_eq_none (show V.length ≤ i by omega), List.getElem?_replicate]
    split <;> rfl
theorem pad_need (m n : Nat) : needTo b K (V ++ List.replicate m ⟨#[]⟩) n = needTo b K V n := by
  induction n with
  | zero => rfl
  | succ n ih =>
    show needTo b K _ n + item b K _ n = needTo b K V n + item b K V n
    rw [ih]
    unfold item
    rw [pad_sz]
theorem nNeed_ev (hK : Small K) (hV : Small V) : Ev (fun k => node_Need.f k b K V D) (needTo b K V K.length) := by
  have hKl := hK.1
  have hVl := hV.1
  have plain : (b = true → K.length ≤ V.length) → Ev (fun k => node_Need.j0 k false b K V D) (needTo b K V K.length) := fun hb => by
    refine Ev.step (f := fun k => (node_need.f k b K V D (K.length : Int)).bind fun t => some t) (fun k => ?_) (Ev.bind (f := fun _ t => some t) (nneed_ev b K V D hK hV K.length (Nat.le_refl _) hb) (Ev.now _))
    simp only [node_Need.j0, Bool.false_eq_true, if_false]
  unfold node_Need.f
  cases b with
  | false =>
    simp only [Bool.false_eq_true, if_false]
    exact plain (fun h => by cases h)
  | true =>
    simp only [if_true]
    by_cases c : (V.length : Int) < (K.length : Int)
    · rw [decide_eq_true c]
      have e1 : wrap64 ((K.length : Int) - (V.length : Int)) = ((K.length - V.length : Nat) : Int) := (wrap_in (by omega) (by omega)).trans (by omega)
      have sm : Small (V ++ List.replicate (K.length - V.length) ⟨#[]⟩) := ⟨by rw [List.length_append, List.length_replicate]; omega, fun i => by rw [pad_sz]; exact hV.2 i⟩
      have h := nneed_ev true K (V ++ List.replicate (K.length - V.length) ⟨#[]⟩) D hK sm K.length (Nat.le_refl _) (fun _ => by rw [List.length_append, List.length_replicate]; omega)
      rw [pad_need] at h
      refine Ev.step (f := fun k => (node_need.f k true K (V ++ List.replicate (K.length - V.length) ⟨#[]⟩) D (K.length : Int)).bind fun t => some t) (fun k => ?_) (Ev.bind (f := fun _ t => some t) h (Ev.now _))
      simp only [node_Need.j0, if_true, slices_Clone_string_string.f, Option.bind_some, List.nil_append, List.length_nil]
      rw [if_pos (by omega)]
      simp only [Option.bind_some]
      rw [e1, if_pos (by omega)]
      simp only [Int.toNat_natCast]
      rw [if_pos (by omega)]
    · rw [decide_eq_false c]
      exact plain (fun _ => by omega)
end
/-! ### a page comes back -/
theorem str_bytes (s : ByteArray) : strOfNums (bytesOf s) = s := by
  unfold strOfNums bytesOf
  rw [List.map_map]
  have : ((fun n : Int => UInt8.ofNat n.toNat) ∘ fun c : UInt8 => (c.toNat : Int)) = id := by
    funext c
    simp
  rw [this, List.map_id]
theorem ok_bytes (s : ByteArray) : OkB (bytesOf s) := fun x hx => by
  unfold bytesOf at hx
  obtain ⟨c, _, rfl⟩ := List.mem_map.1 hx
  have := c.toNat_lt
  omega
theorem ok_app {a b : List Int} (h1 : OkB a) (h2 : OkB b) : OkB (a ++ b) := fun x hx => (List.mem_append.1 hx).elim (h1 x) (h2 x)
theorem ok_be4 (d : Int) : OkB (be4 d) := fun x hx => by
  simp only [be4, List.mem_cons, List.not_mem_nil, or_false] at hx
  omega
theorem ok_tx (l : List ByteArray) (i : Nat) : OkB (tx l i) := fun x hx => by
  rcases List.mem_cons.1 hx with rfl | h
  · omega
  · exact ok_bytes _ x h
section
variable (b : Bool) (K V : List ByteArray) (D : List Int)
theorem ok_put (i : Nat) : OkB (putTo b K V D i) := by
  induction i with
  | zero =>
    have h3 : ∀ z : Int, 0 ≤ z → z < 256 → OkB [z, ((K.length : Int) / 256) % 256, (K.length : Int) % 256] := fun z h1 h2 x hx => by
      simp only [List.mem_cons, List.not_mem_nil, or_false] at hx
      omega
    cases b with
    | true => exact h3 1 (by decide) (by decide)
    | false => exact ok_app (h3 2 (by decide) (by decide)) (ok_be4 _)
  | succ i ih =>
    refine ok_app ih (ok_app (ok_tx K i) ?_)
    cases b with
    | true => exact ok_tx V i
    | false => exact ok_be4 _
theorem ok_page : OkB (page b K V D) := ok_app (ok_put b K V D _) (fun x hx => by rw [(List.mem_replicate.1 hx).2]; omega)
theorem page_split (n : Nat) : ∀ d i, i + d = n → ∃ q, putTo b K V D n = putTo b K V D i ++ q := by
  intro d
  induction d with
  | zero => intro i hi; exact ⟨[], by rw [show i = n by omega]; simp⟩
  | succ d ih =>
    intro i hi
    obtain ⟨q, hq⟩ := ih (i + 1) (by omega)
    exact ⟨_, by rw [hq]; show (putTo b K V D i ++ _) ++ q = _; rw [List.append_assoc]⟩
theorem page_at (i : Nat) (hi : i < K.length) : ∃ q, page b K V D = putTo b K V D i ++ ((tx K i ++ if b = true then tx V i else be4 (rd D ((i + 1 : Nat) : Int))) ++ q) := by
  obtain ⟨q, hq⟩ := page_split b K V D K.length (K.length - (i + 1)) (i + 1) (by omega)
  refine ⟨q ++ List.replicate (512 - (putTo b K V D K.length).length) 0, ?_⟩
  unfold page
  rw [← List.append_assoc, ← List.append_assoc]
  congr 1
theorem tx_at (pre rest : List Int) (l : List ByteArray) (i : Nat) (hs : sz l i ≤ 255) : txR (pre ++ (tx l i ++ rest)) pre.length = some (l.getD i ByteArray.empty, pre.length + 1 + sz l i) := by
  have e : (sz l i : Int) % 256 = (sz l i : Int) := by omega
  have h0 : (pre ++ (tx l i ++ rest)).getD pre.length 0 = (sz l i : Int) := by
    rw [List.getD_eq_getElem?_getD, List.getElem?_append_right (Nat.le_refl _), Nat.sub_self]
    show ((sz l i : Int) % 256) = _
    exact e
  have hd : (pre ++ (tx l i ++ rest)).drop (pre.length + 1) = bytesOf (l.getD i ByteArray.empty) ++ rest := by
    rw [List.drop_append, List.drop_eq_nil_of_le (by omega), show pre.length + 1 - pre.length = 1 by omega]; rfl
  have hl : (bytesOf (l.getD i ByteArray.empty)).length = sz l i := bytesOf_length _
  unfold txR
  rw [h0, hd, if_pos (by simp [tx_len]; omega), if_pos (by simp only [List.length_append, tx_len, Int.toNat_natCast]; omega)]
  simp only [Int.toNat_natCast]
  rw [List.take_append_of_le_length (by omega), List.take_of_length_le (by omega), str_bytes]
theorem num_be4 (d : Int) (h : 1 ≤ d ∧ d ≤ 2147483647) : num4 (be4 d) = d := by
  show (d / 16777216) % 256 * 16777216 + (d / 65536) % 256 * 65536 + (d / 256) % 256 * 256 + d % 256 = d
  omega
theorem num_at (pre rest : List Int) (d : Int) : ((pre ++ (be4 d ++ rest)).drop pre.length).take 4 = be4 d := by
  rw [List.drop_left]; rfl
theorem take_snoc_s (l : List ByteArray) (i : Nat) (h : i < l.length) : l.take i ++ [l.getD i ByteArray.empty] = l.take (i + 1) := by
  rw [List.take_succ_eq_append_getElem h, List.getD_eq_getElem?_getD, List.getElem?_eq_getElem h]; rfl
theorem take_snoc_i (l : List Int) (i : Nat) (h : i < l.length) : l.take i ++ [rd l (i : Int)] = l.take (i + 1) := by
  rw [List.take_succ_eq_append_getElem h]
  unfold rd
  rw [Int.toNat_natCast, List.getD_eq_getElem?_getD, List.getElem?_eq_getElem h]; rfl
theorem loop_page (hK : Small K) (hV : Small V) (hc : CanP b K V D) (hn : needTo b K V K.length ≤ 509) (hD : D.length ≤ 100000) :
    Ev (fun k => node_Take.l0 k (page b K V D) (K.length : Int) ((0 : Nat) : Int) (page b K V D) false (((putTo b K V D 0).length : Nat) : Int) b (K.take 0) (V.take 0) (D.take (if b = true then 0 else 1))) (b, K, V, D, 0) := by
  have hp : (page b K V D).length = 512 := by
    have := put_bd b K V D hK hV hn (i := K.length) (Nat.le_refl _)
    unfold page; rw [List.length_append, List.length_replicate]; omega
  have ho := ok_page b K V D
  have hKl := hK.1
  have hgK : ∀ i, i < K.length → sz K i ≤ 200 := fun i hi => (hc.1 i (Nat.zero_le _) hi).1
  refine loop_acc (g := fun k i => node_Take.l0 k (page b K V D) (K.length : Int) (i : Int) (page b K V D) false (((putTo b K V D i).length : Nat) : Int) b (K.take i) (V.take i) (D.take (if b = true then 0 else i + 1))) K.length (fun i hi k => ?_) ?_ K.length 0 (by omega)
  · obtain ⟨q, hq⟩ := page_at b K V D i hi
    have hbd := put_bd b K V D hK hV hn (i := i) (by omega)
    obtain ⟨s, sb, e, hs, hsz, hm⟩ := node_tx hp ho (putTo b K V D i).length hbd
    have ht : txR (page b K V D) (putTo b K V D i).length = some (K.getD i ByteArray.empty, (putTo b K V D i).length + 1 + sz K i) := by
      rw [hq, List.append_assoc]
      exact tx_at _ _ K i (by have := hgK i hi; omega)
    rw [ht] at hm
    obtain ⟨rfl, rfl, rfl⟩ := hm
    have lk : (K.take i).length < 8796093022208 := by rw [List.length_take]; omega
    cases b with
    | true =>
      obtain ⟨t1, t2, t3⟩ := tail_v hc.2
      have hbd2 := put_bd true K V D hK hV hn (i := i + 1) (by omega)
      have hlen : (putTo true K V D (i + 1)).length = (putTo true K V D i).length + 1 + sz K i + (1 + sz V i) := by
        show (putTo true K V D i ++ (tx K i ++ if true = true then tx V i else _)).length = _
        rw [if_pos rfl, List.length_append, List.length_append, tx_len, tx_len]; omega
      obtain ⟨v, vb, e2, hv, hvs, hvm⟩ := node_tx hp ho ((putTo true K V D i).length + 1 + sz K i) (by omega)
      have hpl : (putTo true K V D i ++ tx K i).length = (putTo true K V D i).length + 1 + sz K i := by rw [List.length_append, tx_len]; omega
      have ht2 : txR (page true K V D) ((putTo true K V D i).length + 1 + sz K i) = some (V.getD i ByteArray.empty, (putTo true K V D i).length + 1 + sz K i + 1 + sz V i) := by
        rw [hq, if_pos rfl, List.append_assoc, ← List.append_assoc, ← hpl]
        exact tx_at _ _ V i (by have := t3 i (by omega); omega)
      rw [ht2] at hvm
      obtain ⟨rfl, rfl, rfl⟩ := hvm
      have lv : (V.take i).length < 8796093022208 := by rw [List.length_take]; omega
      simp only [node_Take.l0, Bool.false_eq_true, if_false]
      rw [if_pos (by omega), hs]
      simp only [Option.bind_some, if_true]
      rw [if_pos lk, hv]
      simp only [Option.bind_some]
      rw [if_pos lv, wrap_s i (by omega), take_snoc_s K i hi, take_snoc_s V i (by omega), hlen]
      congr 1
      omega
    | false =>
      obtain ⟨t1, t2, t3⟩ := tail_d hc.2
      have hbd2 := put_bd false K V D hK hV hn (i := i + 1) (by omega)
      have hlen : (putTo false K V D (i + 1)).length = (putTo false K V D i).length + 1 + sz K i + 4 := by
        show (putTo false K V D i ++ (tx K i ++ if false = true then _ else be4 _)).length = _
        rw [if_neg (by simp), List.length_append, List.length_append, tx_len, be4_len]; omega
      have hv := node_num_ok hp ho ((putTo false K V D i).length + 1 + sz K i) (by omega)
      have hpl : (putTo false K V D i ++ tx K i).length = (putTo false K V D i).length + 1 + sz K i := by rw [List.length_append, tx_len]; omega
      have hnum : ((page false K V D).drop ((putTo false K V D i).length + 1 + sz K i)).take 4 = be4 (rd D ((i + 1 : Nat) : Int)) := by
        rw [hq, if_neg (by simp), List.append_assoc, ← List.append_assoc, ← hpl]
        exact num_at _ _ _
      rw [hnum, num_be4 _ (t3 (i + 1) (by omega))] at hv
      have ev : ∀ m, V.take m = V := fun m => List.take_of_length_le (by omega)
      have ld : (D.take (i + 1)).length < 17592186044416 := by rw [List.length_take]; omega
      simp only [node_Take.l0, Bool.false_eq_true, if_false]
      rw [if_pos (by omega), hs]
      simp only [Option.bind_some, if_false]
      rw [if_pos lk, hv]
      simp only [Option.bind_some]
      rw [if_pos ld, wrap_s i (by omega), take_snoc_s K i hi, take_snoc_i D (i + 1) (by omega), hlen, ev i, ev (i + 1)]
  · obtain ⟨r1, hp1, pr1⟩ := nput_ev b K V D hK hV hD
    have hr1 : r1 = (page b K V D, 0) := by
      rcases pr1 with ⟨e, _⟩ | ⟨_, e⟩ | ⟨_, _, e⟩
      · exact e
      · exact absurd hc e
      · omega
    subst hr1
    have e1 : K.take K.length = K := List.take_length
    have e2 : V.take K.length = V := by
      cases b with
      | true => obtain ⟨t1, t2, t3⟩ := tail_v hc.2; rw [← t2]; exact List.take_length
      | false => obtain ⟨t1, t2, t3⟩ := tail_d hc.2; exact List.take_of_length_le (by omega)
    have e3 : D.take (if b = true then 0 else K.length + 1) = D := by
      cases b with
      | true => obtain ⟨t1, t2, t3⟩ := tail_v hc.2; rw [List.eq_nil_of_length_eq_zero t1]; rfl
      | false => obtain ⟨t1, t2, t3⟩ := tail_d hc.2; exact List.take_of_length_le (by simp; omega)
    rw [e1, e2, e3]
    refine Ev.step (f := fun k => (node_put.f k b K V D).bind fun t => if t.2 = 0 then (if (strOfNums t.1).toList = (strOfNums (page b K V D)).toList then some (b, K, V, D, 0) else some cor) else some cor) (fun k => ?_) (Ev.bind (f := fun _ t => if t.2 = 0 then (if (strOfNums t.1).toList = (strOfNums (page b K V D)).toList then some ((b, K, V, D, 0) : Blk) else some cor) else some cor) hp1 (Ev.congr (f := fun _ => some ((b, K, V, D, 0) : Blk)) (fun k => by rw [if_pos rfl, if_pos rfl]) (Ev.now _)))
    simp only [node_Take.l0, Bool.false_eq_true, if_false]
    rw [if_neg (by omega)]; rfl
theorem take_page (hK : Small K) (hV : Small V) (hc : CanP b K V D) (hn : needTo b K V K.length ≤ 509) (hD : D.length ≤ 100000) : Ev (fun k => node_Take.f k (page b K V D)) (b, K, V, D, 0) := by
  have hl := loop_page b K V D hK hV hc hn hD
  have hp : (page b K V D).length = 512 := by
    have := put_bd b K V D hK hV hn (i := K.length) (Nat.le_refl _)
    unfold page; rw [List.length_append, List.length_replicate]; omega
  have ho := ok_page b K V D
  have hKn : K.length ≤ 509 := by
    have h1 := put_len b K V D hK hV
    have : ∀ i : Nat, (i : Int) ≤ needTo b K V i := fun i => by
      induction i with
      | zero => unfold needTo; cases b <;> simp
      | succ i ih =>
        show _ ≤ needTo b K V i + item b K V i
        unfold item
        cases b <;> simp <;> omega
    have := this K.length
    omega
  obtain ⟨q, hq⟩ := page_split b K V D K.length K.length 0 (by omega)
  have hpg : page b K V D = putTo b K V D 0 ++ (q ++ List.replicate (512 - (putTo b K V D K.length).length) 0) := by
    unfold page; rw [hq, List.append_assoc]
  obtain ⟨Q, hQ⟩ : ∃ Q, Q = q ++ List.replicate (512 - (putTo b K V D K.length).length) 0 := ⟨_, rfl⟩
  rw [← hQ] at hpg
  have e0 : node_rnew.f (page b K V D) = some (page b K V D, false, 0) := by unfold node_rnew.f; rw [if_pos ho]
  have hw : ((K.length : Int) / 256) % 256 * 256 + (K.length : Int) % 256 = (K.length : Int) := by omega
  have h1 := get_drop hp ho 0
  cases b with
  | true =>
    obtain ⟨t1, t2, t3⟩ := tail_v hc.2
    have g0 : (page true K V D).getD 0 0 = 1 := by rw [hpg]; rfl
    have e1 : node_num.f (page true K V D) false 0 1 = some (1, false, 1) := by
      unfold node_num.f
      rw [if_pos rfl, if_neg (by omega), show ((0 : Int)).toNat = 0 from rfl, h1, g0]; rfl
    have e2 : node_num.f (page true K V D) false 1 2 = some ((K.length : Int), false, 3) := by
      unfold node_num.f
      rw [if_neg (by decide), if_pos rfl, if_neg (by omega), show ((1 : Int)).toNat = 1 from rfl, hpg]
      show some (((K.length : Int) / 256) % 256 * 256 + (K.length : Int) % 256, false, 3) = _
      rw [hw]
    refine Ev.congr (f := fun k => node_Take.j0 k (page true K V D) (K.length : Int) (page true K V D) false 3 true []) (fun k => ?_) (Ev.step (fun k => by simp only [node_Take.j0]; rfl) hl)
    unfold node_Take.f
    rw [if_pos (by omega), e0]
    simp only [Option.bind_some]
    rw [e1]
    simp only [Option.bind_some]
    rw [e2]
    simp only [Option.bind_some]
    rw [if_pos trivial]
    rfl
  | false =>
    obtain ⟨t1, t2, t3⟩ := tail_d hc.2
    have g0 : (page false K V D).getD 0 0 = 2 := by rw [hpg]; rfl
    have e1 : node_num.f (page false K V D) false 0 1 = some (2, false, 1) := by
      unfold node_num.f
      rw [if_pos rfl, if_neg (by omega), show ((0 : Int)).toNat = 0 from rfl, h1, g0]; rfl
    have e2 : node_num.f (page false K V D) false 1 2 = some ((K.length : Int), false, 3) := by
      unfold node_num.f
      rw [if_neg (by decide), if_pos rfl, if_neg (by omega), show ((1 : Int)).toNat = 1 from rfl, hpg]
      show some (((K.length : Int) / 256) % 256 * 256 + (K.length : Int) % 256, false, 3) = _
      rw [hw]
    have hd := t3 0 (by omega)
    have e3 : node_number4.f (page false K V D) false 3 = some (rd D 0, false, 7) := by
      have h := node_num_ok hp ho 3 (by decide)
      have h4 : ((page false K V D).drop 3).take 4 = be4 (rd D 0) := by rw [hpg]; rfl
      rw [h4, num_be4 (rd D 0) hd] at h
      exact h
    have hd1 : D.take 1 = [rd D 0] := by
      have := take_snoc_i D 0 (by omega)
      simpa using this.symm
    rw [show (if false = true then 0 else 1) = 1 from rfl, hd1] at hl
    refine Ev.congr (f := fun k => node_Take.j0 k (page false K V D) (K.length : Int) (page false K V D) false 7 false [rd D 0]) (fun k => ?_) (Ev.step (fun k => by simp only [node_Take.j0]; rfl) hl)
    unfold node_Take.f
    rw [if_pos (by omega), e0]
    simp only [Option.bind_some]
    rw [e1]
    simp only [Option.bind_some]
    rw [e2]
    simp only [Option.bind_some]
    rw [if_neg (by decide), e3]
    simp only [Option.bind_some]
    rw [if_pos (by simp)]
    rfl
theorem NodePuts : ∃ k, aukletlaw22_NodePuts.f k b K V D = some true := by
  apply Ev.rounds
  obtain ⟨t, ht, hte⟩ := few_ev b K V D
  unfold aukletlaw22_NodePuts.f
  cases t with
  | false =>
    refine Ev.bind ht (Ev.congr (f := fun k => (aukletlaw22_lives.f k).bind fun t => some t) (fun k => by simp) (Ev.bind (f := fun _ t => some t) node_lives (Ev.now _)))
  | true =>
    obtain ⟨hK, hV, hD⟩ := hte rfl
    have hKl := hK.1
    have hVl := hV.1
    have hown : aukletref22_Own.f b K V D = some (b, K, V, D) := by
      unfold aukletref22_Own.f
      simp only [Option.bind_some, List.nil_append, List.length_nil]
      rw [if_pos (by omega), if_pos (by omega), if_pos (by omega)]
    obtain ⟨r1, h1, p1⟩ := nput_ev b K V D hK hV (by omega)
    obtain ⟨r2, h2, p2⟩ := rput_ev b K V D hK hV (by omega)
    obtain rfl := putR_one b K V D p1 p2
    obtain ⟨c1, hc1, hce1⟩ := ncan_ev b K V D (by omega) (by omega) (by omega)
    obtain ⟨c2, hc2, hce2⟩ := rcan_ev b K V D (by omega) (by omega) (by omega)
    obtain rfl := bool_of hce1 hce2
    have hn1 := nNeed_ev b K V D hK hV
    have hn2 := rneed_ev b K V D hK hV K.length (Nat.le_refl _)
    have hP : Ev (fun k => node_Put.f k b K V D) r1 := by
      unfold node_Put.f
      exact Ev.bind (f := fun _ t => some (t.1, t.2)) h1 (Ev.now _)
    have hC : Ev (fun k => node_Can.f k b K V D) c1 := by
      unfold node_Can.f
      exact Ev.bind (f := fun _ t => some t) hc1 (Ev.now _)
    have hj : Ev (fun k => aukletlaw22_NodePuts.j0 k r1.1 r1.2 false b K V D) true := by
      have hlv : Ev (fun k => (aukletlaw22_lives.f k).bind fun t => some t) true := Ev.bind (f := fun _ t => some t) node_lives (Ev.now _)
      rcases p1 with ⟨rfl, a, c⟩ | ⟨rfl, a⟩ | ⟨rfl, a, c⟩
      · refine Ev.step (f := fun k => (node_Take.f k (page b K V D)).bind fun bt350 => (if bt350.2.2.2.2 = 0 then ((aukletref22_Same.f k bt350.1 bt350.2.1 bt350.2.2.1 bt350.2.2.2.1 b K V D).bind fun t362 => (if t362 = true then ((aukletlaw22_lives.f k).bind fun t363 => (some t363)) else (some false))) else (some false))) (fun k => ?_) (Ev.bind (f := fun k bt350 => (if bt350.2.2.2.2 = 0 then ((aukletref22_Same.f k bt350.1 bt350.2.1 bt350.2.2.1 bt350.2.2.2.1 b K V D).bind fun t362 => (if t362 = true then ((aukletlaw22_lives.f k).bind fun t363 => (some t363)) else (some false))) else (some false))) (take_page b K V D hK hV a c (by omega)) (Ev.congr (fun k => by rw [if_pos rfl]) (Ev.bind (f := fun k t362 => if t362 = true then ((aukletlaw22_lives.f k).bind fun t363 => (some t363)) else (some false)) (same_b b K V D (by omega) (by omega) (by omega)) (Ev.congr (fun k => by rw [if_pos rfl]) hlv))))
        simp only [aukletlaw22_NodePuts.j0, Bool.false_eq_true, if_false, if_true]
      · refine Ev.step (fun k => ?_) hlv
        simp only [aukletlaw22_NodePuts.j0, Bool.false_eq_true, if_false]
        rw [if_neg (by decide), if_pos (by decide)]
      · refine Ev.step (fun k => ?_) hlv
        simp only [aukletlaw22_NodePuts.j0, Bool.false_eq_true, if_false]
        rw [if_neg (by decide), if_pos (by decide)]
    obtain ⟨K0, e0⟩ := ht
    obtain ⟨K1, e1⟩ := hP
    obtain ⟨K2, e2⟩ := h2
    obtain ⟨K3, e3⟩ := hC
    obtain ⟨K4, e4⟩ := hc2
    obtain ⟨K5, e5⟩ := hn1
    obtain ⟨K6, e6⟩ := hn2
    obtain ⟨K7, e7⟩ := hj
    refine ⟨K0 + K1 + K2 + K3 + K4 + K5 + K6 + K7, fun k hk => ?_⟩
    have f0 := e0 k (by omega)
    have f1 := e1 k (by omega)
    have f2 := e2 k (by omega)
    have f3 := e3 k (by omega)
    have f4 := e4 k (by omega)
    have f5 := e5 k (by omega)
    have f6 := e6 k (by omega)
    have f7 := e7 k (by omega)
    simp only [f0, Option.bind_some, if_true, hown, f1, f2, f3, f4, f5, f6, bne_self_eq_false, Bool.false_eq_true, if_false, f7]
end
end Go.Proofs.Ytbpnkgaomobpkaa.Pure
