/- Streams: New; what a write to a sink leaves; walked by hand. -/
import Derived.Test.YtlccmkfkemilbaaStC
namespace Go.Proofs.Ytlccmkfkemilbaa.Bld
open Go.RowKit Go.Lib Go.Proofs.YtlccmkfkemilbaaW.PrintWords Go.Proofs.YtlccmkfkemilbaaW.PrintLast Go.Proofs.YtlccmkfkemilbaaW.PrintMore
set_option linter.unusedVariables false
set_option linter.unusedSimpArgs false
def str0 : Str := ⟨[], [], 0⟩
def cells0 (m : Nat) : Array Value := #[.pointer (some ⟨m, 0, none⟩), .slice none 0 0, .pointer none, .slice none 0 0, .string ⟨#[]⟩, .slice none 0 0, .int .i64 0]
theorem st_new (base m : Nat) (w : World) (hb : base ≤ w.heap.size) : StAt base (w.alloc (.cells (cells0 m) 52)) w.heap.size str0 (.slice none 0 0) (.slice none 0 0) (cells0 m) [] where
  out := ⟨Array.getElem?_push_size, .inl ⟨rfl, rfl, rfl⟩, .inl rfl, rfl, ⟨rfl, .inl ⟨rfl, rfl⟩⟩, by simp [Value.ownBlock], fun _ => rfl⟩
  ge := hb
  files := rfl
  sinks := rfl
  size := rfl
  row := ⟨rfl, .inl ⟨rfl, rfl⟩⟩
  len := rfl
  each := fun i k t h => by simp at h
  ap := fun i k h => by simp at h
  ap2 := fun i i' k k' h => by simp at h
set_option maxHeartbeats 2000000 in
set_option maxRecDepth 100000 in
theorem new_calls (W : World) : Calls Try.prog 5 #[.string ⟨#[]⟩, .slice none 0 0] W fun e w' => ∃ g, e = .returned (.pointer (some ⟨g, 0, none⟩)) ∧ IsSt W.heap.size w' g str0 ∧ Below W.heap.size W w' := by
  obtain ⟨w1, hw1⟩ : ∃ w1, w1 = W.alloc (.cells #[.string ⟨#[]⟩, .string ⟨#[]⟩, .int .i64 0] 42) := ⟨_, rfl⟩
  have h1 := st_new W.heap.size W.heap.size w1 (by rw [hw1]; simp)
  have b1 : Below W.heap.size W w1 := by rw [hw1]; exact below_alloc (Below.refl _ _) _
  have b2 : Below W.heap.size W (w1.alloc (.cells (cells0 W.heap.size) 52)) := b1.alloc b1.size _
  rw [show w1.heap.size = W.heap.size + 1 by rw [hw1]; simp] at h1
  rw [hw1] at h1 b2
  have HH := Aside0.mk h1
  have HB := Aside0.mk b2
  clear h1 b1 b2 hw1
  go_enter Try.func5, Try.ntmps5
  go_wp2_with fail
  go_loopw [15] (fun x wr => x = .int .i64 0 ∧ wr = (W.alloc (.cells #[.string ⟨#[]⟩, .string ⟨#[]⟩, .int .i64 0] 42)).alloc (.cells (cells0 W.heap.size) 52)) (fun _ _ => 0)
  case atStart => exact ⟨rfl, rfl⟩
  case round =>
    obtain ⟨rfl, hw⟩ := hrel
    subst hw
    go_wp2
    go_ret
    exact ⟨_, rfl, ⟨_, _, _, _, HH.out⟩, HB.out⟩
/-- A write to a sink: its builder has turned, all else stands. -/
theorem StAt.wrote {base g : Nat} {w w' : World} {s : Str} {vo vs : Value} {cs : Array Value} {ks : List Sk} (h : StAt base w g s vo vs cs ks) {i : Nat} {k : Sk} {t : ByteArray × List UInt8} {cs' : Array Value} {v' : Value} {l : List UInt8}
    (hk : ks[i]? = some k) (ht : s.sk[i]? = some t) (hB : BldAt base w' k.1 0 49 cs' v' l) (h2 : cs'[2]? = k.2.1[2]?) (ho : v'.ownBlock = k.2.2.ownBlock ∨ ∃ b, v'.ownBlock = some b ∧ w.heap.size ≤ b)
    (hf : ∀ x, x < w.heap.size → x ≠ k.1 → some x ≠ k.2.2.ownBlock → w'.heap[x]? = w.heap[x]?) : StAt base w' g { s with sk := s.sk.set i (t.1, l) } vo vs cs (ks.set i (k.1, cs', v')) := by
  have hbk := (h.each i k t hk ht)
  have hi : i < ks.length := (List.getElem?_eq_some_iff.1 hk).1
  have hi2 : i < s.sk.length := (List.getElem?_eq_some_iff.1 ht).1
  have far5 : ∀ (x : Nat), (∃ cur fz, w.heap[x]? = some (Obj.cells cur 5 fz)) → k.2.2.ownBlock ≠ some x → w'.heap[x]? = w.heap[x]? := fun x ⟨_, _, hb⟩ hn => hf x (lt_of_blk hb) (two_types hb hbk.1.blk (by decide)) (fun e => hn e.symm)
  have far : ∀ (x : Nat) (c : Array Value) (T : TypeId), T ≠ 49 → T ≠ 5 → w.heap[x]? = some (.cells c T (0, 0)) → w'.heap[x]? = w.heap[x]? := fun x c T h1 h2 hb => hf x (lt_of_blk hb) (two_types hb hbk.1.blk h1) (fun e => by
    obtain ⟨_, _, hb2⟩ := hbk.1.own_blk x e.symm
    exact two_types hb hb2 h2 rfl)
  have newb : ∀ x, v'.ownBlock = some x → ∀ (y : Nat), (∃ cur fz, w.heap[y]? = some (Obj.cells cur 5 fz)) → k.2.2.ownBlock ≠ some y → x ≠ y := fun x hx y ⟨_, _, hb⟩ hn e => by
    subst e
    rcases ho with e | ⟨b, e, hb2⟩
    · exact hn (e ▸ hx)
    · rw [e] at hx
      injection hx with hx
      have := lt_of_blk hb
      omega
  refine { out := h.out.kept (far _ _ 52 (by decide) (by decide) h.out.blk) (fun x hx => far5 x (h.out.own_blk x hx) (fun e => h.ap i k hk x hx e)), ge := h.ge, files := h.files, sinks := h.sinks, size := h.size, row := ?_, len := by simp [h.len], each := ?_, ap := ?_, ap2 := ?_ }
  · have hm : ((ks.set i (k.1, cs', v')).map fun k => Value.pointer (some ⟨k.1, 0, none⟩)) = ks.map fun k => Value.pointer (some ⟨k.1, 0, none⟩) := by
      apply List.ext_getElem?
      intro j
      simp only [List.getElem?_map, List.getElem?_set]
      by_cases hj : i = j
      · subst hj
        rw [if_pos rfl, if_pos hi, hk]
        rfl
      · rw [if_neg hj]
    rw [hm, List.length_set]
    exact row_same h.row (fun x hx => by obtain ⟨_, hb⟩ := row_blk h.row x hx; exact far x _ 54 (by decide) (by decide) hb)
  · intro j q u hq hu
    rw [List.getElem?_set] at hq hu
    by_cases hj : i = j
    · subst hj
      rw [if_pos rfl, if_pos hi] at hq
      rw [if_pos rfl, if_pos hi2] at hu
      injection hq with hq
      injection hu with hu
      subst hq
      subst hu
      exact ⟨hB, hbk.2.1, h2.trans hbk.2.2⟩
    · rw [if_neg hj] at hq hu
      obtain ⟨hb, hr⟩ := h.each j q u hq hu
      have hap := h.ap2 i j k q hk hq hj
      exact ⟨hb.kept (hf _ (lt_of_blk hb.blk) (fun e => hap.1 e.symm) (fun e => by
        obtain ⟨_, _, hb2⟩ := hbk.1.own_blk _ e.symm
        exact two_types hb.blk hb2 (by decide) rfl)) (fun x hx => far5 x (hb.own_blk x hx) (fun e => hap.2 x e hx)), hr⟩
  · intro j q hq x hx
    rw [List.getElem?_set] at hq
    by_cases hj : i = j
    · subst hj
      rw [if_pos rfl, if_pos hi] at hq
      injection hq with hq
      subst hq
      exact fun e => newb x e x (h.out.own_blk x hx) (fun e' => h.ap i k hk x hx e') rfl
    · rw [if_neg hj] at hq
      exact h.ap j q hq x hx
  · intro j j' q q' hq hq' hne
    rw [List.getElem?_set] at hq hq'
    by_cases hj : i = j
    · subst hj
      rw [if_pos rfl, if_pos hi] at hq
      rw [if_neg hne] at hq'
      injection hq with hq
      subst hq
      have hap := h.ap2 i j' k q' hk hq' hne
      obtain ⟨u, _, hbu, _⟩ := h.sink hq'
      exact ⟨hap.1, fun x hx e => newb x hx x (hbu.own_blk x e) (fun e' => hap.2 x e' e) rfl⟩
    · rw [if_neg hj] at hq
      by_cases hj' : i = j'
      · subst hj'
        rw [if_pos rfl, if_pos hi] at hq'
        injection hq' with hq'
        subst hq'
        have hap := h.ap2 i j k q hk hq hj
        obtain ⟨u, _, hbu, _⟩ := h.sink hq
        exact ⟨fun e => hap.1 e.symm, fun x hx e => newb x e x (hbu.own_blk x hx) (fun e' => hap.2 x e' hx) rfl⟩
      · rw [if_neg hj'] at hq'
        exact h.ap2 j j' q q' hq hq' hne
end Go.Proofs.Ytlccmkfkemilbaa.Bld
