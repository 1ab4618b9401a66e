/- StreamsFull: its plain law, and the acts that came in. -/
import Derived.Test.YtlccmkfkemilbaaStN
namespace Go.Proofs.Ytlccmkfkemilbaa.Bld
open Go.RowKit Go.ChangeShapes Go.WideShapes Go.ChangeAt Go.Deep Go.Joins Go.Lib Go.Proofs.YtlccmkfkemilbaaW.PrintWords Go.Proofs.YtlccmkfkemilbaaW.PrintLast Go.Proofs.YtlccmkfkemilbaaW.PrintMore
set_option linter.unusedVariables false
set_option linter.unusedSimpArgs false
/-- Not more was written than may be. -/
structure Fu (s : Str) : Prop where
  lo : 0 ≤ s.size
  hi : s.size ≤ 65536
  out : (s.out.length : Int) ≤ s.size
  sk : ∀ u ∈ s.sk, (u.2.length : Int) ≤ s.size
  n8 : s.sk.length ≤ 8
theorem fu_start : Fu str0 := ⟨by decide, by decide, by decide, (fun u hu => by cases hu), by decide⟩
/-- Behind a write: refused, and all as it was, or done. -/
def Fut (s : Str) (t : ByteArray) (s' : Str) (e : Int) : Prop := (e = 8 ∧ s' = s) ∨ (e = 0 ∧ Fu s' ∧ s'.size = s.size + t.size)
theorem fu_print {s : Str} (h : Fu s) (t : ByteArray) : Fut s t (printS s t).1 (printS s t).2 := by
  unfold printS
  by_cases hn : 65536 - s.size < (t.size : Int)
  · rw [if_pos hn]; exact .inl ⟨rfl, rfl⟩
  · rw [if_neg hn]
    have h1 := h.lo
    have h2 := h.hi
    have h3 := h.out
    have h4 := len_str s.out t
    exact .inr ⟨rfl, ⟨by show 0 ≤ s.size + _; omega, by show s.size + _ ≤ _; omega, by show ((s.out ++ t.data.toList).length : Int) ≤ s.size + _; rw [h4]; omega, fun u hu => by
      have := h.sk u hu
      show _ ≤ s.size + _
      omega, h.n8⟩, rfl⟩
theorem fu_write {s : Str} (h : Fu s) (name t : ByteArray) : Fut s t (writeS s name t).1 (writeS s name t).2 := by
  have h1 := h.lo
  have h2 := h.hi
  have h3 := h.out
  unfold writeS
  cases hf : s.sk.findIdx? (fun x => x.1.toList == name.toList) with
  | some i =>
    dsimp only
    by_cases hn : 65536 - s.size < (t.size : Int)
    · rw [if_pos hn]; exact .inl ⟨rfl, rfl⟩
    · rw [if_neg hn]
      refine .inr ⟨rfl, ⟨by show 0 ≤ s.size + _; omega, by show s.size + _ ≤ _; omega, by show (s.out.length : Int) ≤ s.size + _; omega, fun u hu => ?_, by show (s.sk.set i _).length ≤ 8; rw [List.length_set]; exact h.n8⟩, rfl⟩
      show _ ≤ s.size + _
      rcases List.mem_or_eq_of_mem_set hu with hu | rfl
      · have := h.sk u hu
        omega
      · have hi := (List.findIdx?_eq_some_iff_getElem.1 hf).1
        have h5 := h.sk (s.sk.getD i (name, [])) (by rw [List.getD_eq_getElem?_getD, List.getElem?_eq_getElem hi]; exact List.getElem_mem _)
        have h6 := len_str (s.sk.getD i (name, [])).2 t
        show (((s.sk.getD i (name, [])).2 ++ t.data.toList).length : Int) ≤ _
        rw [h6]
        omega
  | none =>
    dsimp only
    by_cases h8 : s.sk.length = 8
    · rw [if_pos h8]; exact .inl ⟨rfl, rfl⟩
    · rw [if_neg h8]
      by_cases hn : 65536 - s.size < (t.size : Int)
      · rw [if_pos hn]; exact .inl ⟨rfl, rfl⟩
      · rw [if_neg hn]
        refine .inr ⟨rfl, ⟨by show 0 ≤ s.size + _; omega, by show s.size + _ ≤ _; omega, by show (s.out.length : Int) ≤ s.size + _; omega, fun u hu => ?_, by show (s.sk ++ _).length ≤ 8; have := h.n8; simp; omega⟩, rfl⟩
        show _ ≤ s.size + _
        rcases List.mem_append.1 hu with hu | hu
        · have := h.sk u hu
          omega
        · rw [List.mem_singleton.1 hu]
          have h6 := len_str [] t
          rw [List.nil_append] at h6
          show (t.data.toList.length : Int) ≤ _
          rw [h6]
          simp
          omega
theorem Fu.bounds {s : Str} (h : Fu s) : (0 ≤ s.size ∧ s.size ≤ 65536) ∧ s.out.length ≤ 65536 ∧ (∀ u ∈ s.sk, u.2.length ≤ 65536) ∧ s.sk.length ≤ 8 := by
  have h1 := h.lo
  have h2 := h.hi
  have h3 := h.out
  exact ⟨⟨h1, h2⟩, by omega, fun u hu => by have := h.sk u hu; omega, h.n8⟩
abbrev Act_ := Int × ByteArray × ByteArray × Bool × Int
def act0 : Act_ := (0, .empty, .empty, false, 0)
def actK : Kd Act_ := Kd.pair (Kd.int .i64) (Kd.pair Kd.string (Kd.pair Kd.string (Kd.pair Kd.bool (Kd.int .u8))))
structure OkA (a : Act_) : Prop where
  name : a.2.1.size ≤ 9223372036854775807
  many : 0 ≤ a.2.2.2.2 ∧ a.2.2.2.2 < 256
def cellsA (a : Act_) : List Value := [.int .i64 a.1, .string a.2.1, .string a.2.2.1, .bool a.2.2.2.1, .int .u8 a.2.2.2.2]
theorem act_at {w : World} {A : Option Addr} {n : Nat} {l : List Act_} (h : actK.C w A n l) (k : Nat) (hk : k < n) :
    ∃ ad, A = some ad ∧ w.cell? (ad.add (k * 5)) = some (.int .i64 (l.getD k act0).1) ∧ (∀ j v, j ≠ 0 → (cellsA (l.getD k act0))[j]? = some v → w.cell? ⟨(ad.add (k * 5)).block, (ad.add (k * 5)).off + j, none⟩ = some v) := by
  obtain ⟨ad, c, hA, hl, hK, hc⟩ := Kd.C_get h act0 (k : Int) (by omega) (by omega)
  simp only [Int.toNat_natCast] at hK hc
  have hs : actK.sz = 5 := rfl
  rw [hs] at hc
  obtain ⟨c0, c1, rfl, h0, d0, d1, rfl, h1, e0, e1, rfl, h2, f0, f1, rfl, h3, h4⟩ := hK
  obtain rfl : c0 = [.int .i64 _] := h0
  obtain rfl : d0 = [.string _] := h1
  obtain rfl : e0 = [.string _] := h2
  obtain rfl : f0 = [.bool _] := h3
  obtain rfl : f1 = [.int .u8 _] := h4
  refine ⟨ad, hA, hc 0 _ rfl, fun j v hj hv => ?_⟩
  rw [← add_off _ _ j hj]
  exact hc j v hv
section
variable {H : Type} {enc : TypeId × Value → H} {w : World} {base : Nat} {spare : Nat → Bool} {held : Bool} {P : Program}
theorem trod_struct5 {t : TypeId} {f0 f1 f2 f3 f4 : Field} {fuel : Nat} {cs : List Value} {x : DataW H × List MemPlace} (ht : P.underlying t = some (.struct #[f0, f1, f2, f3, f4])) (h : DataW.trod enc P w base spare held fuel t cs = some x) :
    ∃ y0 y1 y2 y3 y4 n, x = (.agg [y0.1, y1.1, y2.1, y3.1, y4.1], y0.2 ++ (y1.2 ++ (y2.2 ++ (y3.2 ++ y4.2)))) ∧ cs.length = P.cellsOf t ∧ DataW.trod enc P w base spare held n f0.type ((cs.drop f0.offset).take (P.cellsOf f0.type)) = some y0 ∧
      DataW.trod enc P w base spare held n f1.type ((cs.drop f1.offset).take (P.cellsOf f1.type)) = some y1 ∧ DataW.trod enc P w base spare held n f2.type ((cs.drop f2.offset).take (P.cellsOf f2.type)) = some y2 ∧
      DataW.trod enc P w base spare held n f3.type ((cs.drop f3.offset).take (P.cellsOf f3.type)) = some y3 ∧ DataW.trod enc P w base spare held n f4.type ((cs.drop f4.offset).take (P.cellsOf f4.type)) = some y4 := by
  obtain ⟨xs, n, _, rfl, hl, hlen, hf⟩ := DataW.trod_struct ht h
  match xs, hlen with
  | [y0, y1, y2, y3, y4], _ => exact ⟨y0, y1, y2, y3, y4, n, by simp, hl, by simpa using hf 0 f0 rfl, by simpa using hf 1 f1 rfl, by simpa using hf 2 f2 rfl, by simpa using hf 3 f3 rfl, by simpa using hf 4 f4 rfl⟩
theorem act_K {m : Nat} {cs : List Value} {x : DataW H × List MemPlace} (h : DataW.trod enc Try.prog w base spare held m 26 cs = some x) : ∃ a : Act_, actK.K w a cs ∧ OkA a := by
  obtain ⟨y0, y1, y2, y3, y4, n, rfl, hl, h0, h1, h2, h3, h4⟩ := trod_struct5 Try.underlying26 h
  have hl5 : cs.length = 5 := hl.trans (by kernel_rfl)
  obtain ⟨c0, c1, c2, c3, c4, rfl⟩ : ∃ c0 c1 c2 c3 c4, cs = [c0, c1, c2, c3, c4] := by
    match cs, hl5 with
    | [c0, c1, c2, c3, c4], _ => exact ⟨c0, c1, c2, c3, c4, rfl⟩
  have k3 : Try.prog.cellsOf 3 = 1 := by kernel_rfl
  have k9 : Try.prog.cellsOf 9 = 1 := by kernel_rfl
  have k4 : Try.prog.cellsOf 4 = 1 := by kernel_rfl
  have k5 : Try.prog.cellsOf 5 = 1 := by kernel_rfl
  simp only [k3, k9, k4, k5, List.drop_zero, List.drop_succ_cons, List.take_succ_cons, List.take_zero] at h0 h1 h2 h3 h4
  obtain ⟨x0, e0, _, w0⟩ := DataW.trod_int Try.underlying3 h0
  obtain ⟨x1, e1, _, w1⟩ := DataW.trod_string Try.underlying9 h1
  obtain ⟨x2, e2, _, w2⟩ := DataW.trod_string Try.underlying9 h2
  obtain ⟨x3, e3, _⟩ := DataW.trod_bool Try.underlying4 h3
  obtain ⟨x4, e4, _, w4⟩ := DataW.trod_int Try.underlying5 h4
  have b4 := bounds_u8 w4
  have hm : maxLen = 9223372036854775807 := by kernel_rfl
  exact ⟨(x0, x1, x2, x3, x4), ⟨[c0], [c1, c2, c3, c4], rfl, e0, [c1], [c2, c3, c4], rfl, e1, [c2], [c3, c4], rfl, e2, [c3], [c4], rfl, e3, e4⟩, ⟨by rw [← hm]; exact w1, by show 0 ≤ x4 ∧ x4 < 256; omega⟩⟩
theorem acts_K {fuel : Nat} {cs : List Value} {x : DataW H × List MemPlace} (h : DataW.trod enc Try.prog w base spare held fuel 22 cs = some x) :
    ∃ (A : Option Addr) (c : Nat) (l : List Act_), cs = [.slice A l.length c] ∧ l.length ≤ c ∧ Kd.C actK w A l.length l ∧ (∀ a ∈ l, OkA a) ∧ ∀ R, (x.1.weights Try.prog 22).all (· ≤ R) = true → l.length ≤ R := by
  obtain ⟨A, c, l, el, sp, h1, h2, h3, h4, h5, h6⟩ := slice_K (P := Try.prog) actK (Q := fun a _ => OkA a) Try.underlying22 (by kernel_rfl) (fun m cs x hx => act_K hx) h
  refine ⟨A, c, l, h1, h2, h3, fun a ha => (h5 a ha).elim fun _ hq => hq.2, fun R hR => ?_⟩
  rcases h6 with ⟨_, rfl⟩ | h6
  · exact Nat.zero_le _
  · rw [h6] at hR
    have := (slice_sized Try.underlying22 hR).1
    rw [show Try.prog.bytesOf 26 = 48 by kernel_rfl, h4] at this
    omega
end
end Go.Proofs.Ytlccmkfkemilbaa.Bld
