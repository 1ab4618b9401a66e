/- The reader of a page (node.reader): what its block says, and its methods, walked by hand. -/
import Derived.Test.YtbpnkgaomobpkaaProg
import Derived.WalkKit
import Derived.Below
import Derived.Deep.QuietTactic
import Derived.BigQuiet
import Derived.Laws.MakeOwn
import Derived.Laws.BitsLemmas
import Derived.Test.YtbpnkgaomobpkaaWWords
import Derived.Test.YtbpnkgaomobpkaaWKept
import Derived.Test.YtbpnkgaomobpkaaWMore
namespace Go.Proofs.Ytbpnkgaomobpkaa.Giv
open Go.RowKit Go.Proofs.YtbpnkgaomobpkaaW.PrintWords Go.Proofs.YtbpnkgaomobpkaaW.PrintMore
set_option linter.unusedVariables false
set_option linter.unusedSimpArgs false
def OkB (b : List Int) : Prop := ∀ x ∈ b, 0 ≤ x ∧ x < 256
instance (b : List Int) : Decidable (OkB b) := inferInstanceAs (Decidable (∀ x ∈ b, 0 ≤ x ∧ x < 256))
def IsS51 (w0 W : World) (g : Nat) (f0 : List Int) (f1 : Bool) (f2 : Int) : Prop :=
  ∃ A c, 0 ≤ f2 ∧ f2 ≤ f0.length ∧ (f0.drop f2.toNat).length ≤ c ∧ OkB f0 ∧ W.heap[g]? = some (.cells #[.slice A (f0.drop f2.toNat).length c, .bool f1] 51 (0, 0)) ∧ w0.heap.size ≤ g ∧ Kd.C (Kd.int .u8) w0 A (f0.drop f2.toNat).length (f0.drop f2.toNat)
section
variable {w0 W : World} {g : Nat} {f0 : List Int} {f1 : Bool} {f2 : Int}
theorem IsS51.grown {W1 : World} {row : Option Nat} (h : IsS51 w0 W g f0 f1 f2) (hw : W.grownBy W1 row) (hne : some g ≠ row) : IsS51 w0 W1 g f0 f1 f2 := by
  obtain ⟨A, c, h1, h2, h3, h5, hb, hg⟩ := h
  exact ⟨A, c, h1, h2, h3, h5, blk_grown hb hw hne, hg⟩
theorem IsS51.below {W1 : World} (h : IsS51 w0 W g f0 f1 f2) (hw : Below W.heap.size W W1) : IsS51 w0 W1 g f0 f1 f2 := h.grown (grown_of_below hw none) (by simp)
theorem IsS51.alloc (h : IsS51 w0 W g f0 f1 f2) (o : Obj) : IsS51 w0 (W.alloc o) g f0 f1 f2 := h.below (below_alloc (Below.refl _ _) o)
theorem IsS51.drewN (h : IsS51 w0 W g f0 f1 f2) (m : Nat) : IsS51 w0 (W.drewN m) g f0 f1 f2 := h
theorem IsS51.drew (h : IsS51 w0 W g f0 f1 f2) : IsS51 w0 W.drew g f0 f1 f2 := h
theorem IsS51.at_ {w' : World} {m : Nat} (hq : W.drewN m = w') (h : IsS51 w0 W g f0 f1 f2) : IsS51 w0 w' g f0 f1 f2 := by subst hq; exact IsS51.drewN h m
theorem IsS51.apart {α : Type} {d : Kd α} {e : Nat} {base : Nat} {ok : Nat → Prop} {v : Value} {xs : List α} (h : IsS51 w0 W g f0 f1 f2) (ho : d.R e W base ok v xs) (ht : ∀ q, q ∈ e :: d.E → q ≠ 51) : d.R e W base (fun k => ok k ∧ k ≠ g) v xs := by
  obtain ⟨A, c, h1, h2, h3, h5, hb, hg⟩ := h
  exact Kd.R_types ho hb ht
theorem IsS51.own_ne {α : Type} {d : Kd α} {e : Nat} {base : Nat} {ok : Nat → Prop} {v : Value} {xs : List α} (h : IsS51 w0 W g f0 f1 f2) (ho : d.R e W base ok v xs) (ht : e ≠ 51) : some g ≠ v.ownBlock := by
  obtain ⟨A, c, h1, h2, h3, h5, hb, hg⟩ := h
  exact Kd.R_ne ho hb ht
theorem IsS51.lt (h : IsS51 w0 W g f0 f1 f2) : g < W.heap.size := by
  obtain ⟨A, c, h1, h2, h3, h5, hb, hg⟩ := h
  exact blk_lt hb
theorem IsS51.ge (h : IsS51 w0 W g f0 f1 f2) : w0.heap.size ≤ g := by
  obtain ⟨A, c, h1, h2, h3, h5, hb, hg, hr⟩ := h
  exact hg
theorem IsS51.ne_blk {a : Nat} {cs : Array Value} {t : TypeId} {fr : Nat × Nat} (h : IsS51 w0 W g f0 f1 f2) (hb2 : W.heap[a]? = some (.cells cs t fr)) (ht : t ≠ 51) : g ≠ a := by
  obtain ⟨A, c, h1, h2, h3, h5, hb, hg⟩ := h
  rintro rfl
  rw [hb] at hb2
  injection hb2 with hb2
  injection hb2 with _ ht2
  exact ht ht2.symm
theorem IsS51.far {p : Addr} (h : IsS51 w0 W g f0 f1 f2) (hne : g ≠ p.block) (u : Value) : IsS51 w0 (W.setCell p u) g f0 f1 f2 := by
  obtain ⟨A, c, h1, h2, h3, h5, hb, hg⟩ := h
  exact ⟨A, c, h1, h2, h3, h5, blk_far hb hne u, hg⟩
theorem IsS51.set_1 (h : IsS51 w0 W g f0 f1 f2) (x : Bool) : IsS51 w0 (W.setCell ⟨g, 1, none⟩ (.bool x)) g f0 x f2 := by
  obtain ⟨A, c, h1, h2, h3, h5, hb, hg⟩ := h
  exact ⟨A, c, h1, h2, h3, h5, by simpa using blk_set hb 1 (.bool x), hg⟩
theorem IsS51.set_2 (h : IsS51 w0 W g f0 f1 f2) (v : Value) : IsS51 w0 (W.setCell ⟨g, 2, none⟩ v) g f0 f1 f2 := by
  obtain ⟨A, c, h1, h2, h3, h5, hb, hg⟩ := h
  exact ⟨A, c, h1, h2, h3, h5, by simpa using blk_set hb 2 v, hg⟩
theorem IsS51.cell1 (h : IsS51 w0 W g f0 f1 f2) : W.cell? ⟨g, 1, none⟩ = some (.bool f1) := by
  obtain ⟨A, c, h1, h2, h3, h5, hb, hg⟩ := h
  exact (blk_cell hb 1).trans rfl
end
theorem cellS51_0 {W : World} {g n c : Nat} {A : Option Addr} {f1 : Bool} (h : W.heap[g]? = some (.cells #[.slice A n c, .bool f1] 51 (0, 0))) : W.cell? ⟨g, 0, none⟩ = some (.slice A n c) := (blk_cell h 0).trans rfl
theorem cellS51_1 {W : World} {g n c : Nat} {A : Option Addr} {f1 : Bool} (h : W.heap[g]? = some (.cells #[.slice A n c, .bool f1] 51 (0, 0))) : W.cell? ⟨g, 1, none⟩ = some (.bool f1) := (blk_cell h 1).trans rfl
theorem cellS51_2 {W : World} {g n c : Nat} {A : Option Addr} {f1 : Bool} (h : W.heap[g]? = some (.cells #[.slice A n c, .bool f1] 51 (0, 0))) : True := trivial
theorem rtake_in (g : Nat) (b : List Int) (short : Bool) (at_ n : Int) (w W : World) (hi : IsS51 w W g b short at_) (hB : Below w.heap.size w W) (hn : 0 ≤ n) (hn2 : n ≤ 255) (h : n ≤ (b.length : Int) - at_) :
    Calls Try.prog 28 #[.pointer (some ⟨g, 0, none⟩), .int .i64 n] W fun e w' => ∃ A c, e = .returned (.slice A n.toNat c) ∧ n.toNat ≤ c ∧ Kd.C (Kd.int .u8) w A n.toNat ((b.drop at_.toNat).take n.toNat) ∧ IsS51 w w' g b short (at_ + n) ∧ Below w.heap.size w w' ∧ KeepBut W w' g none := by
  obtain ⟨A, c, h1, h2, h3, h5, hb, hg, hC⟩ := hi
  have hdl : (b.drop at_.toNat).length = b.length - at_.toNat := by simp
  have c0 : W.cell? ⟨g, 0, none⟩ = some (.slice A (b.drop at_.toNat).length c) := (blk_cell hb 0).trans rfl
  have f0 := blk_frozen hb 0
  obtain ⟨m, hm⟩ : ∃ m : Nat, m = (b.drop at_.toNat).length := ⟨_, rfl⟩
  rw [← hm] at c0 h3
  have hmn : n ≤ (m : Int) := by rw [hm, hdl]; omega
  have hmn2 : n ≤ (c : Int) := by omega
  have HH := Aside0.mk hm
  clear hm
  have e1 : ((m : Int) < n) = False := by simp; omega
  have hT : Kd.C (Kd.int .u8) w A n.toNat ((b.drop at_.toNat).take n.toNat) := by
    have := Kd.C_take (m := n.toNat) hC (by rw [← HH.out]; omega)
    rwa [List.length_take, Nat.min_eq_left (by rw [← HH.out]; omega)] at this
  have hD := Kd.C_drop (c := c) (m := n.toNat) hC (by rw [← HH.out]; omega) (by rw [← HH.out]; exact h3)
  have hdd : (b.drop at_.toNat).drop n.toNat = b.drop (at_ + n).toNat := by rw [List.drop_drop]; congr 1; omega
  rw [hdd] at hD
  have hll : m - n.toNat = (b.drop (at_ + n).toNat).length := by rw [HH.out, ← hdd]; simp; omega
  have HD := Aside0.mk hD
  have HL := Aside0.mk hll
  have HTT := Aside0.mk hT
  clear hdd hD hll hdl hT
  by_cases hcn : c = n.toNat
  · subst hcn
    have HD' : Aside0 (Kd.C (Kd.int .u8) w A (b.drop (at_ + n).toNat).length (b.drop (at_ + n).toNat)) := ⟨by have := HD.out; rwa [if_pos rfl] at this⟩
    clear HD
    go_enter Try.func28, Try.ntmps28
    go_wp2
    go_ret
    refine ⟨A, n.toNat, rfl, by omega, HTT.out, ⟨A, 0, by omega, by omega, by rw [← HL.out]; omega, h5, ?_, hg, HD'.out⟩, below_set hB hg, (KeepBut.refl W g none).set_ 0 _⟩
    have := blk_set hb 0 (.slice A 0 0)
    have hz : (b.drop (at_ + n).toNat).length = 0 := by rw [← HL.out]; omega
    rw [hz]
    simpa using this
  · go_enter Try.func28, Try.ntmps28
    go_wp2
    go_ret
    refine ⟨A, c, rfl, by omega, HTT.out, ⟨A.map (·.add n.toNat), c - n.toNat, by omega, by omega, by rw [← HL.out]; omega, h5, ?_, hg, ?_⟩, below_set hB hg, (KeepBut.refl W g none).set_ 0 _⟩
    · have := blk_set hb 0 (.slice (A.map (·.add n.toNat)) (m - n.toNat) (c - n.toNat))
      rw [HL.out] at this ⊢
      simpa using this
    · have := HD.out
      rw [if_neg hcn] at this
      simpa [Kd.int, Kd.scalar] using this
theorem rinfo5 : (Try.prog.info? 5).map (fun i => (i.zero, i.size, i.bytes)) = some (some (.int .u8 0), 1, 1) := by kernel_rfl
theorem rtake_short (g : Nat) (b : List Int) (short : Bool) (at_ n : Int) (w W : World) (hi : IsS51 w W g b short at_) (hB : Below w.heap.size w W) (hn : 0 ≤ n) (hn2 : n ≤ 255) (h : (b.length : Int) - at_ < n) :
    Calls Try.prog 28 #[.pointer (some ⟨g, 0, none⟩), .int .i64 n] W fun e w' => ∃ A c, e = .returned (.slice A n.toNat c) ∧ Kd.C (Kd.int .u8) w' A n.toNat (List.replicate n.toNat 0) ∧ IsS51 w w' g b true at_ ∧ Below w.heap.size w w' ∧ KeepBut W w' g none := by
  have hi' := hi.set_1 true
  have hlt := hi.lt
  have hge := hi.ge
  obtain ⟨A, c, h1, h2, h3, h5, hb, hg, hC⟩ := hi
  have c0 : W.cell? ⟨g, 0, none⟩ = some (.slice A (b.drop at_.toNat).length c) := (blk_cell hb 0).trans rfl
  have f0 := blk_frozen hb 0
  have c1 : W.cell? ⟨g, 1, none⟩ = some (.bool short) := (blk_cell hb 1).trans rfl
  have f1 := blk_frozen hb 1
  obtain ⟨m, hm⟩ : ∃ m : Nat, m = (b.drop at_.toNat).length := ⟨_, rfl⟩
  rw [← hm] at c0 h3
  have hmn : (m : Int) < n := by rw [hm, List.length_drop]; omega
  have HH := Aside0.mk hm
  clear hm
  obtain ⟨q, rfl⟩ := Int.eq_ofNat_of_zero_le hn
  have hmk := print_make (P := Try.prog) 31 5 .u8 1 Try.underlying31 rinfo5 (by decide) q (by omega)
  go_enter Try.func28, Try.ntmps28
  go_wp2
  go_ret
  have ho := own_made (W.setCell ⟨g, 1, none⟩ (.bool true)) 0 5 .u8 q (Nat.zero_le _) (by omega)
  refine ⟨some ⟨(W.setCell ⟨g, 1, none⟩ (.bool true)).heap.size, 0, none⟩, q, by simp, ?_, hi'.alloc _, ?_, ?_⟩
  · have := own_reads' ho
    exact Kd.C_of_reads (enc := Value.int .u8) (d := (0 : Int)) (h1 := fun _ => rfl) this
  · exact below_alloc (below_set hB hge) _
  · exact ((KeepBut.refl W g none).set_ 1 _).trans (KeepBut.of_below (below_alloc (Below.refl _ _) _) g none) (.inl rfl)
def rtk (b : List Int) (short : Bool) (at_ n : Int) : List Int × Bool × Int := if (b.length : Int) - at_ < n then (List.replicate n.toNat 0, true, at_) else ((b.drop at_.toNat).take n.toNat, short, at_ + n)
theorem rtake_any (g : Nat) (b : List Int) (short : Bool) (at_ n : Int) (w W : World) (hi : IsS51 w W g b short at_) (hB : Below w.heap.size w W) (hn : 0 ≤ n) (hn2 : n ≤ 255) :
    Calls Try.prog 28 #[.pointer (some ⟨g, 0, none⟩), .int .i64 n] W fun e w' => ∃ A c, e = .returned (.slice A n.toNat c) ∧ Kd.C (Kd.int .u8) w' A n.toNat (rtk b short at_ n).1 ∧ OkB (rtk b short at_ n).1 ∧ IsS51 w w' g b (rtk b short at_ n).2.1 (rtk b short at_ n).2.2 ∧ Below w.heap.size w w' ∧ KeepBut W w' g none := by
  unfold rtk
  by_cases h : (b.length : Int) - at_ < n
  · rw [if_pos h]
    refine (rtake_short g b short at_ n w W hi hB hn hn2 h).mono ?_
    rintro e w' ⟨A, c, he, hc, h1, h2, h3⟩
    exact ⟨A, c, he, hc, fun x hx => by rw [(List.mem_replicate.1 hx).2]; omega, h1, h2, h3⟩
  · rw [if_neg h]
    have hok : OkB b := by obtain ⟨A, c, _, _, _, h5, _⟩ := hi; exact h5
    refine (rtake_in g b short at_ n w W hi hB hn hn2 (by omega)).mono ?_
    rintro e w' ⟨A, c, he, _, hc, h1, h2, h3⟩
    exact ⟨A, c, he, Kd.C_below hc h2, fun x hx => hok x (List.mem_of_mem_drop (List.mem_of_mem_take hx)), h1, h2, h3⟩
def num4 (l : List Int) : Int := l.getD 0 0 * 16777216 + l.getD 1 0 * 65536 + l.getD 2 0 * 256 + l.getD 3 0
def node_number4.f (b : List Int) (short : Bool) (at_ : Int) : Option (Int × Bool × Int) := some (num4 (rtk b short at_ 4).1, (rtk b short at_ 4).2.1, (rtk b short at_ 4).2.2)
theorem cell_in {A : Option Addr} {l : List Int} {n : Nat} {w : World} (h : Kd.C (Kd.int .u8) w A n l) (hn : 0 < n) : ∃ ad, A = some ad ∧ ∀ i, i < n → w.cell? (ad.add i) = some (.int .u8 (l.getD i 0)) := by
  obtain ⟨ad, hA, hc⟩ := h.2.2 hn
  refine ⟨ad, hA, fun i hi => ?_⟩
  have hl : i < l.length := by rw [h.1]; exact hi
  obtain ⟨cs, _, hk, hcell⟩ := hc i _ (List.getElem?_eq_getElem hl)
  have hk' : cs = [.int .u8 (l[i])] := hk
  have := hcell 0 (.int .u8 (l[i])) (by rw [hk']; rfl)
  rw [List.getD_eq_getElem?_getD, List.getElem?_eq_getElem hl]
  simpa [Kd.int, Kd.scalar] using this
theorem ok_getD {l : List Int} (h : OkB l) (i : Nat) : 0 ≤ l.getD i 0 ∧ l.getD i 0 < 256 := by
  rw [List.getD_eq_getElem?_getD]
  cases e : l[i]? with
  | none => simp
  | some x => exact h x (List.mem_of_getElem? e)
theorem num_facts {A : Option Addr} {l : List Int} {w : World} (h : Kd.C (Kd.int .u8) w A 4 l) (hok : OkB l) : ∃ ad x0 x1 x2 x3, A = some ad ∧ w.cell? ad = some (.int .u8 x0) ∧ w.cell? ⟨ad.block, ad.off + 1, none⟩ = some (.int .u8 x1) ∧ w.cell? ⟨ad.block, ad.off + 2, none⟩ = some (.int .u8 x2) ∧ w.cell? ⟨ad.block, ad.off + 3, none⟩ = some (.int .u8 x3) ∧ 0 ≤ x0 ∧ x0 < 256 ∧ 0 ≤ x1 ∧ x1 < 256 ∧ 0 ≤ x2 ∧ x2 < 256 ∧ 0 ≤ x3 ∧ x3 < 256 ∧ Aside0 (num4 l = x0 * 16777216 + x1 * 65536 + x2 * 256 + x3) := by
  obtain ⟨ad, rfl, hc⟩ := cell_in h (by decide)
  have h0 := hc 0 (by decide)
  have o0 := ok_getD hok 0
  have o1 := ok_getD hok 1
  have o2 := ok_getD hok 2
  have o3 := ok_getD hok 3
  exact ⟨ad, l.getD 0 0, l.getD 1 0, l.getD 2 0, l.getD 3 0, rfl, h0, hc 1 (by decide), hc 2 (by decide), hc 3 (by decide), o0.1, o0.2, o1.1, o1.2, o2.1, o2.2, o3.1, o3.2, ⟨rfl⟩⟩
theorem wraps_i64 (n : Int) (h₀ : 0 ≤ n) (h₁ : n < 2 ^ 62) : IntKind.i64.wrap n = n := by rw [IntKind.wrap_i64]; omega
theorem or8 (x y : Int) (hx₀ : 0 ≤ x) (hx : x % 256 = 0) (hx₁ : x < 4611686018427387904) (h₀ : 0 ≤ y) (h₁ : y < 256) : bits .or .i64 x y = x + y := by
  have := bits_join .i64 62 (by decide) wraps_i64 8 x y hx₀ hx hx₁ h₀ h₁ (by omega)
  exact this
theorem or16 (x y : Int) (hx₀ : 0 ≤ x) (hx : x % 65536 = 0) (hx₁ : x < 4611686018427387904) (h₀ : 0 ≤ y) (h₁ : y < 65536) : bits .or .i64 x y = x + y := by
  have := bits_join .i64 62 (by decide) wraps_i64 16 x y hx₀ hx hx₁ h₀ h₁ (by omega)
  exact this
theorem or24 (x y : Int) (hx₀ : 0 ≤ x) (hx : x % 16777216 = 0) (hx₁ : x < 4611686018427387904) (h₀ : 0 ≤ y) (h₁ : y < 16777216) : bits .or .i64 x y = x + y := by
  have := bits_join .i64 62 (by decide) wraps_i64 24 x y hx₀ hx hx₁ h₀ h₁ (by omega)
  exact this
theorem or4 (x0 x1 x2 x3 : Int) (p0 : 0 ≤ x0) (q0 : x0 < 256) (p1 : 0 ≤ x1) (q1 : x1 < 256) (p2 : 0 ≤ x2) (q2 : x2 < 256) (p3 : 0 ≤ x3) (q3 : x3 < 256) :
    bits BinOp.or IntKind.i64 (bits BinOp.or IntKind.i64 (bits BinOp.or IntKind.i64 (x0 * 16777216) (x1 * 65536)) (x2 * 256)) x3 = x0 * 16777216 + x1 * 65536 + x2 * 256 + x3 := by
  rw [or24 (x0 * 16777216) (x1 * 65536) (by omega) (by omega) (by omega) (by omega) (by omega), or16 (x0 * 16777216 + x1 * 65536) (x2 * 256) (by omega) (by omega) (by omega) (by omega) (by omega), or8 (x0 * 16777216 + x1 * 65536 + x2 * 256) x3 (by omega) (by omega) (by omega) (by omega) (by omega)]
theorem node_number4.calls (g : Nat) (b : List Int) (short : Bool) (at_ : Int) (r : Int) (s' : Bool) (a' : Int) (w W : World) (hi : IsS51 w W g b short at_) (hB : Below w.heap.size w W) (h : node_number4.f b short at_ = some (r, s', a')) :
    Calls Try.prog 29 #[.pointer (some ⟨g, 0, none⟩)] W fun e w' => e = .returned (.int .i64 r) ∧ IsS51 w w' g b s' a' ∧ Below w.heap.size w w' ∧ KeepBut W w' g none := by
  have h' := Option.some.inj h
  simp only [Prod.mk.injEq] at h'
  obtain ⟨hr, rfl, rfl⟩ := h'
  have HR := Aside0.mk hr
  clear h hr
  go_enter Try.func29, Try.ntmps29
  go_wp2_with (go_at_call 28; refine (rtake_any g b short at_ 4 w _ hi hB (by decide) (by decide)).mono ?_; rintro e w1 ⟨A, c, rfl, hC, hok, hi1, hb1, hk1⟩; obtain ⟨ad, x0, x1, x2, x3, rfl, k0, k1, k2, k3, p0, q0, p1, q1, p2, q2, p3, q3, HN⟩ := num_facts hC hok; have HH := Aside0.mk (And.intro hi1 (And.intro hb1 hk1)); clear hC hok hi1 hb1 hk1)
  go_quiet (fail)
  go_wp2
  go_ret
  have e1 := or4 x0 x1 x2 x3 p0 q0 p1 q1 p2 q2 p3 q3
  refine ⟨?_, HH.out.1.drewN _, pw_below_drewN HH.out.2.1 _, HH.out.2.2.trans (KeepBut.of_below (pw_below_drewN (Below.refl _ _) _) g none) (.inl rfl)⟩
  show Ending.returned (.int .i64 _) = _
  rw [e1, ← HN.out, HR.out]
def node_rtext.f (b : List Int) (short : Bool) (at_ : Int) : Option (ByteArray × Bool × Int) :=
  let r1 := rtk b short at_ 1
  let r2 := rtk b r1.2.1 r1.2.2 (r1.1.getD 0 0)
  some (strOfNums r2.1, r2.2.1, r2.2.2)
theorem one_fact {A : Option Addr} {l : List Int} {w : World} (h : Kd.C (Kd.int .u8) w A 1 l) (hok : OkB l) : ∃ ad x0, A = some ad ∧ w.cell? ad = some (.int .u8 x0) ∧ 0 ≤ x0 ∧ x0 < 256 ∧ Aside0 (x0 = l.getD 0 0) := by
  obtain ⟨ad, rfl, hc⟩ := cell_in h (by decide)
  have h0 := hc 0 (by decide)
  have o0 := ok_getD hok 0
  exact ⟨ad, l.getD 0 0, rfl, h0, o0.1, o0.2, ⟨rfl⟩⟩
theorem node_rtext.calls (g : Nat) (b : List Int) (short : Bool) (at_ : Int) (r : ByteArray) (s' : Bool) (a' : Int) (w W : World) (hi : IsS51 w W g b short at_) (hB : Below w.heap.size w W) (h : node_rtext.f b short at_ = some (r, s', a')) :
    Calls Try.prog 30 #[.pointer (some ⟨g, 0, none⟩)] W fun e w' => e = .returned (.string r) ∧ IsS51 w w' g b s' a' ∧ Below w.heap.size w w' ∧ KeepBut W w' g none := by
  have h' := Option.some.inj h
  simp only [Prod.mk.injEq] at h'
  obtain ⟨hr, hs, ha⟩ := h'
  have HR := Aside0.mk hr
  have HS := Aside0.mk hs
  have HA := Aside0.mk ha
  clear h hr hs ha
  go_enter Try.func30, Try.ntmps30
  go_wp2_with (first | (go_at_call 28; with_reducible refine (rtake_any g b short at_ 1 w _ hi hB (by decide) (by decide)).mono ?_; rintro e w1 ⟨A, c, rfl, hC, hok, hi1, hb1, hk1⟩; obtain ⟨ad, x0, rfl, k0, p0, q0, HN⟩ := one_fact hC hok; have HH := Aside0.mk (And.intro hi1 (And.intro hb1 hk1)); clear hC hok hi1 hb1 hk1) | (go_at_call 28; refine (rtake_any g b _ _ x0 w _ HH.out.1 HH.out.2.1 p0 (by omega)).mono ?_; rintro e w2 ⟨A2, c2, rfl, hC, hok, hi2, hb2, hk2⟩; have HC2 := Aside0.mk hC; have cv := Kd.C_string (P := Try.prog) Try.underlying31 Try.underlying5 Try.underlying9 (c := c2) hC; have H2 := Aside0.mk (And.intro hi2 (And.intro hb2 hk2)); clear hC hok hi2 hb2 hk2))
  go_ret
  rw [HN.out] at H2
  refine ⟨?_, ?_, H2.out.2.1, HH.out.2.2.trans H2.out.2.2 (.inl rfl)⟩
  · show Ending.returned (.string _) = _
    rw [HN.out, HR.out]
  · rw [← HS.out, ← HA.out]; exact H2.out.1
def node_rnew.f (b : List Int) : Option (List Int × Bool × Int) := if OkB b then some (b, false, 0) else none
def node_num.f (b : List Int) (short : Bool) (at_ n : Int) : Option (Int × Bool × Int) :=
  if n = 1 then (if (b.length : Int) - at_ < 1 then none else some (((b.drop at_.toNat).take 1).getD 0 0, short, at_ + 1))
  else if n = 2 then (if (b.length : Int) - at_ < 2 then none else some (((b.drop at_.toNat).take 2).getD 0 0 * 256 + ((b.drop at_.toNat).take 2).getD 1 0, short, at_ + 2))
  else none
theorem rnew_is {b t : List Int} {s : Bool} {a : Int} {w W : World} {g c : Nat} {A : Option Addr} (h : node_rnew.f b = some (t, s, a)) (hr : Kd.C (Kd.int .u8) w A b.length b) (hc : b.length ≤ c)
    (hbox : W.heap[g]? = some (.cells #[.slice A b.length c, .bool false] 51 (0, 0))) (hg : w.heap.size ≤ g) : IsS51 w W g t s a := by
  unfold node_rnew.f at h
  by_cases hb : OkB b
  · rw [if_pos hb] at h
    simp only [Option.some.injEq, Prod.mk.injEq] at h
    obtain ⟨rfl, rfl, rfl⟩ := h
    exact ⟨A, c, by decide, by simp, by simpa using hc, hb, by simpa using hbox, hg, by simpa using hr⟩
  · rw [if_neg hb] at h
    exact absurd h (by simp)
theorem num1_inv {b : List Int} {s : Bool} {a r : Int} {s' : Bool} {a' : Int} (h : node_num.f b s a 1 = some (r, s', a')) : (1 : Int) ≤ (b.length : Int) - a ∧ r = ((b.drop a.toNat).take 1).getD 0 0 ∧ s' = s ∧ a' = a + 1 := by
  unfold node_num.f at h
  rw [if_pos rfl] at h
  by_cases c : (b.length : Int) - a < 1
  · rw [if_pos c] at h; exact absurd h (by simp)
  · rw [if_neg c] at h
    simp only [Option.some.injEq, Prod.mk.injEq] at h
    exact ⟨by omega, h.1.symm, h.2.1.symm, h.2.2.symm⟩
theorem num2_inv {b : List Int} {s : Bool} {a r : Int} {s' : Bool} {a' : Int} (h : node_num.f b s a 2 = some (r, s', a')) : (2 : Int) ≤ (b.length : Int) - a ∧ r = ((b.drop a.toNat).take 2).getD 0 0 * 256 + ((b.drop a.toNat).take 2).getD 1 0 ∧ s' = s ∧ a' = a + 2 := by
  unfold node_num.f at h
  rw [if_neg (by decide), if_pos rfl] at h
  by_cases c : (b.length : Int) - a < 2
  · rw [if_pos c] at h; exact absurd h (by simp)
  · rw [if_neg c] at h
    simp only [Option.some.injEq, Prod.mk.injEq] at h
    exact ⟨by omega, h.1.symm, h.2.1.symm, h.2.2.symm⟩
theorem below_old {w W : World} {a : Addr} {v : Value} (h : w.cell? a = some v) (hb : Below w.heap.size w W) : W.cell? a = some v := pw_cell_below hb h
theorem okB_of {w W : World} {g : Nat} {b : List Int} {s : Bool} {a : Int} (hi : IsS51 w W g b s a) : OkB b := by
  obtain ⟨A, c, _, _, _, h5, _⟩ := hi; exact h5
theorem rtake1 (g : Nat) (b : List Int) (s : Bool) (a r : Int) (s' : Bool) (a' : Int) (w W : World) (hi : IsS51 w W g b s a) (hB : Below w.heap.size w W) (h : node_num.f b s a 1 = some (r, s', a')) :
    Calls Try.prog 28 #[.pointer (some ⟨g, 0, none⟩), .int .i64 1] W fun e w' => ∃ ad c, e = .returned (.slice (some ad) 1 c) ∧ (∀ W', Below w.heap.size w W' → W'.cell? ad = some (.int .u8 r)) ∧ 0 ≤ r ∧ r < 256 ∧ IsS51 w w' g b s' a' ∧ Below w.heap.size w w' ∧ KeepBut W w' g none := by
  obtain ⟨h1, rfl, rfl, rfl⟩ := num1_inv h
  have hok : OkB ((b.drop a.toNat).take 1) := fun x hx => okB_of hi x (List.mem_of_mem_drop (List.mem_of_mem_take hx))
  refine (rtake_in g b s' a 1 w W hi hB (by decide) (by decide) h1).mono ?_
  rintro e w' ⟨A, c, he, _, hc, h2, h3, h4⟩
  obtain ⟨ad, rfl, hcell⟩ := cell_in hc (by decide)
  have h0 : w.cell? ad = _ := hcell 0 (by decide)
  exact ⟨ad, c, he, fun W' hW => below_old h0 hW, (ok_getD hok 0).1, (ok_getD hok 0).2, h2, h3, h4⟩
theorem or2 (x y : Int) (p0 : 0 ≤ x) (q0 : x < 256) (p1 : 0 ≤ y) (q1 : y < 256) : bits BinOp.or IntKind.i64 (x * 256) y = x * 256 + y := or8 _ _ (by omega) (by omega) (by omega) p1 q1
theorem or2w (x y : Int) (p0 : 0 ≤ x) (q0 : x < 256) (p1 : 0 ≤ y) (q1 : y < 256) : bits BinOp.or IntKind.i64 (wrap64 (wrap64 x * 256)) (wrap64 y) = x * 256 + y := by
  have e1 : wrap64 x = x := by unfold wrap64; omega
  have e2 : wrap64 (x * 256) = x * 256 := by unfold wrap64; omega
  have e3 : wrap64 y = y := by unfold wrap64; omega
  rw [e1, e2, e3, or2 x y p0 q0 p1 q1]
theorem rtake2 (g : Nat) (b : List Int) (s : Bool) (a r : Int) (s' : Bool) (a' : Int) (w W : World) (hi : IsS51 w W g b s a) (hB : Below w.heap.size w W) (h : node_num.f b s a 2 = some (r, s', a')) :
    Calls Try.prog 28 #[.pointer (some ⟨g, 0, none⟩), .int .i64 2] W fun e w' => ∃ ad c x y, e = .returned (.slice (some ad) 2 c) ∧ (∀ W', Below w.heap.size w W' → W'.cell? ad = some (.int .u8 x) ∧ W'.cell? ⟨ad.block, ad.off + 1, none⟩ = some (.int .u8 y)) ∧ 0 ≤ x ∧ x < 256 ∧ 0 ≤ y ∧ y < 256 ∧ Aside0 (bits BinOp.or IntKind.i64 (wrap64 (wrap64 x * 256)) (wrap64 y) = r) ∧ IsS51 w w' g b s' a' ∧ Below w.heap.size w w' ∧ KeepBut W w' g none := by
  obtain ⟨h1, rfl, rfl, rfl⟩ := num2_inv h
  have hok : OkB ((b.drop a.toNat).take 2) := fun x hx => okB_of hi x (List.mem_of_mem_drop (List.mem_of_mem_take hx))
  refine (rtake_in g b s' a 2 w W hi hB (by decide) (by decide) h1).mono ?_
  rintro e w' ⟨A, c, he, _, hc, h2, h3, h4⟩
  obtain ⟨ad, rfl, hcell⟩ := cell_in hc (by decide)
  have h0 : w.cell? ad = _ := hcell 0 (by decide)
  have h0' : w.cell? ⟨ad.block, ad.off + 1, none⟩ = _ := hcell 1 (by decide)
  have o0 := ok_getD hok 0
  have o1 := ok_getD hok 1
  exact ⟨ad, c, _, _, he, fun W' hW => ⟨below_old h0 hW, below_old h0' hW⟩, o0.1, o0.2, o1.1, o1.2, ⟨or2w _ _ o0.1 o0.2 o1.1 o1.2⟩, h2, h3, h4⟩
end Go.Proofs.Ytbpnkgaomobpkaa.Giv
