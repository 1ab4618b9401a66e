/- The law DiskActs: its words; one act on both disks (written by mkacts.py). -/
import Derived.Test.YtnaegemldpfllaaRfN
namespace Go.Proofs.Ytnaegemldpfllaa.Dis
open Go.RowKit Go.Proofs.YtnaegemldpfllaaW.PrintWords Go.Proofs.YtnaegemldpfllaaW.PrintLast Go.Proofs.YtnaegemldpfllaaW.PrintMore Go.Maps
set_option linter.unusedVariables false
set_option linter.unusedSimpArgs false
section
variable {P : Program} {ops : Array Oper} {Q : Exit → Act → World → Prop} {md : Region.Mode}
/-- More may be known of the world from here on. -/
theorem stronger {S S' : World → Prop} (himp : ∀ w, S' w → S w) : ∀ (fuel : Nat) (l : Array Bool) (a : Act) (w : World), S' w → wpAnyLast P md ops Q S' [] fuel l a w → wpAnyLast P md ops Q S [] fuel l a w
  | 0, _, _, _, _, h => h
  | fuel + 1, l, a, w, hS, h => ⟨h.1, fun i hi => wpOp_mono (fun a' w' h' => ⟨fun _ _ => himp _ (h'.1 (by simp) hS), stronger himp fuel _ a' w' (h'.1 (by simp) hS) h'.2⟩) (h.2 i hi)⟩
end
theorem IsD.lower {base base' g : Nat} {w : World} {d : D} (h : IsD base w g d) (hb : base' ≤ base) : IsD base' w g d := by
  obtain ⟨hok, b, v, m, h1, h2, h3, h4, h5, h6⟩ := h
  exact ⟨hok, b, v, m, h1, Nat.le_trans hb h2, Nat.le_trans hb h3, h4, h5, Kd.R_lower h6 hb⟩
theorem IsRf.lower {base base' g : Nat} {w : World} {r : Rf} (h : IsRf base w g r) (hb : base' ≤ base) : IsRf base' w g r := by
  obtain ⟨vA, vB, vT, vW, h⟩ := h
  exact ⟨vA, vB, vT, vW, h.blk, Nat.le_trans hb h.ge, Kd.R_lower h.rA hb, Kd.R_lower h.rB hb, Kd.R_lower h.rT hb, Kd.R_lower h.rW hb, h.sA, h.sB⟩
theorem act_full {w : World} {A : Option Addr} {n : Nat} {l : List Act_} (h : actK.C w A n l) (k : Nat) (hk : k < n) :
    ∃ ad AB cB AK cK, A = some ad ∧ (∀ j v, [Value.int .i64 (l.getD k act0).1, .int .i64 (l.getD k act0).2.1, .slice AB (l.getD k act0).2.2.1.length cB, .slice AK (l.getD k act0).2.2.2.length cK][j]? = some v → w.cell? (ad.add (k * 4 + j)) = some v) ∧
      Kd.C (Kd.int .u8) w AB (l.getD k act0).2.2.1.length (l.getD k act0).2.2.1 ∧ Kd.C Kd.bool w AK (l.getD k act0).2.2.2.length (l.getD k act0).2.2.2 := by
  obtain ⟨ad, c, hA, hl, hK, hc⟩ := Kd.C_get h act0 (k : Int) (by omega) (by omega)
  simp only [Int.toNat_natCast] at hK hc
  have hs : actK.sz = 4 := rfl
  rw [hs] at hc
  obtain ⟨c0, c1, rfl, h0, d0, d1, rfl, h1, e0, e1, rfl, h2, h3⟩ := hK
  obtain ⟨AB, cB, rfl, hle, hC⟩ := h2
  obtain ⟨AK, cK, rfl, hle2, hC2⟩ := h3
  obtain rfl : c0 = [.int .i64 _] := h0
  obtain rfl : d0 = [.int .i64 _] := h1
  exact ⟨ad, AB, cB, AK, cK, hA, fun j v hv => hc j v hv, hC, hC2⟩
theorem acts_ok {l : List Act_} {R : Nat} (h : ∀ a ∈ l, OkA a R) (k : Nat) (hk : k < l.length) : OkA (l.getD k act0) R := h _ (by rw [List.getD_eq_getElem?_getD, List.getElem?_eq_getElem hk]; exact List.getElem_mem _)
/-- One act: both disks answer alike, and go on alike. -/
theorem does_sim (base gd gr : Nat) (d : D) (r : Rf) (k : Nat) (a : Act_) (Ab : Option Addr) (nb cb : Nat) (Ak : Option Addr) (nk ck : Nat) (w W : World) (hd : IsD base W gd d) (hr : IsRf base W gr r) (hB : Below base w W) (hbw : base ≤ w.heap.size)
    (hs : Sim d r k) (hk : k ≤ 10000) (hok : OkA a 140737488351232) (hnb : nb = a.2.2.1.length) (hnk : nk = a.2.2.2.length) (hLb : ∀ W', Below base w W' → Kd.C (Kd.int .u8) W' Ab nb a.2.2.1) (hLk : ∀ W', Below base w W' → Kd.C Kd.bool W' Ak nk a.2.2.2) :
    Calls Try.prog 22 #[.pointer (some ⟨gd, 0, none⟩), .pointer (some ⟨gr, 0, none⟩), .agg #[.int .i64 a.1, .int .i64 a.2.1, .slice Ab nb cb, .slice Ak nk ck]] W fun e w' => ∃ d' r', Sim d' r' (k + 2) ∧ e = .returned (.bool true) ∧ IsD base w' gd d' ∧ IsRf base w' gr r' ∧ Below base w w' := by
  obtain ⟨kd, at_, b, l⟩ := a
  have hcnt : d.cnt < 1000000 := by have := hs.cnt; omega
  have hl : -9223372036854775808 < r.left ∧ r.left ≤ 9223372036854775807 := ⟨by have := hs.lb; omega, hs.ub⟩
  have hlen : r.at_.length + r.to_.length ≤ 1000000 := by have := hs.size; omega
  have hlo := hok.long
  have hke := hok.keep
  have hat : I64 at_ := hok.at_
  by_cases h0 : kd = 0
  · subst h0
    obtain ⟨s1, s2⟩ := sim_write hs at_ b hok.b
    exact (does0_calls base gd gr d r 0 at_ Ab nb cb Ak nk ck w W hd hr hB hbw hcnt hl hs.ab hs.tw hlen b hnb hLb (by rw [hnb]; exact Nat.le_trans hlo (by decide)) hok.b _ s2 rfl ⟨by omega, by have := hs.tw; omega⟩).mono fun e w' h => ⟨_, _, s1, h⟩
  by_cases h1 : kd = 1
  · subst h1
    obtain ⟨s1, s2⟩ := sim_read hs at_
    have hc := (sim_call hs).1
    exact (does1_calls base gd gr d r 0 at_ Ab nb cb Ak nk ck w W hd hr hB hbw hcnt hl hs.ab hs.tw hlen hat _ _ s2 rfl (fun q => Nat.le_trans (last_len hc.secw at_ _ (bytes_len hc.secb at_) q) (by decide))).mono fun e w' h => ⟨_, _, s1, h⟩
  by_cases h2 : kd = 2
  · subst h2
    obtain ⟨s1, s2⟩ := sim_flush hs
    exact (does2_calls base gd gr d r 0 at_ Ab nb cb Ak nk ck w W hd hr hB hbw hcnt hl hs.ab hs.tw hlen s2).mono fun e w' h => ⟨_, _, s1, h⟩
  by_cases h3 : kd = 3
  · subst h3
    exact (does3_calls base gd gr d r 0 at_ Ab nb cb Ak nk ck w W hd hr hB hbw hcnt hl hs.ab hs.tw hlen hat.2).mono fun e w' h => ⟨_, _, sim_arm hs at_ hat.2, h⟩
  by_cases h4 : kd = 4
  · subst h4
    exact (does4_calls base gd gr d r 0 at_ Ab nb cb Ak nk ck w W hd hr hB hbw hcnt hl hs.ab hs.tw hlen l hnk hLk (by rw [hnk]; exact Nat.le_trans hke (by decide))).mono fun e w' h => ⟨_, _, sim_crash hs l, h⟩
  · exact (does5_calls base gd gr d r kd at_ Ab nb cb Ak nk ck w W hd hr hB hbw hcnt hl hs.ab hs.tw hlen h0 h1 h2 h3 h4).mono fun e w' h => ⟨_, _, hs.up (by omega), h⟩
end Go.Proofs.Ytnaegemldpfllaa.Dis
