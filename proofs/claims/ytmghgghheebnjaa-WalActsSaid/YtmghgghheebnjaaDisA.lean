/- The disk: what its block, its map and its row of writes say; its simple methods, walked by hand. -/
import Derived.Test.YtmghgghheebnjaaProg
import Derived.WalkKit
import Derived.Below
import Derived.KernelRfl
import Derived.Maps.Own
import Derived.Maps.Views
import Derived.Laws.Rows
import Derived.Laws.CopyOwn
import Derived.Deep.WholeRow
import Derived.Deep.QuietTactic
import Derived.BigQuiet
import Derived.Test.YtmghgghheebnjaaWWords
import Derived.Test.YtmghgghheebnjaaWLast
import Derived.Test.YtmghgghheebnjaaWKept
import Derived.Test.YtmghgghheebnjaaWMore
namespace Go.Proofs.Ytmghgghheebnjaa.Dis
open Go.RowKit Go.Proofs.YtmghgghheebnjaaW.PrintWords Go.Proofs.YtmghgghheebnjaaW.PrintLast Go.Proofs.YtmghgghheebnjaaW.PrintMore Go.Maps
set_option linter.unusedVariables false
set_option linter.unusedSimpArgs false
/-- A sector's bytes. -/
def Sec (s : List Int) : Prop := s.length = 512 ∧ ∀ x ∈ s, 0 ≤ x ∧ x < 256
def secC (s : List Int) : List Value := nums .u8 s
def secV (s : List Int) : Value := .agg (secC s).toArray
def wrC (a : Int) (s : List Int) : List Value := .int .i64 a :: nums .u8 s
def wrV (a : Int) (s : List Int) : Value := .agg (wrC a s).toArray
def zeros : List Int := List.replicate 512 0
theorem sec_zeros : Sec zeros := ⟨List.length_replicate, fun x hx => by rw [(List.mem_replicate.1 hx).2]; omega⟩
theorem secC_len {s : List Int} (h : Sec s) : (secC s).length = 512 := by simp [secC, nums, h.1]
theorem wrC_len {a : Int} {s : List Int} (h : Sec s) : (wrC a s).length = 513 := by simp [wrC, nums, h.1]
theorem nums_one (s : List Int) : ∀ v ∈ nums .u8 s, v.oneCell' = true := fun v hv => by
  obtain ⟨x, _, rfl⟩ := List.mem_map.1 hv; rfl
theorem nums_inj {s t : List Int} (h : nums .u8 s = nums .u8 t) : s = t :=
  (List.map_inj_right (f := fun x => Value.int .u8 x) (fun x y e => by injection e)).1 h
/-- A written sector, as an element of a row. -/
def wrK : Kd (Int × List Int) where
  sz := 513
  E := []
  K := fun _ x cs => cs = wrC x.1 x.2 ∧ Sec x.2
  M := fun _ _ _ x cs => cs = wrC x.1 x.2 ∧ Sec x.2
  K_len := fun h => by rw [h.1]; exact wrC_len h.2
  K_one := fun h u hu => by
    rw [h.1] at hu
    rcases List.mem_cons.1 hu with rfl | h2
    · rfl
    · exact nums_one _ _ h2
  K_below := fun _ h => h
  K_of_M := fun h => h
  M_mono := fun _ h => h
  M_bound := fun h => h
  M_move := fun _ h => h
  M_lower := fun _ h => h
/-! ### the map -/
def enc (s : List Int) : DataW Unit := .lit (.string (s.map fun x => UInt8.ofNat x.toNat))
open Classical in
noncomputable def secR (v : Value) : Option (DataW Unit × List MemPlace) := if h : ∃ s, Sec s ∧ v = secV s then some (enc h.choose, []) else none
theorem enc_inj {s t : List Int} (hs : Sec s) (ht : Sec t) (h : enc s = enc t) : s = t := by
  unfold enc at h
  simp only [DataW.lit.injEq, Lit.string.injEq] at h
  apply List.ext_getElem
  · rw [hs.1, ht.1]
  · intro i h1 h2
    have h3 := congrArg (fun l => l[i]?) h
    simp only [List.getElem?_map, List.getElem?_eq_getElem h1, List.getElem?_eq_getElem h2, Option.map_some, Option.some.injEq] at h3
    have h4 := congrArg UInt8.toNat h3
    rw [UInt8.toNat_ofNat', UInt8.toNat_ofNat'] at h4
    have b1 := hs.2 _ (List.getElem_mem h1)
    have b2 := ht.2 _ (List.getElem_mem h2)
    omega
theorem secV_inj {s t : List Int} (h : secV s = secV t) : s = t := by
  unfold secV secC at h
  simp only [Value.agg.injEq] at h
  exact nums_inj (by simpa using congrArg Array.toList h)
theorem secR_mk {s : List Int} (h : Sec s) : secR (secV s) = some (enc s, []) := by
  have hx : ∃ t, Sec t ∧ secV s = secV t := ⟨s, h, rfl⟩
  unfold secR
  rw [dif_pos hx]
  rw [← secV_inj hx.choose_spec.2]
theorem secR_inv {v : Value} {z : DataW Unit × List MemPlace} (h : secR v = some z) : ∃ s, Sec s ∧ v = secV s ∧ z = (enc s, []) := by
  unfold secR at h
  by_cases hx : ∃ s, Sec s ∧ v = secV s
  · rw [dif_pos hx] at h
    exact ⟨hx.choose, hx.choose_spec.1, hx.choose_spec.2, (Option.some.inj h).symm⟩
  · rw [dif_neg hx] at h; cases h
def I64 (i : Int) : Prop := -9223372036854775808 ≤ i ∧ i ≤ 9223372036854775807
theorem i64_wf {i : Int} (h : I64 i) : (Lit.int .i64 i).wf = true := by
  simp [Lit.wf, IntKind.min, IntKind.max, IntKind.signed, IntKind.bits, h.1, h.2]
/-- Block b is a map of at most n sectors; m tells what stands for each number. -/
def MapIs (w : World) (b n : Nat) (m : Int → List Int) : Prop := (∀ i, Sec (m i)) ∧ ∃ D : DataW Unit, IsMap D ∧ w.ownsMap Try.prog 3 secR b n D ∧ ∀ i, I64 i → D.atKey (.int .i64 i) (enc zeros) = enc (m i)
theorem keyed3 : Keyed Try.prog 3 := int_keyed Try.underlying3
theorem MapIs.kept {w w' : World} {b n : Nat} {m : Int → List Int} {row : Option Nat} (h : MapIs w b n m) (hg : w.grownBy w' row) (hne : some b ≠ row) : MapIs w' b n m := by
  obtain ⟨h0, D, hD, h1, h2⟩ := h
  exact ⟨h0, D, hD, h1.kept hg hne, h2⟩
theorem MapIs.look {w : World} {b n : Nat} {m : Int → List Int} (h : MapIs w b n m) (i : Int) (hi : I64 i) (hz : (zeroValue 94).run Try.prog w = .ok (secV zeros) w) : (Instr.lookup 85 (.map (some b)) (.int .i64 i) false).run Try.prog w = .ok (secV (m i)) w := by
  obtain ⟨h0, D, hD, h1, h2⟩ := h
  obtain ⟨v, ps, hrun, hv⟩ := h1.lookup keyed3 Try.underlying85 hz (secR_mk sec_zeros) (keyOf_int_mk Try.underlying3 (i64_wf hi))
  obtain ⟨s, hs, rfl, e⟩ := secR_inv hv
  simp only [Prod.mk.injEq] at e
  rw [h2 i hi] at e
  rw [enc_inj (h0 i) hs e.1]
  exact hrun
theorem MapIs.put {w : World} {b n : Nat} {m : Int → List Int} (h : MapIs w b n m) (hn : n < maxLen) (i : Int) (hi : I64 i) (s : List Int) (hs : Sec s) :
    ∃ w', (Instr.mapUpdate 85 (.map (some b)) (.int .i64 i) (secV s)).run Try.prog w = .ok () w' ∧ MapIs w' b (n + 1) (fun j => if j = i then s else m j) ∧ w.grownBy w' (some b) := by
  obtain ⟨h0, D, hD, h1, h2⟩ := h
  obtain ⟨w', hrun, h3, h4⟩ := h1.update keyed3 Try.underlying85 hn (keyOf_int_mk Try.underlying3 (i64_wf hi)) (secR_mk hs)
  refine ⟨w', hrun, ⟨fun j => ?_, D.put (.int .i64 i) (enc s), ?_, h3, fun j hj => ?_⟩, h4⟩
  · by_cases e : j = i
    · simp only [e, if_true]; exact hs
    · simp only [e, if_false]; exact h0 j
  · obtain ⟨es, rfl⟩ := hD
    exact ⟨_, rfl⟩
  · by_cases e : j = i
    · subst e
      rw [atKey_put_same hD (show WideAt.IsKeyLit (Lit.int .i64 j) from trivial)]
      simp
    · rw [atKey_put_other (fun h => e (by injection h)), h2 j hj]
      simp [e]
theorem zero56 (w : World) : (zeroValue 94).run Try.prog w = .ok (secV zeros) w := by kernel_rfl
theorem underl60 : Try.prog.underlying 85 = some (.map 3 94) := Try.underlying85
/-! ### the disk -/
/-- What a disk says: how many sectors; what stands fast; what was written since; the calls that come yet; dead; cnt: a bound on the writes ever. -/
structure D where
  n : Int
  fast : Int → List Int
  since : List (Int × List Int)
  left : Int
  dead : Bool
  cnt : Nat
structure DOk (d : D) : Prop where
  n0 : 0 ≤ d.n
  n1 : d.n ≤ 4096
  l0 : -1 ≤ d.left
  l1 : d.left ≤ 9223372036854775807
  at_ : ∀ x ∈ d.since, 0 ≤ x.1 ∧ x.1 < d.n ∧ Sec x.2
def dcells (d : D) (b : Nat) (v : Value) : Array Value := #[.int .i64 d.n, .map (some b), v, .int .i64 d.left, .bool d.dead]
def IsD (base : Nat) (w : World) (g : Nat) (d : D) : Prop :=
  DOk d ∧ ∃ b v m, w.heap[g]? = some (.cells #[.int .i64 d.n, .map (some b), v, .int .i64 d.left, .bool d.dead] 88 (0, 0)) ∧ base ≤ g ∧ base ≤ b ∧ m + d.since.length ≤ d.cnt ∧ MapIs w b m d.fast ∧ Kd.R wrK 106 w base (fun _ => True) v d.since
/-- What a call on a disk leaves: no block but the disk's own kinds (the disk's, a map, a row of writes) has turned. -/
def KeepD (w w' : World) : Prop := w.heap.size ≤ w'.heap.size ∧ ∀ (i : Nat) (cs : Array Value) (t : TypeId) (fr : Nat × Nat), w.heap[i]? = some (Obj.cells cs t fr) → t ≠ 106 → t ≠ 88 → w'.heap[i]? = some (Obj.cells cs t fr)
theorem KeepD.refl (w : World) : KeepD w w := ⟨Nat.le_refl _, fun _ _ _ _ h _ _ => h⟩
theorem KeepD.trans {a b c : World} (h : KeepD a b) (k : KeepD b c) : KeepD a c := ⟨Nat.le_trans h.1 k.1, fun i cs t fr hi h1 h2 => k.2 i cs t fr (h.2 i cs t fr hi h1 h2) h1 h2⟩
theorem KeepD.of_below {w w' : World} (h : Below w.heap.size w w') : KeepD w w' := ⟨h.size, fun i cs t fr hi _ _ => blk_below hi h⟩
theorem KeepD.set {w w' : World} (h : KeepD w w') {g j : Nat} {cs : Array Value} (hb : w'.heap[g]? = some (.cells cs 88 (0, 0))) (u : Value) : KeepD w (w'.setCell ⟨g, j, none⟩ u) :=
  h.trans ⟨by simp [World.setCell], fun i cs' t fr hi h1 h2 => by
    have hne : i ≠ g := by rintro rfl; rw [hb] at hi; injection hi with hi; injection hi with _ ht; exact h2 ht.symm
    exact (Below.heap_setCell w' ⟨g, j, none⟩ u i hne).trans hi⟩
/-- The disk's block turns in a cell that is a number or a truth. -/
theorem IsD.set_left {base g : Nat} {w : World} {d : D} (h : IsD base w g d) (x : Int) (h0 : -1 ≤ x) (h1 : x ≤ 9223372036854775807) : IsD base (w.setCell ⟨g, 3, none⟩ (.int .i64 x)) g { d with left := x } := by
  obtain ⟨hok, b, v, m, hb, hg, hbb, hm, hM, hR⟩ := h
  have hbt : ∃ es c, w.heap[b]? = some (.map es c) := by obtain ⟨_, D, _, ⟨es, c, h, _⟩, _⟩ := hM; exact ⟨es, c, h⟩
  obtain ⟨es, c, hbt⟩ := hbt
  have hne : b ≠ g := by rintro rfl; rw [hb] at hbt; injection hbt with hbt; cases hbt
  exact ⟨⟨hok.n0, hok.n1, h0, h1, hok.at_⟩, b, v, m, by simpa using blk_set hb 3 (.int .i64 x), hg, hbb, hm, hM.kept (row := some g) ⟨rfl, rfl, rfl, by simp [World.setCell], fun i _ hi => Below.heap_setCell _ _ _ _ (fun e => hi (by rw [e]))⟩ (fun e => hne (by injection e)), Kd.R_far (Kd.R_mono (ok' := fun k => k ≠ g) (Kd.R_types hR hb (by decide)) (fun k hk => hk.2)) (fun k hk => hk) _ |> fun h => Kd.R_mono h (fun _ _ => trivial)⟩
theorem IsD.set_dead {base g : Nat} {w : World} {d : D} (h : IsD base w g d) (x : Bool) : IsD base (w.setCell ⟨g, 4, none⟩ (.bool x)) g { d with dead := x } := by
  obtain ⟨hok, b, v, m, hb, hg, hbb, hm, hM, hR⟩ := h
  have hbt : ∃ es c, w.heap[b]? = some (.map es c) := by obtain ⟨_, D, _, ⟨es, c, h, _⟩, _⟩ := hM; exact ⟨es, c, h⟩
  obtain ⟨es, c, hbt⟩ := hbt
  have hne : b ≠ g := by rintro rfl; rw [hb] at hbt; injection hbt with hbt; cases hbt
  exact ⟨⟨hok.n0, hok.n1, hok.l0, hok.l1, hok.at_⟩, b, v, m, by simpa using blk_set hb 4 (.bool x), hg, hbb, hm, hM.kept (row := some g) ⟨rfl, rfl, rfl, by simp [World.setCell], fun i _ hi => Below.heap_setCell _ _ _ _ (fun e => hi (by rw [e]))⟩ (fun e => hne (by injection e)), Kd.R_far (Kd.R_mono (ok' := fun k => k ≠ g) (Kd.R_types hR hb (by decide)) (fun k hk => hk.2)) (fun k hk => hk) _ |> fun h => Kd.R_mono h (fun _ _ => trivial)⟩
theorem IsD.below {base g : Nat} {w w' : World} {d : D} (h : IsD base w g d) (hw : Below w.heap.size w w') : IsD base w' g d := by
  obtain ⟨hok, b, v, m, hb, hg, hbb, hm, hM, hR⟩ := h
  exact ⟨hok, b, v, m, blk_below hb hw, hg, hbb, hm, hM.kept (grown_of_below hw none) (by simp), Kd.R_below hR hw⟩
theorem IsD.lt {base g : Nat} {w : World} {d : D} (h : IsD base w g d) : g < w.heap.size := by
  obtain ⟨hok, b, v, m, hb, _⟩ := h
  exact blk_lt hb
theorem IsD.ge {base g : Nat} {w : World} {d : D} (h : IsD base w g d) : base ≤ g := by
  obtain ⟨hok, b, v, m, hb, hg, _⟩ := h
  exact hg
end Go.Proofs.Ytmghgghheebnjaa.Dis
