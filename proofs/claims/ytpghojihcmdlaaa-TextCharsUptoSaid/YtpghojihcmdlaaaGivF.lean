/- The reference's function Chars comes to the list of a text's characters. -/
import Derived.Test.YtpghojihcmdlaaaGivE
namespace Go.Proofs.Ytpghojihcmdlaaa.Giv
open Go.RowKit Go.Proofs.YtpghojihcmdlaaaW.PrintWords
set_option linter.unusedVariables false
set_option linter.unusedSimpArgs false

theorem info3 : (Try.prog.info? 3).map (fun i => (i.zero, i.size, i.bytes)) = some (some (.int .i64 0), 1, 8) := by kernel_rfl

/-- Where the characters from p on begin. -/
def sf (s : ByteArray) (p : Nat) : List Nat :=
  if h : p < s.size then p :: sf s (p + wd s p) else []
termination_by s.size - p
decreasing_by have := wd_fits s p h; omega
theorem sf_lt {s : ByteArray} {p : Nat} (h : p < s.size) : sf s p = p :: sf s (p + wd s p) := by
  rw [sf]; simp [h]
theorem sf_end {s : ByteArray} {p : Nat} (h : ¬ p < s.size) : sf s p = [] := by
  rw [sf]; simp [h]

/-- Where the k-th of the pieces that begin at L ends, in a text of n bytes. -/
def nx (L : List Nat) (n k : Nat) : Nat := if k + 1 < L.length then L.getD (k + 1) 0 else n
theorem nx_cons (a : Nat) (L : List Nat) (n k : Nat) : nx (a :: L) n (k + 1) = nx L n k := by
  unfold nx
  simp only [List.length_cons, List.getD_cons_succ, Nat.add_lt_add_iff_right]

theorem sf_cf (s : ByteArray) : ∀ (d p : Nat), s.size - p ≤ d → p ≤ s.size → (cf s p).length = (sf s p).length ∧
    (∀ k, k < (sf s p).length → p ≤ (sf s p).getD k 0 ∧ (sf s p).getD k 0 ≤ nx (sf s p) s.size k ∧ nx (sf s p) s.size k ≤ s.size ∧
      (cf s p)[k]? = some (s.extract ((sf s p).getD k 0) (nx (sf s p) s.size k))) := by
  intro d
  induction d with
  | zero => intro p h hp; rw [cf_end (by omega), sf_end (by omega)]; simp
  | succ d ih =>
    intro p h hp
    by_cases hlt : p < s.size
    · have hw := wd_fits s p hlt
      obtain ⟨h1, h2⟩ := ih (p + wd s p) (by omega) hw.2
      rw [cf_lt hlt, sf_lt hlt]
      refine ⟨by simp [h1], ?_⟩
      intro k hk
      cases k with
      | zero =>
        have e : nx (p :: sf s (p + wd s p)) s.size 0 = p + wd s p := by
          unfold nx
          by_cases h3 : p + wd s p < s.size
          · rw [sf_lt h3]; simp
          · rw [sf_end h3]; simp; omega
        rw [e]
        simp only [List.getD_cons_zero, List.getElem?_cons_zero]
        exact ⟨Nat.le_refl _, by omega, hw.2, trivial⟩
      | succ k =>
        rw [nx_cons]
        simp only [List.getD_cons_succ, List.length_cons, List.getElem?_cons_succ] at hk ⊢
        have h3 := h2 k (by omega)
        exact ⟨by omega, h3.2.1, h3.2.2.1, h3.2.2.2⟩
    · rw [cf_end hlt, sf_end hlt]; simp

theorem own_ne_iter {w : World} {base : Nat} {e : TypeId} {size n : Nat} {v : Value} {xs : List Value} {g p : Nat} {s : ByteArray} (h : w.ownsRow base e size v n xs) (hg : w.heap[g]? = some (.stringIter s p)) : some g ≠ v.ownBlock := fun e1 => by
  obtain ⟨cells, hc⟩ := own_typed h g e1.symm
  rw [hg] at hc
  cases hc
theorem own_iterAt {w : World} {base : Nat} {e : TypeId} {size n : Nat} {v : Value} {xs : List Value} {g p : Nat} {s : ByteArray} (h : w.ownsRow base e size v n xs) (hg : w.heap[g]? = some (.stringIter s p)) (q : Nat) : (w.iterAt g s q).ownsRow base e size v n xs :=
  own_move h (fun k hk => Lib.iterAt_other _ _ _ _ _ (fun e1 => own_ne_iter h hg (by rw [hk, e1])))

set_option maxRecDepth 1000000 in
theorem refchars_any (s : ByteArray) (w : World) (hs : s.size * 16 ≤ 140737488351232) :
    Calls Try.prog 22 #[.string s] w fun e w' => ∃ v : Value, e = .returned v ∧ w'.ownsRow w.heap.size 9 1 v (cf s 0).length ((cf s 0).map Value.string) ∧ Below w.heap.size w w' := by
  obtain ⟨i3, j1, j2, j3, j4⟩ := info_parts info3
  obtain ⟨i9, k1, k2, k3, k4⟩ := info_parts info9
  obtain ⟨L, hL⟩ : ∃ L, L = sf s 0 := ⟨_, rfl⟩
  obtain ⟨R, hR⟩ : ∃ R, R = cf s 0 := ⟨_, rfl⟩
  have hLR := sf_cf s s.size 0 (by omega) (by omega)
  rw [← hL, ← hR] at hLR
  have hlen := cf_length_le s 0
  rw [← hR] at hlen ⊢
  have HLR := Lib.hid hLR
  have HL := Lib.hid hL
  have HR := Lib.hid hR
  clear hL hR hLR
  go_enter Try.func22, Try.ntmps22
  go_wp2
  go_loopw [3] (fun v wr => ∃ (pos : Nat) (acc : List Nat), wr.heap[w.heap.size + 1]? = some (.stringIter s pos) ∧ wr.ownsRow w.heap.size 3 1 v acc.length (acc.map fun (n : Nat) => Value.int .i64 (n : Int)) ∧ Below w.heap.size w wr ∧ Hid (acc ++ sf s pos = L) ∧ pos ≤ s.size ∧ acc.length ≤ pos) (fun _ wr => s.size - wr.iterPos (w.heap.size + 1))
  case atStart =>
    refine ⟨0, [], ?_, ?_, ?_, HL.out.symm, by omega, by simp⟩
    · have := World.iter_heap (w.alloc (.cells #[] 3)) s 0
      simpa using this
    · exact (World.ownsRow_lit w #[] 0 (Nat.le_refl _) (by unfold maxLen; omega) (by simp)).alloc _
    · exact ((Below.refl _ _).alloc (Nat.le_refl _) _).alloc (by simp) _
  case round =>
    obtain ⟨pos, acc, hit, hown, hbw, HC, h4, h5⟩ := hrel
    have hpos0 := iterPos_of hit
    by_cases hp : pos < s.size
    · have hw := wd_fits s pos hp
      have hnx : ∀ ty, (Instr.next (.pointer (some ⟨w.heap.size + 1, 0, none⟩)) true ty).run Try.prog wr = .ok (.tuple #[.bool true, .int .i64 pos, .int .i32 (Utf8.decode s pos).1]) (wr.iterAt (w.heap.size + 1) s (pos + wd s pos)) := fun ty => Lib.run_next_any_at wr (w.heap.size + 1) s pos ty hit hp
      have hit2 := Lib.iterAt_heap wr (w.heap.size + 1) s pos (pos + wd s pos) hit
      have hbw2 := Lib.below_iterAt hbw (k := w.heap.size + 1) (by omega) s (pos + wd s pos)
      have hown2 := own_iterAt hown hit (pos + wd s pos)
      obtain ⟨W1, hW1⟩ : ∃ W1, W1 = wr.iterAt (w.heap.size + 1) s (pos + wd s pos) := ⟨_, rfl⟩
      rw [← hW1] at hnx hit2 hbw2 hown2
      have hBlt := lt_of_block hit2
      have hne := Lib.hid (own_ne_iter hown2 hit2)
      clear hW1 hit hown hbw
      go_wp2_with
        (at_builtin; refine wpList_append_own _ rfl _ _ 38 rfl w.heap.size 3 i3 (.int .i64 0) 1 8 Try.underlying38 j1 j2 j3 j4 rfl (by decide) _ _ _ rfl (hown2.alloc _) ⟨W1.heap.size, 0, none⟩ 1 1 [.int .i64 (pos : Int)] rfl rfl (cell_one_new _ _ _) (fun x hx => by simp at hx; subst hx; rfl) (by unfold maxLen; omega) (by omega) (by simp; omega) ?_; intro v' w3 hown' hgrow3 hnil3
         have hit3 : w3.heap[w.heap.size + 1]? = some (.stringIter s (pos + wd s pos)) := by
           rw [hgrow3.block (w.heap.size + 1) (by simp; omega) hne.out, Below.heap_alloc _ _ _ hBlt]; exact hit2
         have hbw3 : Below w.heap.size w w3 := Below.grown (hbw2.alloc (by omega) _) hgrow3 (by simp; omega) (fun j hj => by have := (hown2.lt _ hj).1; omega)
         have X : Aside (w3.ownsRow w.heap.size 3 1 v' (acc ++ [pos]).length ((acc ++ [pos]).map fun (n : Nat) => Value.int .i64 (n : Int)) ∧ w3.heap[w.heap.size + 1]? = some (.stringIter s (pos + wd s pos)) ∧ Below w.heap.size w w3) := ⟨by rw [List.length_append, List.map_append]; exact hown', hit3, hbw3⟩
         clear hown' hgrow3 hnil3 hit3 hbw3)
      go_roundw
      case rel =>
        refine ⟨pos + wd s pos, acc ++ [pos], X.out.2.1, X.out.1, X.out.2.2, ?_, by omega, by simp; omega⟩
        show _ = _
        rw [← HC.out, sf_lt hp]
        simp
      case measure => rw [iterPos_of X.out.2.1, hpos0]; omega
    · have hnx : ∀ ty, (Instr.next (.pointer (some ⟨w.heap.size + 1, 0, none⟩)) true ty).run Try.prog wr = _ := fun ty => Lib.run_next_end_at wr (w.heap.size + 1) s pos ty hit hp
      have hL2 : acc = L := by rw [← HC.out, sf_end hp]; simp
      obtain ⟨A, c, hv⟩ := own_slice hown
      subst hL2
      subst hv
      clear hit hpos0 HC
      obtain ⟨Wo, rfl⟩ : ∃ Wo : World, Wo = wr := ⟨_, rfl⟩
      go_wp2
      go_loopw [5, 6, 7] (fun v i _ wr => ∃ (k : Nat), wr.ownsRow w.heap.size 3 1 (.slice A acc.length c) acc.length (acc.map fun (n : Nat) => Value.int .i64 (n : Int)) ∧ k ≤ acc.length ∧ wr.ownsRow w.heap.size 9 1 v k ((R.take k).map Value.string) ∧ Below w.heap.size w wr ∧ i = .int .i64 k) (fun _ i _ _ => acc.length - (intOf i).toNat)
      case atStart => 
        refine ⟨0, hown.alloc _, by omega, ?_, hbw.alloc hbw.size _, rfl⟩
        exact World.ownsRow_lit Wo #[] 0 hbw.size (by unfold maxLen; omega) (by simp)
      case round =>
        obtain ⟨k, hst, hk, hout, hb2, rfl⟩ := hrel
        have hRlen : R.length = acc.length := HLR.out.1
        have HRL := Lib.hid hRlen
        clear hRlen
        by_cases hlt : k < acc.length
        · rcases hst.2 with ⟨hv0, hx0⟩ | ⟨g, cap, cur, hv, _⟩
          · omega
          · obtain ⟨rfl, rfl⟩ : A = some ⟨g, 0, none⟩ ∧ c = cap := by injection hv with h1 h2 h3; exact ⟨h1, h3⟩
            clear hv
            obtain ⟨a, ha⟩ : ∃ a, a = acc.getD k 0 := ⟨_, rfl⟩
            obtain ⟨b, hb⟩ : ∃ b, b = nx acc s.size k := ⟨_, rfl⟩
            have hx := HLR.out.2 k hlt
            rw [← ha, ← hb] at hx
            obtain ⟨_, hab, hbs, hRk⟩ := hx
            have c0 : wr.cell? ⟨g, k, none⟩ = some (.int .i64 (a : Int)) := (hst.cellAt k (by omega)).trans (by rw [ha]; simp [List.getD, hlt])
            have hne : Hid ((Value.slice (some ⟨g, 0, none⟩) acc.length c).ownBlock = none ∨ (Value.slice (some ⟨g, 0, none⟩) acc.length c).ownBlock ≠ u5.ownBlock) := own_type_ne hst hout (by decide)
            have hRk2 : R.take (k + 1) = R.take k ++ [s.extract a b] := by rw [List.take_add_one, hRk]; rfl
            have HRk := Lib.hid hRk2
            have HA := Lib.hid ha
            have hBlt : w.heap.size ≤ wr.heap.size := hb2.size
            have hkl : (R.take k).length = k := by rw [List.length_take]; have := HRL.out; omega
            have HKL := Lib.hid hkl
            clear hRk hRk2 ha hkl
            by_cases hk1 : k + 1 < acc.length
            · have hb3 : b = acc.getD (k + 1) 0 := by rw [hb]; unfold nx; rw [if_pos hk1]
              have c1 : wr.cell? ⟨g, k + 1, none⟩ = some (.int .i64 (b : Int)) := (hst.cellAt (k + 1) (by omega)).trans (by rw [hb3]; simp [List.getD, hk1])
              clear hb hb3
              go_wp2_with
                (at_builtin; refine wpList_append_own _ rfl (.tmp 37) (.tmp 45) 31 rfl w.heap.size 9 i9 (.string ⟨#[]⟩) 1 16 Try.underlying31 k1 k2 k3 k4 rfl (by decide) _ _ _ rfl (hout.alloc _) ⟨wr.heap.size, 0, none⟩ 1 1 [.string (s.extract a b)] rfl rfl (cell_one_new _ _ _) (fun x hx => by simp at hx; subst hx; rfl) (by unfold maxLen; omega) (by omega) (by simp; omega) ?_; intro v' w3 hown' hgrow3 hnil3
                 have hst3 := (hst.alloc (.cells #[.string (s.extract a b)] 9)).kept hgrow3 hne.out
                 have hbw3 : Below w.heap.size w w3 := Below.grown (hb2.alloc hBlt _) hgrow3 (by simp; omega) (fun j hj => by have := (hout.lt _ hj).1; omega)
                 have X : Aside (w3.ownsRow w.heap.size 9 1 v' (k + 1) ((R.take (k + 1)).map Value.string) ∧ w3.ownsRow w.heap.size 3 1 (.slice (some ⟨g, 0, none⟩) acc.length c) acc.length (acc.map fun (n : Nat) => Value.int .i64 (n : Int)) ∧ Below w.heap.size w w3) := ⟨by rw [HRk.out, List.map_append]; exact hown', hst3, hbw3⟩
                 clear hown' hgrow3 hnil3 hst3 hbw3)
              go_roundw
              case rel => exact ⟨k + 1, X.out.2.1, by omega, X.out.1, X.out.2.2, by go_num⟩
              case measure => simp [intOf]; omega
            · have hb3 : b = s.size := by rw [hb]; unfold nx; rw [if_neg hk1]
              subst hb3
              clear hb
              go_wp2_with
                (at_builtin; refine wpList_append_own _ rfl (.tmp 37) (.tmp 45) 31 rfl w.heap.size 9 i9 (.string ⟨#[]⟩) 1 16 Try.underlying31 k1 k2 k3 k4 rfl (by decide) _ _ _ rfl (hout.alloc _) ⟨wr.heap.size, 0, none⟩ 1 1 [.string (s.extract a s.size)] rfl rfl (cell_one_new _ _ _) (fun x hx => by simp at hx; subst hx; rfl) (by unfold maxLen; omega) (by omega) (by simp; omega) ?_; intro v' w3 hown' hgrow3 hnil3
                 have hst3 := (hst.alloc (.cells #[.string (s.extract a s.size)] 9)).kept hgrow3 hne.out
                 have hbw3 : Below w.heap.size w w3 := Below.grown (hb2.alloc hBlt _) hgrow3 (by simp; omega) (fun j hj => by have := (hout.lt _ hj).1; omega)
                 have X : Aside (w3.ownsRow w.heap.size 9 1 v' (k + 1) ((R.take (k + 1)).map Value.string) ∧ w3.ownsRow w.heap.size 3 1 (.slice (some ⟨g, 0, none⟩) acc.length c) acc.length (acc.map fun (n : Nat) => Value.int .i64 (n : Int)) ∧ Below w.heap.size w w3) := ⟨by rw [HRk.out, List.map_append]; exact hown', hst3, hbw3⟩
                 clear hown' hgrow3 hnil3 hst3 hbw3)
              go_roundw
              case rel => exact ⟨k + 1, X.out.2.1, by omega, X.out.1, X.out.2.2, by go_num⟩
              case measure => simp [intOf]; omega
        · have hfin : R.take k = R := List.take_of_length_le (by have := HRL.out; omega)
          have hkl : k = R.length := by have := HRL.out; omega
          rw [hfin, hkl] at hout
          have HO := Lib.hid hout
          clear hfin hkl hout
          go_wp2
          go_ret
          exact ⟨_, rfl, HO.out, hb2⟩

/-- The reference's 'Chars' as a whole. -/
def aukletref02_Chars.f (s : ByteArray) : Option (List ByteArray) := if s.size * 16 ≤ 140737488351232 then some (cf s 0) else none

theorem aukletref02_Chars.calls (a0 : ByteArray) (r : List ByteArray) (w : World) (h : aukletref02_Chars.f a0 = some r) :
    Calls Try.prog 22 #[.string a0] w fun e w' => ∃ v0_ : Value, e = .returned v0_ ∧ Kd.R Kd.string 9 w' w.heap.size (fun _ => True) v0_ r ∧ Below w.heap.size w w' := by
  unfold aukletref02_Chars.f at h
  split at h
  · rename_i hs
    obtain rfl := Option.some.inj h
    clear h
    refine (refchars_any a0 w hs).mono fun e w' h => ?_
    obtain ⟨v, he, ho, hb⟩ := h
    exact ⟨v, he, Kd.R_of_own ho (fun _ _ => trivial), hb⟩
  · cases h

end Go.Proofs.Ytpghojihcmdlaaa.Giv
