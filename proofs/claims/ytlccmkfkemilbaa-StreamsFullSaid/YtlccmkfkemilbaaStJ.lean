/- Streams: Write at any file; the law's lives, walked by hand. -/
import Derived.Test.YtlccmkfkemilbaaStI
namespace Go.Proofs.Ytlccmkfkemilbaa.Bld
open Go.RowKit Go.Lib Go.Proofs.YtlccmkfkemilbaaW.PrintWords Go.Proofs.YtlccmkfkemilbaaW.PrintLast Go.Proofs.YtlccmkfkemilbaaW.PrintMore
set_option linter.unusedVariables false
set_option linter.unusedSimpArgs false
theorem write_calls (base g : Nat) (s : Str) (name t : ByteArray) (more : Bool) (w W : World) (h : IsSt base W g s) (hB : Below base w W) (hs : 0 ≤ s.size ∧ s.size ≤ 65536) (hlen : ∀ u ∈ s.sk, u.2.length ≤ 65536) (h8 : s.sk.length ≤ 8) (ht : t.size ≤ 9223372036854775807) (hname : (name.toList == []) = false) :
    Calls Try.prog 10 #[.pointer (some ⟨g, 0, none⟩), .string name, .string t, .bool more] W fun e w' => e = .returned (.int .i64 (writeS s name t).2) ∧ IsSt base w' g (writeS s name t).1 ∧ Below base w w' ∧ KeepT W w' := by
  cases hi : s.sk.findIdx? (fun x => x.1.toList == name.toList) with
  | some i => exact write_at base g i s name t more w W h hB hs hlen h8 ht hname hi
  | none => exact write_new base g s name t more w W h hB hs h8 ht hname hi
def fF : ByteArray := ⟨#[102]⟩
def fA : ByteArray := ⟨#[97]⟩
def fB : ByteArray := ⟨#[98]⟩
def fAB : ByteArray := ⟨#[97, 98]⟩
def l1 : Str := ⟨[], [(fF, [97])], 1⟩
def l2 : Str := ⟨[], [(fF, [97, 98])], 2⟩
theorem l1_eq : writeS str0 fF fA = (l1, 0) := by kernel_rfl
theorem l2_eq : writeS l1 fF fB = (l2, 0) := by kernel_rfl
theorem l2_files : filesS l2 = [(fF, fAB)] := rfl
theorem name_f : (fF.toList == []) = false := by kernel_rfl
theorem reps_file2 (w : World) (base : Nat) (ok : Nat → Prop) (a b : ByteArray) : Reps (fileK.M w base ok) fileK.sz [(a, b)] [Value.string a, Value.string b] := ⟨rfl, fun j p hj => by
  have hj0 : j = 0 := by
    have := (List.getElem?_eq_some_iff.1 hj).1
    simp at this; exact this
  subst hj0
  have : p = (a, b) := by simpa using hj.symm
  subst this
  exact ⟨[Value.string a], [Value.string b], rfl, rfl, rfl⟩⟩
theorem lit_file (w : World) : fileK.C (w.alloc (.cells #[.string fF, .string fAB] 38)) (some ⟨w.heap.size, 0, none⟩) 1 [(fF, fAB)] := by
  have h : fileK.R 38 (w.alloc (.cells #[.string fF, .string fAB] 38)) w.heap.size tt (.slice (some ⟨w.heap.size, 0, none⟩) 1 1) [(fF, fAB)] := ⟨fun _ _ => trivial, [Value.string fF, Value.string fAB], World.ownsRow_lit (base := w.heap.size) (e := 38) (size := 2) w #[Value.string fF, Value.string fAB] 1 (Nat.le_refl _) (by decide) rfl, reps_file2 _ _ _ _ _⟩
  exact C_ofR h
set_option maxHeartbeats 4000000 in
set_option maxRecDepth 100000 in
theorem lives_calls (W : World) : Calls Try.prog 12 #[] W fun e w' => e = .returned (.bool true) ∧ Below W.heap.size W w' := by
  have W1 := Aside0.mk (fun (g : Nat) (w' : World) (h : IsSt W.heap.size w' g str0) (hB : Below W.heap.size W w') => write_calls W.heap.size g str0 fF fA false W w' h hB ⟨by decide, by decide⟩ (fun u hu => by cases hu) (by decide) (by decide) name_f)
  have W2 := Aside0.mk (fun (g : Nat) (w' : World) (h : IsSt W.heap.size w' g l1) (hB : Below W.heap.size W w') => write_calls W.heap.size g l1 fF fB false W w' h hB ⟨by decide, by decide⟩ (fun u hu => by simp [l1] at hu; subst hu; decide) (by decide) (by decide) name_f)
  have W3 := Aside0.mk (fun (g : Nat) (w' : World) (h : IsSt W.heap.size w' g l2) (hB : Below W.heap.size W w') => files_calls W.heap.size g l2 W w' h hB (by decide) (fun u hu => by simp [l2] at hu; subst hu; decide))
  go_enter Try.func12, Try.ntmps12
  go_wp2_with (first
    | (go_at_call 5; refine (new_calls W).mono ?_; rintro e w1 ⟨g, rfl, h1, h2⟩; have H1 := Aside0.mk h1; have HB1 := Aside0.mk h2; clear h1 h2)
    | (go_at_call 10; first
        | (refine (W2.out g w2 H2.out HB2.out).mono ?_; rw [l2_eq]; rintro e w3 ⟨rfl, h1, h2, h3⟩; have H3 := Aside0.mk h1; have HB3 := Aside0.mk h2; clear h1 h2 h3)
        | (refine (W1.out g w1 H1.out HB1.out).mono ?_; rw [l1_eq]; rintro e w2 ⟨rfl, h1, h2, h3⟩; have H2 := Aside0.mk h1; have HB2 := Aside0.mk h2; clear h1 h2 h3))
    | (go_at_call 7; refine (W3.out g w3 H3.out HB3.out).mono ?_; rw [l2_files]; rintro e w4 ⟨v4, rfl, h1, h2, h3, h4⟩; obtain ⟨A4, c4, rfl⟩ := Kd.R_slice h1; have HR4 := Aside0.mk h1; have HB4 := Aside0.mk h3; clear h1 h2 h3 h4)
    | (go_at_call 11; refine (same_calls A4 (some ⟨w4.heap.size, 0, none⟩) 1 c4 1 [(fF, fAB)] _ (Kd.C_below (C_ofR HR4.out) (below_alloc (Below.refl _ _) _)) (lit_file w4) (by decide)).mono ?_; rintro e w6 ⟨rfl, h1⟩; have hb5 := below_alloc (Below.refl w4.heap.size w4) (Obj.cells #[Value.string fF, Value.string fAB] 38); have HB6 := Aside0.mk (HB4.out.trans ((hb5.trans (h1.mono hb5.size)).mono HB4.out.size)); clear h1 hb5))
  go_ret
  exact ⟨rfl, HB6.out⟩
end Go.Proofs.Ytlccmkfkemilbaa.Bld
