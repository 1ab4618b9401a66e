/- Reading what came in: a slice of any kind as a row that the walks read (Kd.C), its size, bytes and bools. -/
import Derived.Test.YtmghgghheebnjaaDisR
import Derived.Deep.Strs
import Derived.Lib.SmallJoins
import Derived.SizedLaws
namespace Go.Proofs.Ytmghgghheebnjaa.Dis
open Go.RowKit Go.ChangeShapes Go.WideShapes Go.ChangeAt Go.Deep Go.Joins Go.Proofs.YtmghgghheebnjaaW.PrintWords
set_option linter.unusedVariables false
section
variable {H : Type} {enc : TypeId × Value → H} {P : Program} {w : World} {base : Nat} {spare : Nat → Bool} {held : Bool}
theorem slice_K {α : Type} [Inhabited α] (d : Kd α) {Q : α → DataW H → Prop} {t e : TypeId} {fuel : Nat} {cs : List Value} {x : DataW H × List MemPlace} (ht : P.underlying t = some (.slice e)) (hc : P.cellsOf e = d.sz)
    (hel : ∀ m cs x, DataW.trod enc P w base spare held m e cs = some x → ∃ a, d.K w a cs ∧ Q a x.1)
    (h : DataW.trod enc P w base spare held fuel t cs = some x) :
    ∃ (A : Option Addr) (c : Nat) (l : List α) (el sp : List (DataW H)), cs = [.slice A l.length c] ∧ l.length ≤ c ∧ Kd.C d w A l.length l ∧ el.length = l.length ∧ (∀ a ∈ l, ∃ y ∈ el, Q a y) ∧ (x.1 = .nil ∧ l = [] ∨ x.1 = .slice el sp) := by
  rcases DataW.trod_slice ht h with ⟨rfl, rfl⟩ | ⟨a, len, cap, elems, rest, n, _, rfl, rfl, hb, hl, hm, hlen, hel', _, _⟩
  · exact ⟨none, 0, [], [], [], rfl, Nat.le_refl _, ⟨rfl, by simp, fun h => absurd h (by simp)⟩, rfl, fun a ha => absurd ha (by simp), .inl ⟨rfl, rfl⟩⟩
  · have each : ∀ i, i < len → ∃ p, (∃ cs', w.cells? base (a.add (i * d.sz)) d.sz = some cs' ∧ d.K w p cs') ∧ ∃ y ∈ elems.map (·.1), Q p y := fun i hi => by
      have h1 := hel' i hi
      have hi' : i < elems.length := by omega
      rw [List.getElem?_eq_getElem hi', Option.bind_eq_some_iff, hc] at h1
      obtain ⟨cs', h2, h3⟩ := h1
      obtain ⟨p, hp, hq⟩ := hel _ _ _ h3
      exact ⟨p, ⟨cs', h2, hp⟩, _, List.mem_map.2 ⟨_, List.getElem_mem hi', rfl⟩, hq⟩
    obtain ⟨f, hf⟩ := choose_lt each
    refine ⟨some a, cap, (List.range len).map f, elems.map (·.1), rest.map (·.1), by simp, by simpa using hl, ⟨rfl, by simp only [List.length_map, List.length_range]; simp only [maxLen] at hm; omega, fun _ => ⟨a, rfl, fun j p hj => ?_⟩⟩, by simp [hlen], fun p hp => ?_, .inr rfl⟩
    · obtain ⟨hj1, hj2⟩ := List.getElem?_eq_some_iff.1 hj
      simp only [List.length_map, List.length_range] at hj1
      rw [List.getElem_map, List.getElem_range] at hj2
      subst hj2
      obtain ⟨⟨cs', h2, h3⟩, _⟩ := hf j hj1
      refine ⟨cs', d.K_len h3, h3, fun i u hi => ?_⟩
      obtain ⟨hi1, hi2⟩ := List.getElem?_eq_some_iff.1 hi
      have h4 := (World.cells?_some h2).2.2 i (by rw [← d.K_len h3]; exact hi1)
      rw [Go.Proofs.YtmghgghheebnjaaW.PrintWords.add_add] at h4
      rw [h4, hi]
    · obtain ⟨j, hj, rfl⟩ := List.mem_map.1 hp
      exact (hf j (List.mem_range.1 hj)).2
theorem weights_mem {t : TypeId} : ∀ {el : List (DataW H)} {y : DataW H}, y ∈ el → ∀ n ∈ y.weights P t, n ∈ DataW.weightsAll P t el
  | d :: r, y, hy, n, hn => by
    simp only [DataW.weightsAll, List.mem_append]
    rcases List.mem_cons.1 hy with rfl | hy
    · exact .inl hn
    · exact .inr (weights_mem hy n hn)
theorem slice_sized {R : Nat} {t e : TypeId} {el sp : List (DataW H)} (ht : P.underlying t = some (.slice e)) (h : ((DataW.slice el sp).weights P t).all (· ≤ R) = true) :
    el.length * P.bytesOf e ≤ R ∧ ∀ y ∈ el, (y.weights P e).all (· ≤ R) = true := by
  have h' := List.all_eq_true.1 h
  have e1 : (DataW.slice el sp).weights P t = (el.length + sp.length) * P.bytesOf e :: (DataW.weightsAll P e el ++ DataW.weightsAll P e sp) := by simp [DataW.weights, ht]
  rw [e1] at h'
  refine ⟨?_, fun y hy => List.all_eq_true.2 fun n hn => h' n (List.mem_cons_of_mem _ (List.mem_append.2 (.inl (weights_mem hy n hn))))⟩
  have := h' _ List.mem_cons_self
  exact Nat.le_trans (Nat.mul_le_mul_right _ (Nat.le_add_right _ _)) (by simpa using this)
end
section
variable {H : Type} {enc : TypeId × Value → H} {w : World} {base : Nat} {spare : Nat → Bool} {held : Bool}
theorem bytes_K {fuel : Nat} {cs : List Value} {x : DataW H × List MemPlace} (h : DataW.trod enc Try.prog w base spare held fuel 56 cs = some x) :
    ∃ (A : Option Addr) (c : Nat) (l : List Int), cs = [.slice A l.length c] ∧ l.length ≤ c ∧ Kd.C (Kd.int .u8) w A l.length l ∧ OkB l ∧ ∀ R, (x.1.weights Try.prog 56).all (· ≤ R) = true → l.length ≤ R := by
  obtain ⟨A, c, l, el, sp, h1, h2, h3, h4, h5, h6⟩ := slice_K (P := Try.prog) (Kd.int .u8) (Q := fun n _ => 0 ≤ n ∧ n < 256) Try.underlying56 (by kernel_rfl) (fun m cs x hx => by
    obtain ⟨n, rfl, _, hw⟩ := DataW.trod_int Try.underlying5 hx
    have := bounds_u8 hw
    exact ⟨n, rfl, by omega⟩) h
  refine ⟨A, c, l, h1, h2, h3, fun n hn => (h5 n hn).elim fun _ hq => hq.2, fun R hR => ?_⟩
  rcases h6 with ⟨_, rfl⟩ | h6
  · exact Nat.zero_le _
  · rw [h6] at hR
    have := (slice_sized Try.underlying56 hR).1
    rw [show Try.prog.bytesOf 5 = 1 by kernel_rfl, h4] at this
    omega
theorem bools_K {fuel : Nat} {cs : List Value} {x : DataW H × List MemPlace} (h : DataW.trod enc Try.prog w base spare held fuel 44 cs = some x) :
    ∃ (A : Option Addr) (c : Nat) (l : List Bool), cs = [.slice A l.length c] ∧ l.length ≤ c ∧ Kd.C Kd.bool w A l.length l ∧ ∀ R, (x.1.weights Try.prog 44).all (· ≤ R) = true → l.length ≤ R := by
  obtain ⟨A, c, l, el, sp, h1, h2, h3, h4, h5, h6⟩ := slice_K (P := Try.prog) Kd.bool (Q := fun _ _ => True) Try.underlying44 (by kernel_rfl) (fun m cs x hx => by
    obtain ⟨n, rfl, _⟩ := DataW.trod_bool Try.underlying4 hx
    exact ⟨n, rfl, trivial⟩) h
  refine ⟨A, c, l, h1, h2, h3, fun R hR => ?_⟩
  rcases h6 with ⟨_, rfl⟩ | h6
  · exact Nat.zero_le _
  · rw [h6] at hR
    have := (slice_sized Try.underlying44 hR).1
    rw [show Try.prog.bytesOf 4 = 1 by kernel_rfl, h4] at this
    omega
end
end Go.Proofs.Ytmghgghheebnjaa.Dis
