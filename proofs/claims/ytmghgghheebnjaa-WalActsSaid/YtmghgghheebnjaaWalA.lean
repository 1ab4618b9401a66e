/- Wal: numbers as bytes; number, big, sectors, part. -/
import Derived.Test.YtmghgghheebnjaaDisR
import Derived.Test.YtmghgghheebnjaaDisF
import Derived.Test.YtmghgghheebnjaaPWalRecordsx1
import Derived.Test.YtmghgghheebnjaaWalN
namespace Go.Proofs.Ytmghgghheebnjaa.Dis
open Go.RowKit Go.Proofs.YtmghgghheebnjaaW.PrintWords Go.Proofs.YtmghgghheebnjaaW.PrintLast Go.Proofs.YtmghgghheebnjaaW.PrintMore Go.Maps Go.Proofs.Ytmghgghheebnjaa.PWalRecords
set_option linter.unusedVariables false
set_option linter.unusedSimpArgs false
def BytesOk (b : List Int) : Prop := ∀ x ∈ b, 0 ≤ x ∧ x < 256
theorem BytesOk.take {b : List Int} (h : BytesOk b) (n : Nat) : BytesOk (b.take n) := fun x hx => h x (List.mem_of_mem_take hx)
theorem BytesOk.drop {b : List Int} (h : BytesOk b) (n : Nat) : BytesOk (b.drop n) := fun x hx => h x (List.mem_of_mem_drop hx)
theorem BytesOk.append {a b : List Int} (h : BytesOk a) (h' : BytesOk b) : BytesOk (a ++ b) := fun x hx => (List.mem_append.1 hx).elim (h x) (h' x)
/-- Bytes as a number, the highest first. -/
def numB (b : List Int) : Int := b.foldl (fun n c => n * 256 + c) 0
theorem foldB (b : List Int) (n : Int) : b.foldl (fun n c => n * 256 + c) n = n * 256 ^ b.length + numB b := by
  induction b generalizing n with
  | nil => simp [numB]
  | cons c b ih =>
    unfold numB at ih ⊢
    simp only [List.foldl_cons, List.length_cons]
    rw [ih, ih (0 * 256 + c), Int.pow_succ]
    simp only [Int.zero_mul, Int.zero_add, Int.add_mul, Int.mul_assoc, Int.mul_comm 256 _]
    omega
theorem numB_cons (c : Int) (b : List Int) : numB (c :: b) = c * 256 ^ b.length + numB b := by
  have := foldB b (0 * 256 + c)
  unfold numB at this ⊢
  simp only [List.foldl_cons]
  rw [this]
  simp
theorem numB_bound {b : List Int} (h : BytesOk b) : 0 ≤ numB b ∧ numB b < 256 ^ b.length := by
  induction b with
  | nil => simp [numB]
  | cons c b ih =>
    have h1 := ih (fun x hx => h x (List.mem_cons_of_mem _ hx))
    have h2 := h c List.mem_cons_self
    rw [numB_cons, List.length_cons, Int.pow_succ]
    obtain ⟨p, hp⟩ : ∃ p : Int, p = 256 ^ b.length := ⟨_, rfl⟩
    rw [← hp] at h1 ⊢
    have h3 : 0 ≤ c * p := Int.mul_nonneg h2.1 (by omega)
    have h4 : c * p ≤ 255 * p := Int.mul_le_mul_of_nonneg_right (by omega) (by omega)
    omega
/-- A number's last bytes, the highest first. -/
def bigB (n : Int) : Nat → List Int
  | 0 => []
  | k + 1 => (n / 256 ^ k) % 256 :: bigB n k
theorem bigB_len (n : Int) (k : Nat) : (bigB n k).length = k := by induction k with | zero => rfl | succ k ih => simp [bigB, ih]
theorem bigB_ok (n : Int) (k : Nat) : BytesOk (bigB n k) := by
  induction k with
  | zero => intro x hx; cases hx
  | succ k ih =>
    intro x hx
    rcases List.mem_cons.1 hx with rfl | h
    · omega
    · exact ih x h
theorem numB_bigB (n : Int) (k : Nat) (hn : 0 ≤ n) : numB (bigB n k) = n % 256 ^ k := by
  induction k with
  | zero => simp [bigB, numB]
  | succ k ih =>
    unfold bigB
    rw [numB_cons, ih, bigB_len]
    obtain ⟨p, hp⟩ : ∃ p : Int, p = 256 ^ k := ⟨_, rfl⟩
    have hp0 : 0 < p := by rw [hp]; exact Int.pow_pos (by decide)
    rw [Int.pow_succ, ← hp]
    have h1 := Int.emod_add_mul_ediv n p
    have h2 := Int.emod_add_mul_ediv (n / p) 256
    have h3 : n / p / 256 = n / (p * 256) := Int.ediv_ediv_of_nonneg (by omega)
    have h4 := Int.emod_add_mul_ediv n (p * 256)
    rw [h3] at h2
    rw [Int.mul_assoc] at h4
    generalize n / (p * 256) = q at h2 h4
    generalize n % (p * 256) = r at h4 ⊢
    rw [← h2] at h1
    rw [Int.mul_add] at h1
    rw [Int.mul_comm ((n / p) % 256) p]
    omega
theorem numB_big (n : Int) (k : Nat) (hn : 0 ≤ n) (h : n < 256 ^ k) : numB (bigB n k) = n := by rw [numB_bigB n k hn, Int.emod_eq_of_lt hn h]
theorem w64_in (n : Int) (h : -9223372036854775808 ≤ n ∧ n ≤ 9223372036854775807) : wrap64 n = n := by unfold wrap64; omega
theorem u64_in {n : Int} (h0 : 0 ≤ n) (h1 : n < 18446744073709551616) : IntKind.u64.wrap n = n := by simp [IntKind.wrap, IntKind.bits, IntKind.signed]; omega
theorem or_byte {n c : Int} (h0 : 0 ≤ n) (h1 : n < 72057594037927936) (c0 : 0 ≤ c) (c1 : c < 256) : Go.bits .or .u64 (IntKind.u64.wrap (n * 256)) (IntKind.u64.wrap c) = n * 256 + c := by
  rw [u64_in (by omega) (by omega), u64_in c0 (by omega)]
  exact bits_join .u64 64 (by decide) (fun m a b => u64_in a (by omega)) 8 _ _ (by omega) (by omega) (by omega) c0 (by omega) (by omega)
theorem numB_snoc (b : List Int) (c : Int) : numB (b ++ [c]) = numB b * 256 + c := by simp [numB]
theorem number_l0 (l : List Int) (h8 : l.length ≤ 8) (hb : BytesOk l) : ∀ (m i : Nat), i + m = l.length → wal_number.l0 (m + 1) (numB (l.take i)) l (l.length : Int) (i : Int) = some (numB l) := by
  intro m
  induction m with
  | zero =>
    intro i hi
    unfold wal_number.l0
    rw [if_neg (by omega), List.take_of_length_le (by omega)]
  | succ m ih =>
    intro i hi
    unfold wal_number.l0
    rw [if_pos (by omega), if_pos (by omega), if_pos (by omega)]
    have hg : i < l.length := by omega
    have e1 : rd l (i : Int) = l[i] := by
      show l.getD ((i : Int)).toNat 0 = _
      rw [Int.toNat_natCast, List.getD_eq_getElem?_getD, List.getElem?_eq_getElem hg]
      rfl
    have e2 : l.take (i + 1) = l.take i ++ [l[i]] := (List.take_append_getElem hg).symm
    have b1 := numB_bound (hb.take i)
    have b2 := hb _ (List.getElem_mem hg)
    have b3 : (256 : Int) ^ (l.take i).length ≤ 256 ^ 7 := by
      have h : (l.take i).length ≤ 7 := by rw [List.length_take]; omega
      generalize (l.take i).length = m at h
      rcases (by omega : m = 0 ∨ m = 1 ∨ m = 2 ∨ m = 3 ∨ m = 4 ∨ m = 5 ∨ m = 6 ∨ m = 7) with rfl | rfl | rfl | rfl | rfl | rfl | rfl | rfl <;> decide
    have e3 : (256 : Int) ^ 7 = 72057594037927936 := by decide
    rw [e1, or_byte b1.1 (by omega) b2.1 b2.2, ← numB_snoc, ← e2, show wrap64 ((i : Int) + 1) = ((i + 1 : Nat) : Int) from (w64_in _ (by omega)).trans (by omega)]
    exact ih (i + 1) (by omega)
/-- number, big, sectors. -/
theorem number_c {w : World} {A : Option Addr} {n c : Nat} {l : List Int} (hn : n = l.length) (h8 : l.length ≤ 8) (hb : BytesOk l) (h : Kd.C (Kd.int .u8) w A n l) (hc : n ≤ c) :
    Calls Try.prog 45 #[.slice A n c] w fun e w' => e = .returned (.int .u64 (numB l)) ∧ Below w.heap.size w w' := by
  subst hn
  refine (wal_number.calls _ A c l _ w h hc (number_l0 l h8 hb l.length 0 (by omega))).mono ?_
  rintro e w' ⟨h1, h2⟩
  exact ⟨h1, h2.below⟩
theorem big_l0 (n : Int) (h0 : 0 ≤ n) : ∀ (k : Nat) (b : List Int), k ≤ 8 → b.length + k ≤ 1000000 → wal_big.l0 (k + 1) b n ((k : Int) - 1) = some (b ++ bigB n k) := by
  intro k
  induction k with
  | zero =>
    intro b _ _
    unfold wal_big.l0
    rw [if_neg (by omega)]
    simp [bigB]
  | succ k ih =>
    intro b hk hb
    unfold wal_big.l0
    have e0 : ((k + 1 : Nat) : Int) - 1 = (k : Int) := by omega
    have e1 : wrap64 (8 * (k : Int)) = 8 * (k : Int) := w64_in _ (by omega)
    have e2 : wrap64 ((k : Int) - 1) = (k : Int) - 1 := w64_in _ (by omega)
    rw [e0, e1, e2, if_pos (by omega), if_pos (by omega), if_pos (by omega)]
    have e3 : shr .u64 n (8 * (k : Int)) = n / 256 ^ k := by
      unfold shr
      have h1 : min (8 * (k : Int)).toNat IntKind.u64.bits = 8 * k := by
        have : IntKind.u64.bits = 64 := rfl
        omega
      rw [h1, Int.pow_mul]
      rfl
    rw [e3, ih _ (by omega) (by simp only [List.length_append, List.length_singleton]; omega)]
    simp [bigB]
theorem big_c {w0 w : World} {v : Value} {b : List Int} {n : Int} {k : Nat} {P : Nat → Prop} (h0 : 0 ≤ n) (hk : k ≤ 8) (hb : b.length ≤ 100000) (hB : Below w0.heap.size w0 w) (h : Kd.R (Kd.int .u8) 5 w w0.heap.size P v b) :
    Calls Try.prog 65 #[v, .int .u64 n, .int .i64 (k : Int)] w fun e w' => ∃ v', e = .returned v' ∧ Kd.R (Kd.int .u8) 5 w' w0.heap.size (fun j => P j ∨ w.heap.size ≤ j) v' (b ++ bigB n k) ∧ Below w0.heap.size w0 w' ∧ Kept w w' P := by
  have hf : wal_big.f (k + 1) b n (k : Int) = some (b ++ bigB n k) := by
    unfold wal_big.f
    rw [show wrap64 ((k : Int) - 1) = (k : Int) - 1 from w64_in _ (by omega)]
    exact big_l0 n h0 k b hk (by omega)
  exact wal_big.calls (k + 1) P v b n (k : Int) _ w0 w hB h hf
def secsN (n : Nat) : Nat := (4 + 516 * n + 499) / 500
theorem sectors_c {w : World} (n : Nat) (h : n ≤ 1000000) : Calls Try.prog 64 #[.int .i64 (n : Int)] w fun e w' => e = .returned (.int .i64 (secsN n : Nat)) ∧ Below w.heap.size w w' := by
  have hf : wal_sectors.f (n : Int) = some (secsN n : Int) := by
    unfold wal_sectors.f secsN
    rw [w64_in (516 * (n : Int)) (by omega), w64_in (4 + 516 * (n : Int)) (by omega), w64_in (4 + 516 * (n : Int) + 500) (by omega), w64_in (4 + 516 * (n : Int) + 500 - 1) (by omega), Int.tdiv_eq_ediv_of_nonneg (by omega), w64_in ((4 + 516 * (n : Int) + 500 - 1) / 500) (by omega)]
    have e : (4 + 516 * (n : Int) + 500 - 1) / 500 = (((4 + 516 * n + 499) / 500 : Nat) : Int) := by omega
    rw [e]
  refine (wal_sectors.calls (n : Int) _ w hf).mono ?_
  rintro e w' ⟨h1, h2⟩
  exact ⟨h1, h2.below⟩
end Go.Proofs.Ytmghgghheebnjaa.Dis
