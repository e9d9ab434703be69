/- DERIVED. Numbers and their bytes, told in plain words. -/
import Derived.Laws.BitsAllLaws
import Derived.Laws.Bits64
namespace Go.Proofs.Ytglmmljmieodaaa.Nm
open Go

/-- A number's bytes. -/
def numL (x : Nat) : List Int := if h : 127 < x then ((x % 128 + 128 : Nat) : Int) :: numL (x / 128) else [(x : Int)]
termination_by x
decreasing_by omega
theorem numL_big {x : Nat} (h : 127 < x) : numL x = ((x % 128 + 128 : Nat) : Int) :: numL (x / 128) := by rw [numL, dif_pos h]
theorem numL_low {x : Nat} (h : ¬ 127 < x) : numL x = [(x : Int)] := by rw [numL, dif_neg h]
theorem numL_len : ∀ k x, x < 128 ^ (k + 1) → (numL x).length ≤ k + 1 := by
  intro k
  induction k with
  | zero => intro x h; rw [numL_low (by omega)]; simp
  | succ k ih =>
    intro x h
    by_cases hb : 127 < x
    · rw [numL_big hb]
      have : x / 128 < 128 ^ (k + 1) := by rw [Nat.div_lt_iff_lt_mul (by omega)]; rwa [Nat.pow_succ] at h
      have := ih _ this
      simp; omega
    · rw [numL_low hb]; simp

/-- The number at a place: i bytes are taken, that come to x. -/
def tk (s : ByteArray) (a : Nat) : Nat → Nat → Nat → Int × Int × Bool
  | 0, _, _ => (0, 0, false)
  | n + 1, i, x => match s[a + i]? with
    | none => (0, 0, false)
    | some c => if (0 < i ∧ c.toNat = 0) ∨ (i = 9 ∧ 1 < c.toNat % 128) then (0, 0, false)
      else if c.toNat < 128 then (((x + c.toNat % 128 * 128 ^ i : Nat) : Int), (a + i + 1 : Nat), true)
      else tk s a n (i + 1) (x + c.toNat % 128 * 128 ^ i)
def take (s : ByteArray) (a : Int) : Int × Int × Bool := if a < 0 then (0, 0, false) else tk s a.toNat 10 0 0

def sign (n : Int) : Int := if n < 0 then 2 * (-(n + 1)) + 1 else 2 * n
def unsign (x : Int) : Int := if x % 2 = 1 then -(x / 2) - 1 else x / 2

theorem wu (n : Int) : IntKind.u64.wrap n = n % 18446744073709551616 := by simp [IntKind.wrap, IntKind.bits, IntKind.signed]
theorem wb (n : Int) : IntKind.u8.wrap n = n % 256 := by simp [IntKind.wrap, IntKind.bits, IntKind.signed]
theorem wi (n : Int) : IntKind.i64.wrap n = if n % 18446744073709551616 < 9223372036854775808 then n % 18446744073709551616 else n % 18446744073709551616 - 18446744073709551616 := by
  simp only [IntKind.wrap, IntKind.bits, IntKind.signed]
  simp only [Bool.true_and, ge_iff_le, decide_eq_true_eq]
  split <;> split <;> omega

theorem and127u (n : Nat) (h : n < 18446744073709551616) : Go.bits .and .u64 (n : Int) 127 = ((n % 128 : Nat) : Int) := by
  have h := Go.u64_and_nat n 127 (by omega) (by omega)
  rw [nat_mask7] at h; exact h
theorem and127b (n : Nat) (h : n < 256) : Go.bits .and .u8 (n : Int) 127 = ((n % 128 : Nat) : Int) := by
  have h := Go.u8_and_nat n 127 (by omega) (by omega)
  rw [nat_mask7] at h; exact h
theorem or128 (n : Nat) (h : n < 128) : Go.bits .or .u8 (n : Int) 128 = ((n + 128 : Nat) : Int) := by
  have e := Go.u8_or_nat n 128 (by omega) (by omega)
  rw [show n ||| 128 = n + 128 by rw [Nat.or_comm, Go.nat_join 7 128 n (by omega) (by omega)]; omega] at e; exact e
theorem or_up (i x d : Nat) (hx : x < 128 ^ i) (hd : x + d * 128 ^ i < 18446744073709551616) : Go.bits .or .u64 (x : Int) ((d * 128 ^ i : Nat) : Int) = ((x + d * 128 ^ i : Nat) : Int) := by
  rw [Go.u64_or_nat x (d * 128 ^ i) (by omega) (by omega), Nat.or_comm, Go.nat_join (7 * i) (d * 128 ^ i) x]
  · congr 1; omega
  · rw [show (128 : Nat) = 2 ^ 7 from rfl, ← Nat.pow_mul]; exact Nat.mul_mod_left _ _
  · rw [Nat.pow_mul]; exact hx

theorem xor_ones (x : Int) : Go.bits .xor .u64 x 18446744073709551615 = (18446744073709551615 - x) % 18446744073709551616 := by
  show IntKind.u64.wrap ((BitVec.ofInt 64 x ^^^ BitVec.ofInt 64 18446744073709551615).toNat : Nat) = _
  have : BitVec.ofInt 64 18446744073709551615 = BitVec.allOnes 64 := by decide
  rw [this, BitVec.xor_allOnes, BitVec.toNat_not, BitVec.toNat_ofInt]
  rw [wu]; omega
theorem xor_zero (x : Int) : Go.bits .xor .u64 x 0 = x % 18446744073709551616 := by
  show IntKind.u64.wrap ((BitVec.ofInt 64 x ^^^ BitVec.ofInt 64 0).toNat : Nat) = _
  have : BitVec.ofInt 64 0 = 0#64 := by decide
  rw [this, BitVec.xor_zero, BitVec.toNat_ofInt]
  rw [wu]; omega
theorem xor_ones_i (x : Int) : Go.bits .xor .i64 x (-1) = IntKind.i64.wrap (18446744073709551615 - x) := by
  show IntKind.i64.wrap ((BitVec.ofInt 64 x ^^^ BitVec.ofInt 64 (-1)).toNat : Nat) = _
  have : BitVec.ofInt 64 (-1) = BitVec.allOnes 64 := by decide
  rw [this, BitVec.xor_allOnes, BitVec.toNat_not, BitVec.toNat_ofInt]
  rw [wi, wi]; omega
theorem xor_zero_i (x : Int) : Go.bits .xor .i64 x 0 = IntKind.i64.wrap x := by
  show IntKind.i64.wrap ((BitVec.ofInt 64 x ^^^ BitVec.ofInt 64 0).toNat : Nat) = _
  have : BitVec.ofInt 64 0 = 0#64 := by decide
  rw [this, BitVec.xor_zero, BitVec.toNat_ofInt]
  rw [wi, wi]; omega

theorem sign_code (n : Int) (h0 : -9223372036854775808 ≤ n) (h1 : n ≤ 9223372036854775807) : Go.bits .xor .u64 (IntKind.u64.wrap (IntKind.u64.wrap n * 2)) (IntKind.u64.wrap (n / 9223372036854775808)) = sign n := by
  unfold sign
  simp only [wu]
  by_cases h : n < 0
  · rw [show n / 9223372036854775808 % 18446744073709551616 = 18446744073709551615 by omega, xor_ones, if_pos h]; omega
  · rw [show n / 9223372036854775808 % 18446744073709551616 = 0 by omega, xor_zero, if_neg h]; omega
theorem unsign_code (n : Nat) (h1 : n < 18446744073709551616) : Go.bits .xor .i64 (IntKind.i64.wrap ((n : Int) / 2)) (IntKind.i64.wrap (0 - IntKind.i64.wrap (Go.bits .and .u64 (n : Int) 1))) = unsign n := by
  have h := Go.u64_and_nat n 1 (by omega) (by omega)
  rw [nat_mask1] at h
  have h' : Go.bits .and .u64 (n : Int) 1 = ((n % 2 : Nat) : Int) := h
  rw [h', show IntKind.i64.wrap ((n % 2 : Nat) : Int) = (n % 2 : Nat) by rw [wi]; omega]
  unfold unsign
  by_cases e : n % 2 = 1
  · rw [if_pos (by omega), e, show IntKind.i64.wrap (0 - ((1 : Nat) : Int)) = -1 by rw [wi]; omega, xor_ones_i]
    rw [wi, wi]; omega
  · rw [if_neg (by omega), show n % 2 = 0 by omega, show IntKind.i64.wrap (0 - ((0 : Nat) : Int)) = 0 by rw [wi]; omega, xor_zero_i]
    rw [wi, wi]; omega
theorem tk_none {s : ByteArray} {a n i x : Nat} (h : s[a + i]? = none) : tk s a n i x = (0, 0, false) := by
  cases n with
  | zero => rfl
  | succ n => simp only [tk, h]
theorem tk_bad {s : ByteArray} {a n i x : Nat} {c : UInt8} (h : s[a + i]? = some c) (hb : (0 < i ∧ c.toNat = 0) ∨ (i = 9 ∧ 1 < c.toNat % 128)) : tk s a n i x = (0, 0, false) := by
  cases n with
  | zero => rfl
  | succ n => simp only [tk, h]; rw [if_pos hb]
theorem tk_end {s : ByteArray} {a n i x : Nat} {c : UInt8} (h : s[a + i]? = some c) (hb : ¬ ((0 < i ∧ c.toNat = 0) ∨ (i = 9 ∧ 1 < c.toNat % 128))) (hl : c.toNat < 128) (hn : 0 < n) : tk s a n i x = (((x + c.toNat % 128 * 128 ^ i : Nat) : Int), ((a + i + 1 : Nat) : Int), true) := by
  cases n with
  | zero => omega
  | succ n => simp only [tk, h]; rw [if_neg hb, if_pos hl]
theorem tk_more {s : ByteArray} {a n i x : Nat} {c : UInt8} (h : s[a + i]? = some c) (hb : ¬ ((0 < i ∧ c.toNat = 0) ∨ (i = 9 ∧ 1 < c.toNat % 128))) (hl : ¬ c.toNat < 128) (hn : 0 < n) : tk s a n i x = tk s a (n - 1) (i + 1) (x + c.toNat % 128 * 128 ^ i) := by
  cases n with
  | zero => omega
  | succ n => simp only [tk, h]; rw [if_neg hb, if_neg hl]; rfl

theorem part_eq (c : UInt8) : IntKind.u64.wrap (Go.bits .and .u8 (c.toNat : Int) 127) = ((c.toNat % 128 : Nat) : Int) := by
  rw [and127b _ c.toNat_lt, wu]; omega
theorem fits (i d : Nat) (hi : i < 10) (hd : d < 128) : (IntKind.u64.wrap ((d : Int) * 2 ^ (7 * (i : Int)).toNat) / 2 ^ (7 * (i : Int)).toNat = (d : Int)) ↔ ¬ (i = 9 ∧ 1 < d) := by
  have e : (7 * (i : Int)).toNat = 7 * i := by omega
  rw [e]
  rcases (by omega : i = 0 ∨ i = 1 ∨ i = 2 ∨ i = 3 ∨ i = 4 ∨ i = 5 ∨ i = 6 ∨ i = 7 ∨ i = 8 ∨ i = 9) with rfl | rfl | rfl | rfl | rfl | rfl | rfl | rfl | rfl | rfl <;> simp only [wu, Nat.reduceMul, Int.reducePow] <;> constructor <;> intro h <;> (first | omega | (simp only [true_and] at h; omega))
theorem sums (i x d : Nat) (hi : i < 10) (hd : d < 128) (hx : x < 128 ^ i) (h : ¬ (i = 9 ∧ 1 < d)) : x + d * 128 ^ i < 18446744073709551616 := by
  rcases (by omega : i = 0 ∨ i = 1 ∨ i = 2 ∨ i = 3 ∨ i = 4 ∨ i = 5 ∨ i = 6 ∨ i = 7 ∨ i = 8 ∨ i = 9) with rfl | rfl | rfl | rfl | rfl | rfl | rfl | rfl | rfl | rfl <;> simp only [Nat.reducePow] at hx ⊢ <;> omega
theorem ors (i x d : Nat) (hi : i < 10) (hd : d < 128) (hx : x < 128 ^ i) (h : ¬ (i = 9 ∧ 1 < d)) : Go.bits .or .u64 (x : Int) (IntKind.u64.wrap ((d : Int) * 2 ^ (7 * (i : Int)).toNat)) = ((x + d * 128 ^ i : Nat) : Int) := by
  have hs := sums i x d hi hd hx h
  have e : (d : Int) * 2 ^ (7 * (i : Int)).toNat = ((d * 128 ^ i : Nat) : Int) := by
    have e : (7 * (i : Int)).toNat = 7 * i := by omega
    rw [e, Int.natCast_mul, Int.natCast_pow, Int.pow_mul]; rfl
  rw [e, wu, show ((d * 128 ^ i : Nat) : Int) % 18446744073709551616 = ((d * 128 ^ i : Nat) : Int) by omega]
  exact or_up i x d hx hs
theorem radds (i x d : Nat) (hi : i < 10) (hd : d < 128) (hx : x < 128 ^ i) (h : ¬ (i = 9 ∧ 1 < d)) : IntKind.u64.wrap ((x : Int) + IntKind.u64.wrap ((d : Int) * IntKind.u64.wrap ((128 ^ i : Nat) : Int))) = ((x + d * 128 ^ i : Nat) : Int) := by
  have hs := sums i x d hi hd hx h
  have hp : 128 ^ i ≤ 128 ^ 9 := Nat.pow_le_pow_right (by decide) (by omega)
  rw [show IntKind.u64.wrap ((128 ^ i : Nat) : Int) = ((128 ^ i : Nat) : Int) by rw [wu]; omega, ← Int.natCast_mul, wu, wu]
  omega
theorem pow_next (i : Nat) : IntKind.u64.wrap (IntKind.u64.wrap ((128 ^ i : Nat) : Int) * 128) = IntKind.u64.wrap ((128 ^ (i + 1) : Nat) : Int) := by
  rw [Nat.pow_succ, wu, wu, wu]; omega
theorem next_lt (i x d : Nat) (hd : d < 128) (hx : x < 128 ^ i) : x + d * 128 ^ i < 128 ^ (i + 1) := by
  rw [Nat.pow_succ]
  have := Nat.mul_le_mul_right (128 ^ i) (show d ≤ 127 by omega)
  omega
end Go.Proofs.Ytglmmljmieodaaa.Nm
