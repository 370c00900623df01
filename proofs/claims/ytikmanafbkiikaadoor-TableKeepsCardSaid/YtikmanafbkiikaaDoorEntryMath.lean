/- Entries as numbers: plain facts on whole numbers, no program in sight. -/
import Derived.Test.YtikmanafbkiikaaDoorIsaMath
namespace Go.Proofs.YtikmanafbkiikaaDoor
set_option linter.unusedSimpArgs false
set_option linter.unusedVariables false
open Go Go.RowKit

def entOk (f p : Int) : Bool := decide (0 ≤ f ∧ f < 1024 ∧ p ≤ 7)
def entNum (f p : Int) (c : Bool) : Int := f * 256 + 128 + p + (if c then 8 else 0)
def entEnc (f p : Int) (c : Bool) : Int := if entOk f p then entNum f p c else 0
/-- A number that is an entry's. -/
def isEnt (v : Int) : Bool := decide (v / 256 < 1024 ∧ v % 256 / 16 = 8)
def entMay (f p use : Int) : Bool := decide ((use = 1 ∨ use = 2 ∨ use = 4) ∧ entOk f p = true ∧ p / use % 2 = 1)

theorem entOk_iff {f p : Int} : entOk f p = true ↔ 0 ≤ f ∧ f < 1024 ∧ p ≤ 7 := by simp [entOk]

theorem or8_small : ∀ p : Nat, p < 8 → p ||| 8 = p + 8 := by decide
theorem u32_or8 (x : Int) (h0 : 0 ≤ x) (h1 : x < 4294967296) (h : x % 16 < 8) : bits .or .u32 x 8 = x + 8 := by
  obtain ⟨a, rfl⟩ := Int.eq_ofNat_of_zero_le h0
  have e := u32_or_nat a 8 (by omega) (by omega)
  rw [show ((8 : Nat) : Int) = 8 from rfl] at e
  rw [e]
  obtain ⟨q, p, hp, rfl⟩ : ∃ q p, p < 8 ∧ a = 16 * q + p := ⟨a / 16, a % 16, by omega, by omega⟩
  have j1 := nat_join 4 (16 * q) p (by omega) (by omega)
  have j2 := nat_join 4 (16 * q) (p + 8) (by omega) (by omega)
  rw [← j1, Nat.or_assoc, or8_small p hp, j2, j1]
  omega

theorem nat_and_bit (a i : Nat) : a &&& 2 ^ i = (a / 2 ^ i % 2) * 2 ^ i := by
  apply Nat.eq_of_testBit_eq
  intro j
  rw [Nat.testBit_and, Nat.testBit_two_pow, Nat.testBit_mul_two_pow]
  by_cases h : i = j
  · subst h
    simp [Nat.testBit_eq_decide_div_mod_eq]
  · rw [decide_eq_false h, Bool.and_false]
    by_cases k : i ≤ j
    · have : (a / 2 ^ i % 2).testBit (j - i) = false := by
        apply Nat.testBit_lt_two_pow
        have : 2 ^ 1 ≤ 2 ^ (j - i) := Nat.pow_le_pow_right (by decide) (by omega)
        omega
      rw [this]; simp
    · simp [k]

theorem u32_and_bit (i : Nat) (hi : i < 32) (x : Int) (h0 : 0 ≤ x) (h1 : x < 4294967296) : bits .and .u32 x ((2 ^ i : Nat) : Int) = (x / (2 ^ i : Nat) % 2) * (2 ^ i : Nat) := by
  obtain ⟨a, rfl⟩ := Int.eq_ofNat_of_zero_le h0
  have hp : (2 : Nat) ^ i ≤ 2 ^ 31 := Nat.pow_le_pow_right (by decide) (by omega)
  rw [u32_and_nat a _ (by omega) (by omega), nat_and_bit]
  push_cast; rfl

theorem u8_and_bit (i : Nat) (hi : i < 8) (x : Int) (h0 : 0 ≤ x) (h1 : x < 256) : bits .and .u8 x ((2 ^ i : Nat) : Int) = (x / (2 ^ i : Nat) % 2) * (2 ^ i : Nat) := by
  obtain ⟨a, rfl⟩ := Int.eq_ofNat_of_zero_le h0
  have hp : (2 : Nat) ^ i ≤ 2 ^ 7 := Nat.pow_le_pow_right (by decide) (by omega)
  rw [u8_and_nat a _ (by omega) (by omega), nat_and_bit]
  push_cast; rfl

theorem ent_or (f p : Int) (h : entOk f p = true) (hp : 0 ≤ p) : bits .or .u32 (bits .or .u32 (f * 256) 128) p = entNum f p false ∧ bits .or .u32 (bits .or .u32 (bits .or .u32 (f * 256) 128) p) 8 = entNum f p true := by
  obtain ⟨a, b, c⟩ := entOk_iff.1 h
  have e : bits .or .u32 (bits .or .u32 (f * 256) 128) p = f * 256 + 128 + p := by
    rw [u32_join 8 (by decide) (f * 256) 128 (by omega) (by omega) (by omega) (by omega) (by omega), u32_join 7 (by decide) (f * 256 + 128) p (by omega) (by omega) (by omega) (by omega) (by omega)]
  rw [e, u32_or8 _ (by omega) (by omega) (by omega)]
  simp [entNum]

theorem entNum_range {f p : Int} (c : Bool) (h : entOk f p = true) (hp : 0 ≤ p) : 0 < entNum f p c ∧ entNum f p c < 262144 ∧ entNum f p c / 256 = f ∧ entNum f p c % 8 = p ∧ (entNum f p c / 8 % 2 = if c then 1 else 0) ∧ isEnt (entNum f p c) = true := by
  obtain ⟨a, b, d⟩ := entOk_iff.1 h
  cases c <;> simp [entNum, isEnt] <;> omega

theorem isEnt_num {v : Int} (h0 : 0 ≤ v) (h : isEnt v = true) : entOk (v / 256) (v % 8) = true ∧ entNum (v / 256) (v % 8) (decide (v / 8 % 2 = 1)) = v := by
  simp only [isEnt, decide_eq_true_eq] at h
  refine ⟨entOk_iff.2 (by omega), ?_⟩
  unfold entNum
  by_cases k : v / 8 % 2 = 1 <;> simp [k] <;> omega
theorem not_isEnt {v : Int} (h0 : 0 ≤ v) (h : isEnt v = false) : ¬ (entOk (v / 256) (v % 8) = true ∧ entNum (v / 256) (v % 8) (decide (v / 8 % 2 = 1)) = v) := by
  rintro ⟨a, b⟩
  have := (entNum_range (decide (v / 8 % 2 = 1)) a (by omega)).2.2.2.2.2
  rw [b, h] at this
  cases this
end Go.Proofs.YtikmanafbkiikaaDoor
