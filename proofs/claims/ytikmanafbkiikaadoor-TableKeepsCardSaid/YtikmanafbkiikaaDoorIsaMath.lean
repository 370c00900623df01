/- Instructions as numbers: plain facts on whole numbers, no program in sight. -/
import Derived.Laws.BitsAllLaws
import Derived.WalkKit
namespace Go.Proofs.YtikmanafbkiikaaDoor
set_option linter.unusedSimpArgs false
set_option linter.unusedVariables false
open Go Go.RowKit

def isaOk (a b c d : Int) : Bool := decide (0 ≤ a ∧ a < 42 ∧ 0 ≤ b ∧ b < 16 ∧ 0 ≤ c ∧ c < 16 ∧ -32768 ≤ d ∧ d < 32768)
def isaErr (o : Bool) : Option Int := if o then none else some 22
def isaNum (a b c d : Int) : Int := a * 16777216 + b * 1048576 + c * 65536 + d % 65536
def isaEnc (a b c d : Int) : Int := if isaOk a b c d then isaNum a b c d else 0
def sx (d : Int) : Int := (d + 32768) % 65536 - 32768
def isaDec (v : Int) : Int × Int × Int × Int := if v / 16777216 < 42 then (v / 16777216, v / 1048576 % 16, v / 65536 % 16, sx v) else (0, 0, 0, 0)

theorem u32_wraps (n : Int) (h₀ : 0 ≤ n) (h₁ : n < 2 ^ 32) : IntKind.u32.wrap n = n := by rw [IntKind.wrap_u32]; omega

theorem wrap_i16 (n : Int) : IntKind.i16.wrap n = (n + 32768) % 65536 - 32768 := by
  simp [IntKind.wrap, IntKind.bits, IntKind.signed]; split <;> omega

theorem u32_join (i : Nat) (hi : i ≤ 32) (x y : Int) (hx0 : 0 ≤ x) (hx : x % (2 ^ i : Nat) = 0) (hx1 : x < 4294967296) (h0 : 0 ≤ y) (h1 : y < (2 ^ i : Nat)) : bits .or .u32 x y = x + y := by
  obtain ⟨a, rfl⟩ := Int.eq_ofNat_of_zero_le hx0
  obtain ⟨b, rfl⟩ := Int.eq_ofNat_of_zero_le h0
  have hp : (2 : Nat) ^ i ≤ 2 ^ 32 := Nat.pow_le_pow_right (by decide) hi
  have hb : b < 2 ^ i := by exact_mod_cast h1
  have ha : a % 2 ^ i = 0 := by exact_mod_cast hx
  rw [u32_or_nat a b (by omega) (by omega), nat_join i a b ha hb]
  omega

theorem u32_mask (i : Nat) (hi : i ≤ 32) (x : Int) (h0 : 0 ≤ x) (h1 : x < 4294967296) : bits .and .u32 x ((2 ^ i - 1 : Nat) : Int) = x % (2 ^ i : Nat) := by
  obtain ⟨a, rfl⟩ := Int.eq_ofNat_of_zero_le h0
  have hp : (2 : Nat) ^ i ≤ 2 ^ 32 := Nat.pow_le_pow_right (by decide) hi
  have : (0 : Nat) < 2 ^ i := Nat.pow_pos (by decide)
  rw [u32_and_nat a _ (by omega) (by omega), Nat.and_two_pow_sub_one_eq_mod]
  omega

theorem isaOk_iff {a b c d : Int} : isaOk a b c d = true ↔ 0 ≤ a ∧ a < 42 ∧ 0 ≤ b ∧ b < 16 ∧ 0 ≤ c ∧ c < 16 ∧ -32768 ≤ d ∧ d < 32768 := by simp [isaOk]
theorem isaNum_range {a b c d : Int} (h : isaOk a b c d = true) : 0 ≤ isaNum a b c d ∧ isaNum a b c d < 4294967296 ∧ isaNum a b c d / 16777216 = a ∧ isaNum a b c d / 1048576 % 16 = b ∧ isaNum a b c d / 65536 % 16 = c ∧ isaNum a b c d % 65536 = d % 65536 ∧ isaNum a b c d / 65536 = a * 256 + b * 16 + c := by
  obtain ⟨h0, h1, h2, h3, h4, h5, h6, h7⟩ := isaOk_iff.1 h
  unfold isaNum; omega
theorem isaDec_enc {a b c d : Int} (h : isaOk a b c d = true) : isaDec (isaNum a b c d) = (a, b, c, d) := by
  obtain ⟨_, _, e1, e2, e3, e4, _⟩ := isaNum_range h
  obtain ⟨h0, h1, h2, h3, h4, h5, h6, h7⟩ := isaOk_iff.1 h
  unfold isaDec
  rw [e1, e2, e3, if_pos h1]
  have : sx (isaNum a b c d) = d := by unfold sx; omega
  rw [this]
theorem isaEnc_dec {v : Int} (h0 : 0 ≤ v) (h1 : v < 4294967296) (h : v / 16777216 < 42) : isaOk (isaDec v).1 (isaDec v).2.1 (isaDec v).2.2.1 (isaDec v).2.2.2 = true ∧ isaNum (isaDec v).1 (isaDec v).2.1 (isaDec v).2.2.1 (isaDec v).2.2.2 = v := by
  unfold isaDec
  rw [if_pos h]
  refine ⟨isaOk_iff.2 ?_, ?_⟩
  · simp only [sx]; omega
  · simp only [isaNum, sx]; omega
end Go.Proofs.YtikmanafbkiikaaDoor
