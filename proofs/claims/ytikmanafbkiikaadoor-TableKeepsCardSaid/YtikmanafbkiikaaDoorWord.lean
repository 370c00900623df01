/- Numbers of four bytes (package word), walked; and in plain words. -/
import Derived.Test.YtikmanafbkiikaaDoorFrames
import Derived.Test.YtikmanafbkiikaaDoorPhysMath
import Derived.Test.YtikmanafbkiikaaDoorIsaMath
namespace Go.Proofs.YtikmanafbkiikaaDoor
set_option linter.unusedSimpArgs false
set_option linter.unusedVariables false
open Go Go.RowKit Go.Proofs.YtikmanafbkiikaaDoorW.PrintWords Go.Proofs.YtikmanafbkiikaaDoorW.PrintMore Go.Proofs.YtikmanafbkiikaaDoor.RowK

/-- The number of four bytes, the lowest first; and the bytes of a number. -/
def num4 (b : List Int) : Int := b.getD 0 0 + 256 * b.getD 1 0 + 65536 * b.getD 2 0 + 16777216 * b.getD 3 0
def bytes4 (v : Int) : List Int := [v % 256, v / 256 % 256, v / 65536 % 256, v / 16777216 % 256]
theorem num4_bytes4 (v : Int) (h0 : 0 ≤ v) (h1 : v < 4294967296) : num4 (bytes4 v) = v := by
  unfold num4 bytes4
  show v % 256 + 256 * (v / 256 % 256) + 65536 * (v / 65536 % 256) + 16777216 * (v / 16777216 % 256) = v
  omega
theorem u32_joined (n : Nat) (hn : n ≤ 32) (x y : Int) (h0 : 0 ≤ x) (h1 : x < ((2 ^ n : Nat) : Int)) (h2 : y % ((2 ^ n : Nat) : Int) = 0) (h3 : 0 ≤ y) (h4 : x + y < 4294967296) : bits .or .u32 x y = x + y := by
  have hp : (2 : Nat) ^ n ≤ 2 ^ 32 := Nat.pow_le_pow_right (by decide) hn
  rw [u32_or x y h0 (by omega) h3 (by omega)]
  obtain ⟨a, rfl⟩ := Int.eq_ofNat_of_zero_le h0
  obtain ⟨b, rfl⟩ := Int.eq_ofNat_of_zero_le h3
  have ha : a < 2 ^ n := by exact_mod_cast h1
  have hb : b % 2 ^ n = 0 := by exact_mod_cast h2
  obtain ⟨q, rfl⟩ : ∃ q, b = 2 ^ n * q := ⟨b / 2 ^ n, by have := Nat.div_add_mod b (2 ^ n); omega⟩
  simp only [Int.toNat_natCast]
  rw [Nat.or_comm, ← Nat.two_pow_add_eq_or_of_lt ha]
  push_cast
  omega
set_option maxHeartbeats 2000000 in
set_option maxRecDepth 100000 in
theorem word_sized (w : World) : Calls Tryd.prog 111 #[.int .i64 4] w fun e w' => e = .returned (.bool true) ∧ w = w' := by
  go_enter Tryd.func111, Tryd.ntmps111
  go_wp2
  go_ret
  exact ⟨rfl, rfl⟩
set_option maxHeartbeats 4000000 in
set_option maxRecDepth 100000 in
theorem word_load (w : World) (g o c : Nat) (b0 b1 b2 b3 : Int) (h0 : 0 ≤ b0 ∧ b0 < 256) (h1 : 0 ≤ b1 ∧ b1 < 256) (h2 : 0 ≤ b2 ∧ b2 < 256) (h3 : 0 ≤ b3 ∧ b3 < 256)
    (q0 : w.cell? ⟨g, o, none⟩ = some (.int .u8 b0)) (q1 : w.cell? ⟨g, o + 1, none⟩ = some (.int .u8 b1)) (q2 : w.cell? ⟨g, o + 2, none⟩ = some (.int .u8 b2)) (q3 : w.cell? ⟨g, o + 3, none⟩ = some (.int .u8 b3)) :
    Calls Tryd.prog 101 #[.slice (some ⟨g, o, none⟩) 4 c] w fun e w' => e = .returned (.tuple #[.int .u32 (num4 [b0, b1, b2, b3]), .nilIface]) ∧ w = w' := by
  go_enter Tryd.func101, Tryd.ntmps101
  go_wp2_with fail
  ((with_reducible refine (word_sized w).mono ?_); rintro e w' ⟨rfl, rfl⟩)
  go_wp2_with fail
  refine wp_loop_rounds 5 ?_
  rw [rounds_succ]
  go_wp2_with fail
  rw [rounds_succ]
  go_wp2_with fail
  rw [rounds_succ]
  go_wp2_with fail
  rw [rounds_succ]
  go_wp2_with fail
  rw [rounds_succ]
  go_wp2_with fail
  go_ret2
  refine ⟨ret2 (vint ?_) rfl, rfl⟩
  show bits .or .u32 (bits .or .u32 (bits .or .u32 (bits .or .u32 0 b0) (b1 * 256)) (b2 * 65536)) (b3 * 16777216) = _
  rw [u32_joined 0 (by decide) 0 b0 (by decide) (by decide) (by simp) (by omega) (by omega),
    u32_joined 8 (by decide) (0 + b0) (b1 * 256) (by omega) (by simp; omega) (by simp) (by omega) (by omega),
    u32_joined 16 (by decide) (0 + b0 + b1 * 256) (b2 * 65536) (by omega) (by simp; omega) (by simp) (by omega) (by omega),
    u32_joined 24 (by decide) (0 + b0 + b1 * 256 + b2 * 65536) (b3 * 16777216) (by omega) (by simp; omega) (by simp) (by omega) (by omega)]
  unfold num4
  show _ = b0 + 256 * b1 + 65536 * b2 + 16777216 * b3
  omega
theorem p256 (j : Nat) : (0 : Int) < 256 ^ j := by
  induction j with
  | zero => decide
  | succ j ih => rw [Int.pow_succ]; omega
/-- The lowest bytes of a number. -/
def bytesTo (v : Int) (j : Nat) : List Int := (List.range j).map fun i => v / 256 ^ i % 256
theorem bytesTo_succ (v : Int) (j : Nat) : bytesTo v (j + 1) = bytesTo v j ++ [v / 256 ^ j % 256] := by unfold bytesTo; rw [List.range_succ, List.map_append]; rfl
theorem bytesTo_four (v : Int) : bytesTo v 4 = bytes4 v := by
  unfold bytesTo bytes4
  show [v / 256 ^ 0 % 256, v / 256 ^ 1 % 256, v / 256 ^ 2 % 256, v / 256 ^ 3 % 256] = _
  simp
theorem bytesTo_length (v : Int) (j : Nat) : (bytesTo v j).length = j := by unfold bytesTo; simp
theorem u8inf : (Tryd.prog.info? 5).map (fun i => (i.zero, i.size, i.bytes)) = some (some (.int .u8 0), 1, 1) := by kernel_rfl
set_option maxHeartbeats 4000000 in
set_option maxRecDepth 100000 in
theorem word_store (w : World) (v : Int) (h0 : 0 ≤ v) (h1 : v < 4294967296) :
    Calls Tryd.prog 104 #[.int .u32 v, .int .i64 4] w fun e w' => ∃ x, e = .returned (.tuple #[x, .nilIface]) ∧ Kd.R (Kd.int .u8) 5 w' w.heap.size (fun _ => True) x (bytes4 v) ∧ Below w.heap.size w w' := by
  obtain ⟨i0, hi, hz0, hz1, hz2⟩ := info_parts u8inf
  have hmk := Go.run_make (P := Tryd.prog) w 29 5 i0 (.int .u8 0) Tryd.underlying29 hi hz0 .i64 .i64 0 4 (by decide) (by decide) (by rw [hz2]; decide) (by decide)
  rw [hz1] at hmk
  obtain ⟨M, hM⟩ : ∃ M, M = madeCells (Value.int IntKind.u8 0).cells ((4 : Int).toNat * 1) := ⟨_, rfl⟩
  have hMs : M.size = 4 := by rw [hM, size_madeCells]; rfl
  rw [← hM] at hmk
  rw [show (0 : Int).toNat = 0 from rfl, show (4 : Int).toNat = 4 from rfl] at hmk
  have hR0 : Kd.R (Kd.int .u8) 5 (w.alloc (.cells M 5 (0, 0))) w.heap.size (fun _ => True) (.slice (some ⟨w.heap.size, 0, none⟩) 0 4) [] := by
    have ho : (w.alloc (.cells M 5 (0, 0))).ownsRow w.heap.size 5 1 (.slice (some ⟨w.heap.size, 0, none⟩) ([] : List Int).length 4) ([] : List Int).length (([] : List Int).map (Value.int .u8)) :=
      ⟨rfl, Or.inr ⟨w.heap.size, 4, M, rfl, Nat.le_refl _, heap_alloc_new _ _, Nat.zero_le _, by unfold maxLen; decide, by rw [hMs], rfl⟩⟩
    exact Kd.R_of_own (enc := Value.int .u8) (h1 := fun _ => rfl) ho (fun _ _ => trivial)
  have HR0 := Lib.hid hR0
  have HV := Lib.hid h1
  clear hM hMs hR0 hi hz0 hz1 hz2
  go_enter Tryd.func104, Tryd.ntmps104
  go_wp2_with fail
  ((with_reducible refine (word_sized w).mono ?_); rintro e w' ⟨rfl, rfl⟩)
  go_wp2_with fail
  go_loopg [0, 6, 14] 4 (fun gg s0 s6 s14 wr => ∃ j : Nat, s14 = .int .i64 (j : Nat) ∧ j + gg = 4 ∧ s0 = .int .u32 (v / 256 ^ j) ∧ Aside (Kd.R (Kd.int .u8) 5 wr w.heap.size (fun _ => True) s6 (bytesTo v j)) ∧ Aside (Below w.heap.size w wr))
  case atStart => exact ⟨0, rfl, rfl, by simp, HR0.out, (Below.refl _ w).alloc (Nat.le_refl _) _⟩
  case round =>
    obtain ⟨j, rfl, hj, rfl, Rr, Br⟩ := hrel
    by_cases hj4 : j < 4
    · have hlt : (j : Int) < 4 := by omega
      have hd : v / 256 ^ j / 256 = v / 256 ^ (j + 1) := by rw [Int.pow_succ, Int.ediv_ediv, if_neg (by have := p256 j; omega), Int.sub_zero]
      have HD := Lib.hid hd
      have hx0 : 0 ≤ v / 256 ^ j := Int.ediv_nonneg h0 (Int.le_of_lt (p256 j))
      have hx1 : v / 256 ^ j < 4294967296 := Int.lt_of_le_of_lt (Int.ediv_le_self _ h0) HV.out
      obtain ⟨x, hx⟩ : ∃ x, x = v / 256 ^ j := ⟨_, rfl⟩
      have HX := Lib.hid hx
      rw [← hx] at hx0 hx1
      rw [← hx]
      have hlen := bytesTo_length v j
      have HLN := Lib.hid hlen
      clear hx hd hlen
      go_wp2_with ((with_reducible refine gate_builtin (b := .append) (xs := #[.tmp 16, .tmp 19]) rfl ?_); at_builtin; refine Kd.R_append_row (Value.int .u8) (0 : Int) (h1 := fun _ => rfl) (w0 := w) w.heap.size rfl (.tmp 16) (.tmp 19) 29 5 (.int .u8 0) 1 rfl Tryd.underlying29 u8inf rfl (by decide) _ (bytesTo v j) [x % 256] (some ⟨wr.heap.size, 0, none⟩) 1 1 (fun _ => True) rfl rfl (fun _ _ => trivial) (Kd.R_alloc Rr.out _) ?aR ?aB ?aS ?aL ?_)
      case aR =>
        exact Kd.C_of_reads (d := (0 : Int)) ⟨rfl, by omega, fun _ => ⟨_, rfl, fun i hi => by
          obtain rfl : i = 0 := by omega
          rw [Addr.add_lit, Nat.zero_add, cell_of_row _ _ _ _ _ _ (heap_alloc_new _ _)]
          simp⟩⟩
      case aB => exact Br.out.alloc Br.out.size _
      case aS => have := Br.out.size; simp; omega
      case aL => rw [HLN.out]; omega
      intro v1 w2 hR2 hB2 hG2 hat2
      have R2 := Lib.hid hR2
      have B2 := Lib.hid hB2
      clear hR2 hB2 hG2 hat2
      go_wp2_with fail
      go_roundg (4 - (j + 1))
      case measure => omega
      case rel => exact ⟨j + 1, by go_num, by omega, by rw [HX.out, HD.out], by show Kd.R _ _ _ _ _ _ _; rw [bytesTo_succ, ← HX.out]; exact R2.out, B2.out⟩
    · have hlt : ¬ (j : Int) < 4 := by omega
      obtain rfl : j = 4 := by omega
      go_wp2
      go_ret2
      exact ⟨_, rfl, by rw [← bytesTo_four]; exact Rr.out, Br.out⟩
end Go.Proofs.YtikmanafbkiikaaDoor
