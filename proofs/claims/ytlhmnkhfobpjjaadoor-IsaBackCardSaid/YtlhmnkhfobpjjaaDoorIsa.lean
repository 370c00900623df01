/- The walks of isa.Check, isa.Encode, isa.Decode. -/
import Derived.Test.YtlhmnkhfobpjjaaDoorProg
import Derived.Test.YtlhmnkhfobpjjaaDoorKit
import Derived.Test.YtlhmnkhfobpjjaaDoorIsaMath
import Derived.Outline
namespace Go.Proofs.YtlhmnkhfobpjjaaDoor
set_option linter.unusedSimpArgs false
set_option linter.unusedVariables false
open Go Go.RowKit

def insV (a b c d : Int) : Value := .agg #[.int .i64 a, .int .i64 b, .int .i64 c, .int .i64 d]

theorem isaCheck (a b c d : Int) (w : World) :
    Calls Tryd.prog 11 #[.agg #[.int .i64 a, .int .i64 b, .int .i64 c, .int .i64 d]] w fun e w' => e = .returned (errW (isaErr (isaOk a b c d))) ∧ Below w.heap.size w w' := by
  go_enter Tryd.func11, Tryd.ntmps11
  go_wp2
  all_goals
    go_ret
    refine ⟨?_, by repeat (first | exact Below.refl _ _ | refine ba ?_ _)⟩
    first
    | (rw [show isaOk a b c d = true by simp [isaOk]; omega]; rfl)
    | (rw [show isaOk a b c d = false by simp [isaOk]; omega]; rfl)

set_option maxHeartbeats 1000000 in
theorem isaEncode (a b c d : Int) (w : World) :
    Calls Tryd.prog 7 #[.agg #[.int .i64 a, .int .i64 b, .int .i64 c, .int .i64 d]] w fun e w' => e = .returned (.tuple #[.int .u32 (isaEnc a b c d), errW (isaErr (isaOk a b c d))]) ∧ Below w.heap.size w w' := by
  have hv : isaOk a b c d = true → 0 ≤ a ∧ a < 42 ∧ 0 ≤ b ∧ b < 16 ∧ 0 ≤ c ∧ c < 16 ∧ -32768 ≤ d ∧ d < 32768 := by simp [isaOk]
  cases h : isaOk a b c d
  · have H := Lib.hid h
    clear h hv
    go_enter Tryd.func7, Tryd.ntmps7
    go_wp2_with fail
    refine (isaCheck _ _ _ _ _).mono ?_
    rintro e w1 ⟨rfl, hb1⟩
    rw [H.out, show errW (isaErr false) = .iface 58 (.int .i64 22) from rfl]
    go_wp2
    go_ret2
    exact ⟨by rw [isaEnc, H.out]; rfl, by repeat (first | exact Below.refl _ _ | refine ba ?_ _ | refine bt ?_ hb1)⟩
  · obtain ⟨h0, h1, h2, h3, h4, h5, h6, h7⟩ := hv h
    have H := Lib.hid h
    have E := Lib.hid (show bits .or .u32 (bits .or .u32 (bits .or .u32 (a * 16777216) (b * 1048576)) (c * 65536)) (IntKind.u16.wrap d % 4294967296) = isaNum a b c d by
      rw [IntKind.wrap_u16, u32_join 24 (by decide) (a * 16777216) (b * 1048576) (by omega) (by omega) (by omega) (by omega) (by omega),
        u32_join 20 (by decide) (a * 16777216 + b * 1048576) (c * 65536) (by omega) (by omega) (by omega) (by omega) (by omega),
        u32_join 16 (by decide) (a * 16777216 + b * 1048576 + c * 65536) _ (by omega) (by omega) (by omega) (by omega) (by omega)]
      unfold isaNum; omega)
    clear h hv
    go_enter Tryd.func7, Tryd.ntmps7
    go_wp2_with fail
    refine (isaCheck _ _ _ _ _).mono ?_
    rintro e w1 ⟨rfl, hb1⟩
    rw [H.out, show errW (isaErr true) = .nilIface from rfl]
    have Hb := Lib.hid hb1
    obtain ⟨hc1, hf1, hz1⟩ := bcell hb1
    simp only [World.size_alloc] at hc1 hf1 hz1
    clear hb1
    go_wp2
    go_ret2
    exact ⟨(congrArg (fun x => Ending.returned (.tuple #[.int .u32 x, .nilIface])) E.out).trans (by rw [isaEnc, H.out]; rfl), bt (ba (Below.refl _ _) _) Hb.out⟩

theorem isaDecode (v : Int) (h0 : 0 ≤ v) (h1 : v < 4294967296) (w : World) :
    Calls Tryd.prog 9 #[.int .u32 v] w fun e w' => e = .returned (.tuple #[insV (isaDec v).1 (isaDec v).2.1 (isaDec v).2.2.1 (isaDec v).2.2.2, errW (isaErr (decide (v / 16777216 < 42)))]) ∧ Below w.heap.size w w' := by
  have e1 : wrap64 (bits .and .u32 (v / 1048576) 15) = v / 1048576 % 16 := by
    rw [show (15 : Int) = ((2 ^ 4 - 1 : Nat) : Int) from rfl, u32_mask 4 (by decide) _ (by omega) (by omega)]; unfold wrap64; omega
  have e2 : wrap64 (bits .and .u32 (v / 65536) 15) = v / 65536 % 16 := by
    rw [show (15 : Int) = ((2 ^ 4 - 1 : Nat) : Int) from rfl, u32_mask 4 (by decide) _ (by omega) (by omega)]; unfold wrap64; omega
  have e3 : wrap64 (IntKind.i16.wrap v) = sx v := by
    rw [wrap_i16]; unfold wrap64 sx; omega
  have E1 := Lib.hid e1
  have E2 := Lib.hid e2
  have E3 := Lib.hid e3
  clear e1 e2 e3
  by_cases h : v / 16777216 < 42
  · go_enter Tryd.func9, Tryd.ntmps9
    go_wp2
    refine bodyPost_ret (v := .tuple #[.agg #[.int .i64 (v / 16777216), .int .i64 (wrap64 (bits .and .u32 (v / 1048576) 15)), .int .i64 (wrap64 (bits .and .u32 (v / 65536) 15)), .int .i64 (wrap64 (IntKind.i16.wrap v))], .nilIface]) (by simp [results, Tryd.results9, go_sem]) rfl ⟨?_, ba (ba (Below.refl _ _) _) _⟩
    rw [E1.out, E2.out, E3.out]
    simp [insV, isaDec, isaErr, errW, h]
  · go_enter Tryd.func9, Tryd.ntmps9
    go_wp2
    refine bodyPost_ret (v := .tuple #[.agg #[.int .i64 0, .int .i64 0, .int .i64 0, .int .i64 0], .iface 58 (.int .i64 22)]) (by simp [results, Tryd.results9, go_sem]) rfl ⟨?_, ba (ba (Below.refl _ _) _) _⟩
    have h' : ¬ v / 16777216 < 42 := by omega
    simp [insV, isaDec, isaErr, errW, h']

end Go.Proofs.YtlhmnkhfobpjjaaDoor
