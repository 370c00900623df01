/- The walks of the reference of chapter 8. -/
import Derived.Test.YtlhmnkhfobpjjaaDoorIsa
import Derived.Outline
namespace Go.Proofs.YtlhmnkhfobpjjaaDoor
set_option linter.unusedSimpArgs false
set_option linter.unusedVariables false
open Go Go.RowKit

set_option maxHeartbeats 1000000 in
theorem refMay (a b c d : Int) (w : World) :
    Calls Tryd.prog 23 #[.agg #[.int .i64 a, .int .i64 b, .int .i64 c, .int .i64 d]] w fun e w' => e = .returned (.bool (isaOk a b c d)) ∧ Below w.heap.size w w' := by
  cases h : isaOk a b c d
  all_goals
    simp only [isaOk, decide_eq_true_eq, decide_eq_false_iff_not] at h
    have H := Lib.hid h
    clear h
    go_enter Tryd.func23, Tryd.ntmps23
    go_wp2
    all_goals
      have h' := H.out
      first
      | (exfalso; omega)
      | (go_ret; refine ⟨?_, by repeat (first | exact Below.refl _ _ | refine ba ?_ _)⟩; first | rfl | (show Ending.returned (.bool (decide _)) = _; congr 2; simp; omega) | trace_state)

theorem refEncode (a b c d : Int) (w : World) :
    Calls Tryd.prog 8 #[.agg #[.int .i64 a, .int .i64 b, .int .i64 c, .int .i64 d]] w fun e w' => e = .returned (.tuple #[.int .u32 (isaEnc a b c d), .int .i64 ((isaErr (isaOk a b c d)).getD 0)]) ∧ Below w.heap.size w w' := by
  have hv : isaOk a b c d = true → 0 ≤ a ∧ a < 42 ∧ 0 ≤ b ∧ b < 16 ∧ 0 ≤ c ∧ c < 16 ∧ -32768 ≤ d ∧ d < 32768 := by simp [isaOk]
  cases h : isaOk a b c d
  · have H := Lib.hid h
    clear h hv
    go_enter Tryd.func8, Tryd.ntmps8
    go_wp2_with fail
    refine (refMay _ _ _ _ _).mono ?_
    rintro e w1 ⟨rfl, hb1⟩
    rw [H.out]
    go_wp2
    go_ret2
    exact ⟨by rw [isaEnc, H.out]; rfl, bt (ba (Below.refl _ _) _) hb1⟩
  · obtain ⟨h0, h1, h2, h3, h4, h5, h6, h7⟩ := hv h
    have H := Lib.hid h
    clear h hv
    by_cases hd : d < 0
    all_goals
      have E := Lib.hid (show isaNum a b c d = ((a * 16 + b) * 16 + c) * 65536 + (if d < 0 then d + 65536 else d) by
        unfold isaNum; split <;> omega)
      go_enter Tryd.func8, Tryd.ntmps8
      go_wp2_with fail
      refine (refMay _ _ _ _ _).mono ?_
      rintro e w1 ⟨rfl, hb1⟩
      rw [H.out]
      have Hb := Lib.hid hb1
      obtain ⟨hc1, hf1, hz1⟩ := bcell hb1
      simp only [World.size_alloc] at hc1 hf1 hz1
      clear hb1
      go_wp2
      go_ret2
      refine ⟨?_, bt (ba (Below.refl _ _) _) Hb.out⟩
      exact ret2 (vint (by rw [isaEnc, H.out, if_pos rfl, E.out]; first | rw [if_pos hd] | rw [if_neg (by omega)])) rfl

theorem refDecode (v : Int) (h0 : 0 ≤ v) (h1 : v < 4294967296) (w : World) :
    Calls Tryd.prog 10 #[.int .u32 v] w fun e w' => e = .returned (.tuple #[insV (isaDec v).1 (isaDec v).2.1 (isaDec v).2.2.1 (isaDec v).2.2.2, .int .i64 ((isaErr (decide (v / 16777216 < 42))).getD 0)]) ∧ Below w.heap.size w w' := by
  have e1 : sx v = if v % 65536 < 32768 then v % 65536 else v % 65536 - 65536 := by unfold sx; split <;> omega
  have E1 := Lib.hid e1
  clear e1
  by_cases h : v / 16777216 < 42 <;> by_cases hs : v % 65536 < 32768
  · go_enter Tryd.func10, Tryd.ntmps10
    go_wp2
    refine bodyPost_ret (v := .tuple #[.agg #[.int .i64 (v / 16777216), .int .i64 (v / 1048576 % 16), .int .i64 (v / 65536 % 16), .int .i64 (v % 65536)], .int .i64 0]) (by simp [results, Tryd.results10, go_sem]) rfl ⟨?_, ba (ba (Below.refl _ _) _) _⟩
    have E := E1.out; rw [if_pos (by omega)] at E
    simp [insV, isaDec, isaErr, h, E]
  · go_enter Tryd.func10, Tryd.ntmps10
    go_wp2
    refine bodyPost_ret (v := .tuple #[.agg #[.int .i64 (v / 16777216), .int .i64 (v / 1048576 % 16), .int .i64 (v / 65536 % 16), .int .i64 (v % 65536 - 65536)], .int .i64 0]) (by simp [results, Tryd.results10, go_sem]) rfl ⟨?_, ba (ba (Below.refl _ _) _) _⟩
    have E := E1.out; rw [if_neg (by omega)] at E
    simp [insV, isaDec, isaErr, h, E]
  · go_enter Tryd.func10, Tryd.ntmps10
    go_wp2
    refine bodyPost_ret (v := .tuple #[.agg #[.int .i64 0, .int .i64 0, .int .i64 0, .int .i64 0], .int .i64 22]) (by simp [results, Tryd.results10, go_sem]) rfl ⟨?_, ba (ba (Below.refl _ _) _) _⟩
    have h' : ¬ v / 16777216 < 42 := by omega
    simp [insV, isaDec, isaErr, h']
  · go_enter Tryd.func10, Tryd.ntmps10
    go_wp2
    refine bodyPost_ret (v := .tuple #[.agg #[.int .i64 0, .int .i64 0, .int .i64 0, .int .i64 0], .int .i64 22]) (by simp [results, Tryd.results10, go_sem]) rfl ⟨?_, ba (ba (Below.refl _ _) _) _⟩
    have h' : ¬ v / 16777216 < 42 := by omega
    simp [insV, isaDec, isaErr, h']
end Go.Proofs.YtlhmnkhfobpjjaaDoor
