/- The walk of layer 8's 'sure'. -/
import Derived.Test.YtlhmnkhfobpjjaaDoorIsa
namespace Go.Proofs.YtlhmnkhfobpjjaaDoor
set_option linter.unusedSimpArgs false
set_option linter.unusedVariables false
open Go Go.RowKit

theorem isaSure (w : World) : Calls Tryd.prog 13 #[] w fun e w' => e = .returned (.bool true) ∧ Below w.heap.size w w' := by
  go_enter Tryd.func13, Tryd.ntmps13
  go_wp2_with fail
  refine (isaEncode 1 1 0 5 _).mono ?_
  rintro e w1 ⟨rfl, hb1⟩
  rw [show isaEnc 1 1 0 5 = 17825797 by decide, show errW (isaErr (isaOk 1 1 0 5)) = .nilIface from rfl]
  have Hb1 := Lib.hid hb1
  obtain ⟨hc1, hf1, hz1⟩ := bcell hb1
  try simp only [World.size_alloc] at hc1 hf1 hz1
  clear hb1
  go_wp2_with fail
  refine (isaDecode 17891327 (by omega) (by omega) _).mono ?_
  rintro e w2 ⟨rfl, hb2⟩
  rw [show isaDec 17891327 = (1, 1, 0, -1) by decide, show errW (isaErr (decide ((17891327 : Int) / 16777216 < 42))) = .nilIface from rfl, show insV (1, 1, 0, -1).1 (1, 1, 0, -1).2.1 (1, 1, 0, -1).2.2.1 (1, 1, 0, -1).2.2.2 = .agg #[.int .i64 1, .int .i64 1, .int .i64 0, .int .i64 (-1)] from rfl]
  have Hb2 := Lib.hid hb2
  obtain ⟨hc2, hf2, hz2⟩ := bcell hb2
  try simp only [World.size_alloc] at hc2 hf2 hz2
  clear hb2
  go_wp2
  go_ret
  exact ⟨rfl, by repeat (first | exact Below.refl _ _ | refine ba ?_ _ | refine bt ?_ Hb2.out | refine bt ?_ Hb1.out)⟩
end Go.Proofs.YtlhmnkhfobpjjaaDoor
