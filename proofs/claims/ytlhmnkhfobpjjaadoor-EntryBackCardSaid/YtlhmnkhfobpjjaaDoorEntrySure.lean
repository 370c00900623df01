/- The walk of layer 6's 'sure'. -/
import Derived.Test.YtlhmnkhfobpjjaaDoorEntry
namespace Go.Proofs.YtlhmnkhfobpjjaaDoor
set_option linter.unusedSimpArgs false
set_option linter.unusedVariables false
open Go Go.RowKit

theorem entSure (w : World) : Calls Tryd.prog 22 #[] w fun e w' => e = .returned (.bool true) ∧ Below w.heap.size w w' := by
  go_enter Tryd.func22, Tryd.ntmps22
  go_wp2_with fail
  refine (entEncode 1 1 false (by omega) (by omega) _).mono ?_
  rintro e w1 ⟨rfl, hb1⟩
  rw [show entEnc 1 1 false = 385 by decide, show errW (argErr (entOk 1 1)) = .nilIface from rfl]
  have Hb1 := Lib.hid hb1
  obtain ⟨hc1, hf1, hz1⟩ := bcell hb1
  try simp only [World.size_alloc, World.size_setCell, World.size_drew, size_drewN] at hc1 hf1 hz1
  clear hb1
  go_wp2_with fail
  refine (entDecode 385 (by omega) (by omega) _).mono ?_
  rintro e w2 ⟨rfl, hb2⟩
  rw [show entDecV 385 = .agg #[.int .i64 1, .int .u8 1, .bool false] from rfl, show errW (entDecE 385) = .nilIface from rfl, show isEnt 385 = true by decide]
  have Hb2 := Lib.hid hb2
  obtain ⟨hc2, hf2, hz2⟩ := bcell hb2
  try simp only [World.size_alloc, World.size_setCell, World.size_drew, size_drewN] at hc2 hf2 hz2
  clear hb2
  go_wp2_with fail
  refine (entMayW 1 1 1 false (by omega) (by omega) _).mono ?_
  rintro e w3 ⟨rfl, hb3⟩
  rw [show entMay 1 1 1 = true by decide]
  have Hb3 := Lib.hid hb3
  obtain ⟨hc3, hf3, hz3⟩ := bcell hb3
  try simp only [World.size_alloc, World.size_setCell, World.size_drew, size_drewN] at hc3 hf3 hz3
  clear hb3
  have hz3_2_ : w2.heap.size < w3.heap.size := by omega
  go_wp2_with fail
  refine (entMayW 1 1 2 false (by omega) (by omega) _).mono ?_
  rintro e w4 ⟨rfl, hb4⟩
  rw [show entMay 1 1 2 = false by decide]
  have Hb4 := Lib.hid hb4
  obtain ⟨hc4, hf4, hz4⟩ := bcell hb4
  try simp only [World.size_alloc, World.size_setCell, World.size_drew, size_drewN] at hc4 hf4 hz4
  clear hb4
  have hz4_2_ : w2.heap.size < w4.heap.size := by omega
  go_wp2
  go_ret
  exact ⟨rfl, (by repeat (first | exact Below.refl _ _ | refine ba ?_ _ | refine bd ?_ | refine bdN ?_ _ | refine btH ?_ (by assumption) | refine bs ?_ (by simp; done) _ | refine bs ?_ (by simp; omega) _))⟩
end Go.Proofs.YtlhmnkhfobpjjaaDoor
