/- The walk of IsaForms. -/
import Derived.Test.YtlhmnkhfobpjjaaDoorIsaSure
import Derived.Test.YtlhmnkhfobpjjaaDoorIsaRef
import Derived.Test.YtlhmnkhfobpjjaaDoorNum
namespace Go.Proofs.YtlhmnkhfobpjjaaDoor
set_option linter.unusedSimpArgs false
set_option linter.unusedVariables false
open Go Go.RowKit

set_option maxHeartbeats 2000000 in
theorem isaFormsWalk (a b c d v : Int) (h0 : 0 ≤ v) (h1 : v < 4294967296) (w : World) (hg : EW w) :
    Calls Tryd.prog 3 #[.agg #[.int .i64 a, .int .i64 b, .int .i64 c, .int .i64 d], .int .u32 v] w fun e w' => e = .returned (.bool true) ∧ Below w.heap.size w w' := by
  obtain ⟨er, her⟩ : ∃ er, er = isaErr (isaOk a b c d) := ⟨_, rfl⟩
  obtain ⟨en, hen⟩ : ∃ en, en = isaEnc a b c d := ⟨_, rfl⟩
  obtain ⟨dr, hdr⟩ : ∃ dr, dr = isaErr (decide (v / 16777216 < 42)) := ⟨_, rfl⟩
  obtain ⟨x0, hx0⟩ : ∃ x, x = (isaDec v).1 := ⟨_, rfl⟩
  obtain ⟨x1, hx1⟩ : ∃ x, x = (isaDec v).2.1 := ⟨_, rfl⟩
  obtain ⟨x2, hx2⟩ : ∃ x, x = (isaDec v).2.2.1 := ⟨_, rfl⟩
  obtain ⟨x3, hx3⟩ : ∃ x, x = (isaDec v).2.2.2 := ⟨_, rfl⟩
  have Her := Lib.hid her
  have Hen := Lib.hid hen
  have Hdr := Lib.hid hdr
  have H0 := Lib.hid hx0
  have H1 := Lib.hid hx1
  have H2 := Lib.hid hx2
  have H3 := Lib.hid hx3
  have HG := Lib.hid hg
  clear her hen hdr hx0 hx1 hx2 hx3 hg
  go_enter Tryd.func3, Tryd.ntmps3
  go_wp2_with fail
  refine (isaEncode _ _ _ _ _).mono ?_
  rintro e w1 ⟨rfl, hb1⟩
  rw [← Her.out, ← Hen.out]
  have Hb1 := Lib.hid hb1
  obtain ⟨hc1, hf1, hz1⟩ := bcell hb1
  try simp only [World.size_alloc, World.size_setCell, World.size_drew, size_drewN] at hc1 hf1 hz1
  clear hb1
  have hz1__ : w.heap.size < w1.heap.size := by omega
  go_wp2_with fail
  refine (refEncode _ _ _ _ _).mono ?_
  rintro e w2 ⟨rfl, hb2⟩
  rw [← Her.out, ← Hen.out]
  have Hb2 := Lib.hid hb2
  obtain ⟨hc2, hf2, hz2⟩ := bcell hb2
  try simp only [World.size_alloc, World.size_setCell, World.size_drew, size_drewN] at hc2 hf2 hz2
  clear hb2
  have hz2__ : w.heap.size < w2.heap.size := by omega
  go_wp2_with fail
  refine (isaDecode _ h0 h1 _).mono ?_
  rintro e w3 ⟨rfl, hb3⟩
  rw [← Hdr.out, ← H0.out, ← H1.out, ← H2.out, ← H3.out]; simp only [insV]
  have Hb3 := Lib.hid hb3
  obtain ⟨hc3, hf3, hz3⟩ := bcell hb3
  try simp only [World.size_alloc, World.size_setCell, World.size_drew, size_drewN] at hc3 hf3 hz3
  clear hb3
  have hz3__ : w.heap.size < w3.heap.size := by omega
  go_wp2_with fail
  refine (refDecode _ h0 h1 _).mono ?_
  rintro e w4 ⟨rfl, hb4⟩
  rw [← Hdr.out, ← H0.out, ← H1.out, ← H2.out, ← H3.out]; simp only [insV]
  have Hb4 := Lib.hid hb4
  obtain ⟨hc4, hf4, hz4⟩ := bcell hb4
  try simp only [World.size_alloc, World.size_setCell, World.size_drew, size_drewN] at hc4 hf4 hz4
  clear hb4
  have hz4__ : w.heap.size < w4.heap.size := by omega
  have hz4_3 : w3.heap.size < w4.heap.size := by omega
  go_wp2_with fail
  refine (isaCheck _ _ _ _ _).mono ?_
  rintro e w5 ⟨rfl, hb5⟩
  rw [← Her.out]
  have Hb5 := Lib.hid hb5
  obtain ⟨hc5, hf5, hz5⟩ := bcell hb5
  try simp only [World.size_alloc, World.size_setCell, World.size_drew, size_drewN] at hc5 hf5 hz5
  clear hb5
  have hz5__ : w.heap.size < w5.heap.size := by omega
  have hz5_3 : w3.heap.size < w5.heap.size := by omega
  have hz5_4 : w4.heap.size < w5.heap.size := by omega
  go_wp2_with fail
  refine (num_calls er _ (HG.out.below' (by repeat (first | exact Below.refl _ _ | refine ba ?_ _ | refine bd ?_ | refine bdN ?_ _ | refine btH ?_ (by assumption) | refine bs ?_ (by simp; done) _ | refine bs ?_ (by simp; omega) _)))).mono ?_
  rintro e w6 ⟨rfl, hb6⟩
  rw [numOf]
  have Hb6 := Lib.hid hb6
  obtain ⟨hc6, hf6, hz6⟩ := bcell hb6
  try simp only [World.size_alloc, World.size_setCell, World.size_drew, size_drewN] at hc6 hf6 hz6
  clear hb6
  have hz6__ : w.heap.size < w6.heap.size := by omega
  have hz6_3 : w3.heap.size < w6.heap.size := by omega
  have hz6_4 : w4.heap.size < w6.heap.size := by omega
  go_wp2_with fail
  refine (num_calls dr _ (HG.out.below' (by repeat (first | exact Below.refl _ _ | refine ba ?_ _ | refine bd ?_ | refine bdN ?_ _ | refine btH ?_ (by assumption) | refine bs ?_ (by simp; done) _ | refine bs ?_ (by simp; omega) _)))).mono ?_
  rintro e w7 ⟨rfl, hb7⟩
  rw [numOf]
  have Hb7 := Lib.hid hb7
  obtain ⟨hc7, hf7, hz7⟩ := bcell hb7
  try simp only [World.size_alloc, World.size_setCell, World.size_drew, size_drewN] at hc7 hf7 hz7
  clear hb7
  have hz7__ : w.heap.size < w7.heap.size := by omega
  have hz7_3 : w3.heap.size < w7.heap.size := by omega
  have hz7_4 : w4.heap.size < w7.heap.size := by omega
  go_wp2_with fail
  refine (num_calls er _ (HG.out.below' (by repeat (first | exact Below.refl _ _ | refine ba ?_ _ | refine bd ?_ | refine bdN ?_ _ | refine btH ?_ (by assumption) | refine bs ?_ (by simp; done) _ | refine bs ?_ (by simp; omega) _)))).mono ?_
  rintro e w8 ⟨rfl, hb8⟩
  rw [numOf]
  have Hb8 := Lib.hid hb8
  obtain ⟨hc8, hf8, hz8⟩ := bcell hb8
  try simp only [World.size_alloc, World.size_setCell, World.size_drew, size_drewN] at hc8 hf8 hz8
  clear hb8
  have hz8__ : w.heap.size < w8.heap.size := by omega
  have hz8_3 : w3.heap.size < w8.heap.size := by omega
  have hz8_4 : w4.heap.size < w8.heap.size := by omega
  go_wp2_with fail
  refine (isaSure _).mono ?_
  rintro e w9 ⟨rfl, hb9⟩
  have Hb9 := Lib.hid hb9
  obtain ⟨hc9, hf9, hz9⟩ := bcell hb9
  try simp only [World.size_alloc, World.size_setCell, World.size_drew, size_drewN] at hc9 hf9 hz9
  clear hb9
  have hz9__ : w.heap.size < w9.heap.size := by omega
  have hz9_3 : w3.heap.size < w9.heap.size := by omega
  have hz9_4 : w4.heap.size < w9.heap.size := by omega
  go_wp2
  go_ret
  exact ⟨rfl, (by repeat (first | exact Below.refl _ _ | refine ba ?_ _ | refine bd ?_ | refine bdN ?_ _ | refine btH ?_ (by assumption) | refine bs ?_ (by simp; done) _ | refine bs ?_ (by simp; omega) _))⟩
end Go.Proofs.YtlhmnkhfobpjjaaDoor
