/- The walk of IsaBack. -/
import Derived.Test.YtlhmnkhfobpjjaaDoorIsaSure
import Derived.Test.YtlhmnkhfobpjjaaDoorNum
namespace Go.Proofs.YtlhmnkhfobpjjaaDoor
set_option linter.unusedSimpArgs false
set_option linter.unusedVariables false
open Go Go.RowKit

set_option maxHeartbeats 2000000 in
theorem isaBackWalk_tt (a b c d v : Int) (h : isaOk a b c d = true) (h0 : 0 ≤ v) (h1 : v < 4294967296) (hd : v / 16777216 < 42) (w : World) (hg : EW w) :
    Calls Tryd.prog 4 #[.agg #[.int .i64 a, .int .i64 b, .int .i64 c, .int .i64 d], .int .u32 v] w fun e w' => e = .returned (.bool true) ∧ Below w.heap.size w w' := by
  have HG := Lib.hid hg
  clear hg
  have H := Lib.hid h
  obtain ⟨s0, s1, s2, s3, s4, s5, s8⟩ := isaNum_range h
  have hv := isaOk_iff.1 h
  have HV := Lib.hid hv
  have DE := Lib.hid (isaDec_enc h)
  obtain ⟨p, hp⟩ : ∃ p, p = isaNum a b c d := ⟨_, rfl⟩
  rw [← hp] at s0 s1 s2 DE
  have S2 := Lib.hid s2
  have HP := Lib.hid hp
  clear hp s2 s3 s4 s5 s8 hv
  clear h
  have ED := isaEnc_dec h0 h1 hd
  obtain ⟨x0, hx0⟩ : ∃ x, x = (isaDec v).1 := ⟨_, rfl⟩
  obtain ⟨x1, hx1⟩ : ∃ x, x = (isaDec v).2.1 := ⟨_, rfl⟩
  obtain ⟨x2, hx2⟩ : ∃ x, x = (isaDec v).2.2.1 := ⟨_, rfl⟩
  obtain ⟨x3, hx3⟩ : ∃ x, x = (isaDec v).2.2.2 := ⟨_, rfl⟩
  rw [← hx0, ← hx1, ← hx2, ← hx3] at ED
  have E1 := Lib.hid ED.1
  have E2 := Lib.hid ED.2
  have H0 := Lib.hid hx0
  have H1 := Lib.hid hx1
  have H2 := Lib.hid hx2
  have H3 := Lib.hid hx3
  have HD := Lib.hid hd
  clear ED hx0 hx1 hx2 hx3 hd
  go_enter Tryd.func4, Tryd.ntmps4
  go_wp2_with fail
  refine (isaEncode _ _ _ _ _).mono ?_
  rintro e w1 ⟨rfl, hb1⟩
  rw [isaEnc, H.out, show errW (isaErr true) = .nilIface from rfl, if_pos rfl, ← HP.out]
  have Hb1 := Lib.hid hb1
  obtain ⟨hc1, hf1, hz1⟩ := bcell hb1
  try simp only [World.size_alloc, World.size_setCell, World.size_drew, size_drewN] at hc1 hf1 hz1
  clear hb1
  have hz1__ : w.heap.size < w1.heap.size := by omega
  go_wp2_with fail
  refine (isaDecode _ s0 s1 _).mono ?_
  rintro e w2 ⟨rfl, hb2⟩
  rw [DE.out, show errW (isaErr (decide (p / 16777216 < 42))) = .nilIface by rw [S2.out, decide_eq_true HV.out.2.1]; rfl]; simp only [insV]
  have Hb2 := Lib.hid hb2
  obtain ⟨hc2, hf2, hz2⟩ := bcell hb2
  try simp only [World.size_alloc, World.size_setCell, World.size_drew, size_drewN] at hc2 hf2 hz2
  clear hb2
  have hz2__ : w.heap.size < w2.heap.size := by omega
  go_wp2_with fail
  refine (isaDecode _ h0 h1 _).mono ?_
  rintro e w3 ⟨rfl, hb3⟩
  rw [decide_eq_true HD.out, show errW (isaErr true) = .nilIface from rfl, ← H0.out, ← H1.out, ← H2.out, ← H3.out]; simp only [insV]
  have Hb3 := Lib.hid hb3
  obtain ⟨hc3, hf3, hz3⟩ := bcell hb3
  try simp only [World.size_alloc, World.size_setCell, World.size_drew, size_drewN] at hc3 hf3 hz3
  clear hb3
  have hz3__ : w.heap.size < w3.heap.size := by omega
  have hz3_2 : w2.heap.size < w3.heap.size := by omega
  go_wp2_with fail
  refine (isaEncode _ _ _ _ _).mono ?_
  rintro e w4 ⟨rfl, hb4⟩
  rw [isaEnc, E1.out, E2.out, show errW (isaErr true) = .nilIface from rfl, if_pos rfl]
  have Hb4 := Lib.hid hb4
  obtain ⟨hc4, hf4, hz4⟩ := bcell hb4
  try simp only [World.size_alloc, World.size_setCell, World.size_drew, size_drewN] at hc4 hf4 hz4
  clear hb4
  have hz4__ : w.heap.size < w4.heap.size := by omega
  have hz4_2 : w2.heap.size < w4.heap.size := by omega
  have hz4_3 : w3.heap.size < w4.heap.size := by omega
  go_wp2_with fail
  refine (isaCheck _ _ _ _ _).mono ?_
  rintro e w5 ⟨rfl, hb5⟩
  rw [E1.out, show errW (isaErr true) = .nilIface from rfl]
  have Hb5 := Lib.hid hb5
  obtain ⟨hc5, hf5, hz5⟩ := bcell hb5
  try simp only [World.size_alloc, World.size_setCell, World.size_drew, size_drewN] at hc5 hf5 hz5
  clear hb5
  have hz5__ : w.heap.size < w5.heap.size := by omega
  have hz5_2 : w2.heap.size < w5.heap.size := by omega
  have hz5_3 : w3.heap.size < w5.heap.size := by omega
  go_wp2_with fail
  refine (isaSure _).mono ?_
  rintro e w6 ⟨rfl, hb6⟩
  have Hb6 := Lib.hid hb6
  obtain ⟨hc6, hf6, hz6⟩ := bcell hb6
  try simp only [World.size_alloc, World.size_setCell, World.size_drew, size_drewN] at hc6 hf6 hz6
  clear hb6
  have hz6__ : w.heap.size < w6.heap.size := by omega
  have hz6_2 : w2.heap.size < w6.heap.size := by omega
  have hz6_3 : w3.heap.size < w6.heap.size := by omega
  go_wp2
  go_ret
  exact ⟨rfl, (by repeat (first | exact Below.refl _ _ | refine ba ?_ _ | refine bd ?_ | refine bdN ?_ _ | refine btH ?_ (by assumption) | refine bs ?_ (by simp; done) _ | refine bs ?_ (by simp; omega) _))⟩

set_option maxHeartbeats 2000000 in
theorem isaBackWalk_tf (a b c d v : Int) (h : isaOk a b c d = true) (h0 : 0 ≤ v) (h1 : v < 4294967296) (hd : 704643072 ≤ v) (w : World) (hg : EW w) :
    Calls Tryd.prog 4 #[.agg #[.int .i64 a, .int .i64 b, .int .i64 c, .int .i64 d], .int .u32 v] w fun e w' => e = .returned (.bool true) ∧ Below w.heap.size w w' := by
  have HG := Lib.hid hg
  clear hg
  have H := Lib.hid h
  obtain ⟨s0, s1, s2, s3, s4, s5, s8⟩ := isaNum_range h
  have hv := isaOk_iff.1 h
  have HV := Lib.hid hv
  have DE := Lib.hid (isaDec_enc h)
  obtain ⟨p, hp⟩ : ∃ p, p = isaNum a b c d := ⟨_, rfl⟩
  rw [← hp] at s0 s1 s2 DE
  have S2 := Lib.hid s2
  have HP := Lib.hid hp
  clear hp s2 s3 s4 s5 s8 hv
  clear h
  have HD := Lib.hid hd
  go_enter Tryd.func4, Tryd.ntmps4
  go_wp2_with fail
  refine (isaEncode _ _ _ _ _).mono ?_
  rintro e w1 ⟨rfl, hb1⟩
  rw [isaEnc, H.out, show errW (isaErr true) = .nilIface from rfl, if_pos rfl, ← HP.out]
  have Hb1 := Lib.hid hb1
  obtain ⟨hc1, hf1, hz1⟩ := bcell hb1
  try simp only [World.size_alloc, World.size_setCell, World.size_drew, size_drewN] at hc1 hf1 hz1
  clear hb1
  have hz1__ : w.heap.size < w1.heap.size := by omega
  go_wp2_with fail
  refine (isaDecode _ s0 s1 _).mono ?_
  rintro e w2 ⟨rfl, hb2⟩
  rw [DE.out, show errW (isaErr (decide (p / 16777216 < 42))) = .nilIface by rw [S2.out, decide_eq_true HV.out.2.1]; rfl]; simp only [insV]
  have Hb2 := Lib.hid hb2
  obtain ⟨hc2, hf2, hz2⟩ := bcell hb2
  try simp only [World.size_alloc, World.size_setCell, World.size_drew, size_drewN] at hc2 hf2 hz2
  clear hb2
  have hz2__ : w.heap.size < w2.heap.size := by omega
  go_wp2_with fail
  refine (isaDecode _ h0 h1 _).mono ?_
  rintro e w3 ⟨rfl, hb3⟩
  rw [show isaDec v = (0, 0, 0, 0) by have := HD.out; unfold isaDec; rw [if_neg (by omega)], show decide (v / 16777216 < 42) = false by have := HD.out; exact decide_eq_false (by omega), show errW (isaErr false) = .iface 58 (.int .i64 22) from rfl]; simp only [insV]
  have Hb3 := Lib.hid hb3
  obtain ⟨hc3, hf3, hz3⟩ := bcell hb3
  try simp only [World.size_alloc, World.size_setCell, World.size_drew, size_drewN] at hc3 hf3 hz3
  clear hb3
  have hz3__ : w.heap.size < w3.heap.size := by omega
  have hz3_2 : w2.heap.size < w3.heap.size := by omega
  go_wp2_with fail
  refine (num_calls (some 22) _ (HG.out.below' (by repeat (first | exact Below.refl _ _ | refine ba ?_ _ | refine bd ?_ | refine bdN ?_ _ | refine btH ?_ (by assumption) | refine bs ?_ (by simp; done) _ | refine bs ?_ (by simp; omega) _)))).mono ?_
  rintro e w4 ⟨rfl, hb4⟩
  rw [show numOf (some 22) = 22 from rfl]
  have Hb4 := Lib.hid hb4
  obtain ⟨hc4, hf4, hz4⟩ := bcell hb4
  try simp only [World.size_alloc, World.size_setCell, World.size_drew, size_drewN] at hc4 hf4 hz4
  clear hb4
  have hz4__ : w.heap.size < w4.heap.size := by omega
  have hz4_2 : w2.heap.size < w4.heap.size := by omega
  have hz4_3 : w3.heap.size < w4.heap.size := by omega
  go_wp2_with fail
  refine (isaSure _).mono ?_
  rintro e w5 ⟨rfl, hb5⟩
  have Hb5 := Lib.hid hb5
  obtain ⟨hc5, hf5, hz5⟩ := bcell hb5
  try simp only [World.size_alloc, World.size_setCell, World.size_drew, size_drewN] at hc5 hf5 hz5
  clear hb5
  have hz5__ : w.heap.size < w5.heap.size := by omega
  have hz5_2 : w2.heap.size < w5.heap.size := by omega
  have hz5_3 : w3.heap.size < w5.heap.size := by omega
  go_wp2
  go_ret
  exact ⟨rfl, (by repeat (first | exact Below.refl _ _ | refine ba ?_ _ | refine bd ?_ | refine bdN ?_ _ | refine btH ?_ (by assumption) | refine bs ?_ (by simp; done) _ | refine bs ?_ (by simp; omega) _))⟩

set_option maxHeartbeats 2000000 in
theorem isaBackWalk_ft (a b c d v : Int) (h : isaOk a b c d = false) (h0 : 0 ≤ v) (h1 : v < 4294967296) (hd : v / 16777216 < 42) (w : World) (hg : EW w) :
    Calls Tryd.prog 4 #[.agg #[.int .i64 a, .int .i64 b, .int .i64 c, .int .i64 d], .int .u32 v] w fun e w' => e = .returned (.bool true) ∧ Below w.heap.size w w' := by
  have HG := Lib.hid hg
  clear hg
  have H := Lib.hid h
  clear h
  have ED := isaEnc_dec h0 h1 hd
  obtain ⟨x0, hx0⟩ : ∃ x, x = (isaDec v).1 := ⟨_, rfl⟩
  obtain ⟨x1, hx1⟩ : ∃ x, x = (isaDec v).2.1 := ⟨_, rfl⟩
  obtain ⟨x2, hx2⟩ : ∃ x, x = (isaDec v).2.2.1 := ⟨_, rfl⟩
  obtain ⟨x3, hx3⟩ : ∃ x, x = (isaDec v).2.2.2 := ⟨_, rfl⟩
  rw [← hx0, ← hx1, ← hx2, ← hx3] at ED
  have E1 := Lib.hid ED.1
  have E2 := Lib.hid ED.2
  have H0 := Lib.hid hx0
  have H1 := Lib.hid hx1
  have H2 := Lib.hid hx2
  have H3 := Lib.hid hx3
  have HD := Lib.hid hd
  clear ED hx0 hx1 hx2 hx3 hd
  go_enter Tryd.func4, Tryd.ntmps4
  go_wp2_with fail
  refine (isaEncode _ _ _ _ _).mono ?_
  rintro e w1 ⟨rfl, hb1⟩
  rw [isaEnc, H.out, show errW (isaErr false) = .iface 58 (.int .i64 22) from rfl, if_neg (by decide)]
  have Hb1 := Lib.hid hb1
  obtain ⟨hc1, hf1, hz1⟩ := bcell hb1
  try simp only [World.size_alloc, World.size_setCell, World.size_drew, size_drewN] at hc1 hf1 hz1
  clear hb1
  have hz1__ : w.heap.size < w1.heap.size := by omega
  go_wp2_with fail
  refine (isaDecode _ h0 h1 _).mono ?_
  rintro e w3 ⟨rfl, hb3⟩
  rw [decide_eq_true HD.out, show errW (isaErr true) = .nilIface from rfl, ← H0.out, ← H1.out, ← H2.out, ← H3.out]; simp only [insV]
  have Hb3 := Lib.hid hb3
  obtain ⟨hc3, hf3, hz3⟩ := bcell hb3
  try simp only [World.size_alloc, World.size_setCell, World.size_drew, size_drewN] at hc3 hf3 hz3
  clear hb3
  have hz3__ : w.heap.size < w3.heap.size := by omega
  go_wp2_with fail
  refine (isaEncode _ _ _ _ _).mono ?_
  rintro e w4 ⟨rfl, hb4⟩
  rw [isaEnc, E1.out, E2.out, show errW (isaErr true) = .nilIface from rfl, if_pos rfl]
  have Hb4 := Lib.hid hb4
  obtain ⟨hc4, hf4, hz4⟩ := bcell hb4
  try simp only [World.size_alloc, World.size_setCell, World.size_drew, size_drewN] at hc4 hf4 hz4
  clear hb4
  have hz4__ : w.heap.size < w4.heap.size := by omega
  have hz4_3 : w3.heap.size < w4.heap.size := by omega
  go_wp2_with fail
  refine (isaCheck _ _ _ _ _).mono ?_
  rintro e w5 ⟨rfl, hb5⟩
  rw [E1.out, show errW (isaErr true) = .nilIface from rfl]
  have Hb5 := Lib.hid hb5
  obtain ⟨hc5, hf5, hz5⟩ := bcell hb5
  try simp only [World.size_alloc, World.size_setCell, World.size_drew, size_drewN] at hc5 hf5 hz5
  clear hb5
  have hz5__ : w.heap.size < w5.heap.size := by omega
  have hz5_3 : w3.heap.size < w5.heap.size := by omega
  go_wp2_with fail
  refine (isaSure _).mono ?_
  rintro e w6 ⟨rfl, hb6⟩
  have Hb6 := Lib.hid hb6
  obtain ⟨hc6, hf6, hz6⟩ := bcell hb6
  try simp only [World.size_alloc, World.size_setCell, World.size_drew, size_drewN] at hc6 hf6 hz6
  clear hb6
  have hz6__ : w.heap.size < w6.heap.size := by omega
  have hz6_3 : w3.heap.size < w6.heap.size := by omega
  go_wp2
  go_ret
  exact ⟨rfl, (by repeat (first | exact Below.refl _ _ | refine ba ?_ _ | refine bd ?_ | refine bdN ?_ _ | refine btH ?_ (by assumption) | refine bs ?_ (by simp; done) _ | refine bs ?_ (by simp; omega) _))⟩

set_option maxHeartbeats 2000000 in
theorem isaBackWalk_ff (a b c d v : Int) (h : isaOk a b c d = false) (h0 : 0 ≤ v) (h1 : v < 4294967296) (hd : 704643072 ≤ v) (w : World) (hg : EW w) :
    Calls Tryd.prog 4 #[.agg #[.int .i64 a, .int .i64 b, .int .i64 c, .int .i64 d], .int .u32 v] w fun e w' => e = .returned (.bool true) ∧ Below w.heap.size w w' := by
  have HG := Lib.hid hg
  clear hg
  have H := Lib.hid h
  clear h
  have HD := Lib.hid hd
  go_enter Tryd.func4, Tryd.ntmps4
  go_wp2_with fail
  refine (isaEncode _ _ _ _ _).mono ?_
  rintro e w1 ⟨rfl, hb1⟩
  rw [isaEnc, H.out, show errW (isaErr false) = .iface 58 (.int .i64 22) from rfl, if_neg (by decide)]
  have Hb1 := Lib.hid hb1
  obtain ⟨hc1, hf1, hz1⟩ := bcell hb1
  try simp only [World.size_alloc, World.size_setCell, World.size_drew, size_drewN] at hc1 hf1 hz1
  clear hb1
  have hz1__ : w.heap.size < w1.heap.size := by omega
  go_wp2_with fail
  refine (isaDecode _ h0 h1 _).mono ?_
  rintro e w3 ⟨rfl, hb3⟩
  rw [show isaDec v = (0, 0, 0, 0) by have := HD.out; unfold isaDec; rw [if_neg (by omega)], show decide (v / 16777216 < 42) = false by have := HD.out; exact decide_eq_false (by omega), show errW (isaErr false) = .iface 58 (.int .i64 22) from rfl]; simp only [insV]
  have Hb3 := Lib.hid hb3
  obtain ⟨hc3, hf3, hz3⟩ := bcell hb3
  try simp only [World.size_alloc, World.size_setCell, World.size_drew, size_drewN] at hc3 hf3 hz3
  clear hb3
  have hz3__ : w.heap.size < w3.heap.size := by omega
  go_wp2_with fail
  refine (num_calls (some 22) _ (HG.out.below' (by repeat (first | exact Below.refl _ _ | refine ba ?_ _ | refine bd ?_ | refine bdN ?_ _ | refine btH ?_ (by assumption) | refine bs ?_ (by simp; done) _ | refine bs ?_ (by simp; omega) _)))).mono ?_
  rintro e w4 ⟨rfl, hb4⟩
  rw [show numOf (some 22) = 22 from rfl]
  have Hb4 := Lib.hid hb4
  obtain ⟨hc4, hf4, hz4⟩ := bcell hb4
  try simp only [World.size_alloc, World.size_setCell, World.size_drew, size_drewN] at hc4 hf4 hz4
  clear hb4
  have hz4__ : w.heap.size < w4.heap.size := by omega
  have hz4_3 : w3.heap.size < w4.heap.size := by omega
  go_wp2_with fail
  refine (isaSure _).mono ?_
  rintro e w5 ⟨rfl, hb5⟩
  have Hb5 := Lib.hid hb5
  obtain ⟨hc5, hf5, hz5⟩ := bcell hb5
  try simp only [World.size_alloc, World.size_setCell, World.size_drew, size_drewN] at hc5 hf5 hz5
  clear hb5
  have hz5__ : w.heap.size < w5.heap.size := by omega
  have hz5_3 : w3.heap.size < w5.heap.size := by omega
  go_wp2
  go_ret
  exact ⟨rfl, (by repeat (first | exact Below.refl _ _ | refine ba ?_ _ | refine bd ?_ | refine bdN ?_ _ | refine btH ?_ (by assumption) | refine bs ?_ (by simp; done) _ | refine bs ?_ (by simp; omega) _))⟩

theorem isaBackWalk (a b c d v : Int) (h0 : 0 ≤ v) (h1 : v < 4294967296) (w : World) (hg : EW w) :
    Calls Tryd.prog 4 #[.agg #[.int .i64 a, .int .i64 b, .int .i64 c, .int .i64 d], .int .u32 v] w fun e w' => e = .returned (.bool true) ∧ Below w.heap.size w w' := by
  by_cases hd : v / 16777216 < 42 <;> cases h : isaOk a b c d
  · exact isaBackWalk_ft a b c d v h h0 h1 hd w hg
  · exact isaBackWalk_tt a b c d v h h0 h1 hd w hg
  · exact isaBackWalk_ff a b c d v h h0 h1 (by omega) w hg
  · exact isaBackWalk_tf a b c d v h h0 h1 (by omega) w hg
end Go.Proofs.YtlhmnkhfobpjjaaDoor
