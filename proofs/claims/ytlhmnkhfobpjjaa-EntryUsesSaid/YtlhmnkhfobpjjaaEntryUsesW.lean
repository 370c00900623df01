/- The walk of EntryUses. -/
import Derived.Test.YtlhmnkhfobpjjaaEntrySure
namespace Go.Proofs.Ytlhmnkhfobpjjaa
set_option linter.unusedSimpArgs false
set_option linter.unusedVariables false
open Go Go.RowKit

set_option maxHeartbeats 2000000 in
theorem entryUsesWalk (f p use : Int) (c : Bool) (hp : 0 ≤ p) (hp1 : p < 256) (w : World) :
    Calls Try.prog 4 #[.agg #[.int .i64 f, .int .u8 p, .bool c], .int .u8 use] w fun e w' => e = .returned (.bool true) ∧ Below w.heap.size w w' := by
  cases h : entOk f p
  · have e := Lib.hid (show entMay f p use = false by rw [entMay, h]; simp)
    have H := Lib.hid h
    clear h
    go_enter Try.func4, Try.ntmps4
    go_wp2_with fail
    refine (entMayW _ _ _ _ hp hp1 _).mono ?_
    rintro e w1 ⟨rfl, hb1⟩
    rw [e.out]
    have Hb1 := Lib.hid hb1
    obtain ⟨hc1, hf1, hz1⟩ := bcell hb1
    try simp only [World.size_alloc, World.size_setCell, World.size_drew, size_drewN] at hc1 hf1 hz1
    clear hb1
    have hz1__ : w.heap.size < w1.heap.size := by omega
    have hz1__1 : w.heap.size + 1 < w1.heap.size := by omega
    have hz1__2 : w.heap.size + 2 < w1.heap.size := by omega
    go_wp2_with fail
    refine (entCheck _ _ _ _).mono ?_
    rintro e w2 ⟨rfl, hb2⟩
    rw [H.out, show errW (argErr false) = .iface 44 (.int .i64 22) from rfl]
    have Hb2 := Lib.hid hb2
    obtain ⟨hc2, hf2, hz2⟩ := bcell hb2
    try simp only [World.size_alloc, World.size_setCell, World.size_drew, size_drewN] at hc2 hf2 hz2
    clear hb2
    have hz2__ : w.heap.size < w2.heap.size := by omega
    have hz2__1 : w.heap.size + 1 < w2.heap.size := by omega
    have hz2__2 : w.heap.size + 2 < w2.heap.size := by omega
    go_wp2_with fail
    refine (entSure _).mono ?_
    rintro e w3 ⟨rfl, hb3⟩
    have Hb3 := Lib.hid hb3
    obtain ⟨hc3, hf3, hz3⟩ := bcell hb3
    try simp only [World.size_alloc, World.size_setCell, World.size_drew, size_drewN] at hc3 hf3 hz3
    clear hb3
    have hz3__ : w.heap.size < w3.heap.size := by omega
    have hz3__1 : w.heap.size + 1 < w3.heap.size := by omega
    have hz3__2 : w.heap.size + 2 < w3.heap.size := by omega
    go_wp2
    go_ret
    exact ⟨rfl, (by repeat (first | exact Below.refl _ _ | refine ba ?_ _ | refine bd ?_ | refine bdN ?_ _ | refine btH ?_ (by assumption) | refine bs ?_ (by simp; done) _ | refine bs ?_ (by simp; omega) _))⟩
  · have h7 : entOk 7 p = true := by have := entOk_iff.1 h; exact entOk_iff.2 (by omega)
    have e7 : entMay 7 p use = entMay f p use := by rw [entMay, entMay, h, h7]
    have e1 : (bits .and .u8 p 1 != 0) = decide (p / 1 % 2 = 1) := u8_bit_ne 0 (by omega) p hp hp1
    have e2 : (bits .and .u8 p 2 != 0) = decide (p / 2 % 2 = 1) := u8_bit_ne 1 (by omega) p hp hp1
    have e4 : (bits .and .u8 p 4 != 0) = decide (p / 4 % 2 = 1) := u8_bit_ne 2 (by omega) p hp hp1
    have H := Lib.hid h
    have E7 := Lib.hid e7
    by_cases hu : use = 1 ∨ use = 2 ∨ use = 4
    · have em : entMay f p use = (bits .and .u8 p use != 0) := by
        rw [entMay, h]
        rcases hu with rfl | rfl | rfl
        · rw [e1]; simp
        · rw [e2]; simp
        · rw [e4]; simp
      have EM := Lib.hid em
      clear h h7 e7 e1 e2 e4 em
      rcases hu with rfl | rfl | rfl
      all_goals
        cases hb : entMay f p _
        all_goals
          have eb := EM.out
          rw [hb] at eb
          have eb' := eb.symm
          have HB := Lib.hid hb
          clear eb hb
          go_enter Try.func4, Try.ntmps4
          go_wp2_with fail
          refine (entMayW _ _ _ _ hp hp1 _).mono ?_
          rintro e w1 ⟨rfl, hb1⟩
          rw [HB.out]
          have Hb1 := Lib.hid hb1
          obtain ⟨hc1, hf1, hz1⟩ := bcell hb1
          try simp only [World.size_alloc, World.size_setCell, World.size_drew, size_drewN] at hc1 hf1 hz1
          clear hb1
          have hz1__ : w.heap.size < w1.heap.size := by omega
          have hz1__1 : w.heap.size + 1 < w1.heap.size := by omega
          have hz1__2 : w.heap.size + 2 < w1.heap.size := by omega
          go_wp2_with fail
          refine (entCheck _ _ _ _).mono ?_
          rintro e w2 ⟨rfl, hb2⟩
          rw [H.out, show errW (argErr true) = .nilIface from rfl]
          have Hb2 := Lib.hid hb2
          obtain ⟨hc2, hf2, hz2⟩ := bcell hb2
          try simp only [World.size_alloc, World.size_setCell, World.size_drew, size_drewN] at hc2 hf2 hz2
          clear hb2
          have hz2__ : w.heap.size < w2.heap.size := by omega
          have hz2__1 : w.heap.size + 1 < w2.heap.size := by omega
          have hz2__2 : w.heap.size + 2 < w2.heap.size := by omega
          go_wp2_with fail
          refine (entMayW _ _ _ _ hp hp1 _).mono ?_
          rintro e w3 ⟨rfl, hb3⟩
          rw [E7.out, HB.out]
          have Hb3 := Lib.hid hb3
          obtain ⟨hc3, hf3, hz3⟩ := bcell hb3
          try simp only [World.size_alloc, World.size_setCell, World.size_drew, size_drewN] at hc3 hf3 hz3
          clear hb3
          have hz3__ : w.heap.size < w3.heap.size := by omega
          have hz3__1 : w.heap.size + 1 < w3.heap.size := by omega
          have hz3__2 : w.heap.size + 2 < w3.heap.size := by omega
          go_wp2_with fail
          refine (entSure _).mono ?_
          rintro e w4 ⟨rfl, hb4⟩
          have Hb4 := Lib.hid hb4
          obtain ⟨hc4, hf4, hz4⟩ := bcell hb4
          try simp only [World.size_alloc, World.size_setCell, World.size_drew, size_drewN] at hc4 hf4 hz4
          clear hb4
          have hz4__ : w.heap.size < w4.heap.size := by omega
          have hz4__1 : w.heap.size + 1 < w4.heap.size := by omega
          have hz4__2 : w.heap.size + 2 < w4.heap.size := by omega
          go_wp2
          go_ret
          exact ⟨rfl, (by repeat (first | exact Below.refl _ _ | refine ba ?_ _ | refine bd ?_ | refine bdN ?_ _ | refine btH ?_ (by assumption) | refine bs ?_ (by simp; done) _ | refine bs ?_ (by simp; omega) _))⟩
    · have em : entMay f p use = false := by rw [entMay, decide_eq_false (fun h => hu h.1)]
      have HB := Lib.hid em
      have h1 : (use == 1) = false := beq_false_of_ne (by omega)
      have h2 : (use == 2) = false := beq_false_of_ne (by omega)
      have h4 : (use == 4) = false := beq_false_of_ne (by omega)
      clear h h7 e7 e1 e2 e4 em hu
      go_enter Try.func4, Try.ntmps4
      go_wp2_with fail
      refine (entMayW _ _ _ _ hp hp1 _).mono ?_
      rintro e w1 ⟨rfl, hb1⟩
      rw [HB.out]
      have Hb1 := Lib.hid hb1
      obtain ⟨hc1, hf1, hz1⟩ := bcell hb1
      try simp only [World.size_alloc, World.size_setCell, World.size_drew, size_drewN] at hc1 hf1 hz1
      clear hb1
      have hz1__ : w.heap.size < w1.heap.size := by omega
      have hz1__1 : w.heap.size + 1 < w1.heap.size := by omega
      have hz1__2 : w.heap.size + 2 < w1.heap.size := by omega
      go_wp2_with fail
      refine (entCheck _ _ _ _).mono ?_
      rintro e w2 ⟨rfl, hb2⟩
      rw [H.out, show errW (argErr true) = .nilIface from rfl]
      have Hb2 := Lib.hid hb2
      obtain ⟨hc2, hf2, hz2⟩ := bcell hb2
      try simp only [World.size_alloc, World.size_setCell, World.size_drew, size_drewN] at hc2 hf2 hz2
      clear hb2
      have hz2__ : w.heap.size < w2.heap.size := by omega
      have hz2__1 : w.heap.size + 1 < w2.heap.size := by omega
      have hz2__2 : w.heap.size + 2 < w2.heap.size := by omega
      go_wp2_with fail
      refine (entMayW _ _ _ _ hp hp1 _).mono ?_
      rintro e w3 ⟨rfl, hb3⟩
      rw [E7.out, HB.out]
      have Hb3 := Lib.hid hb3
      obtain ⟨hc3, hf3, hz3⟩ := bcell hb3
      try simp only [World.size_alloc, World.size_setCell, World.size_drew, size_drewN] at hc3 hf3 hz3
      clear hb3
      have hz3__ : w.heap.size < w3.heap.size := by omega
      have hz3__1 : w.heap.size + 1 < w3.heap.size := by omega
      have hz3__2 : w.heap.size + 2 < w3.heap.size := by omega
      go_wp2_with fail
      refine (entSure _).mono ?_
      rintro e w4 ⟨rfl, hb4⟩
      have Hb4 := Lib.hid hb4
      obtain ⟨hc4, hf4, hz4⟩ := bcell hb4
      try simp only [World.size_alloc, World.size_setCell, World.size_drew, size_drewN] at hc4 hf4 hz4
      clear hb4
      have hz4__ : w.heap.size < w4.heap.size := by omega
      have hz4__1 : w.heap.size + 1 < w4.heap.size := by omega
      have hz4__2 : w.heap.size + 2 < w4.heap.size := by omega
      go_wp2
      go_ret
      exact ⟨rfl, (by repeat (first | exact Below.refl _ _ | refine ba ?_ _ | refine bd ?_ | refine bdN ?_ _ | refine btH ?_ (by assumption) | refine bs ?_ (by simp; done) _ | refine bs ?_ (by simp; omega) _))⟩
end Go.Proofs.Ytlhmnkhfobpjjaa
