/- The walk of IsaParts. -/
import Derived.Test.YtlhmnkhfobpjjaaIsaSure
import Derived.Laws.Bits64
import Derived.Outline
namespace Go.Proofs.Ytlhmnkhfobpjjaa
set_option linter.unusedSimpArgs false
set_option linter.unusedVariables false
open Go Go.RowKit

theorem imm_range (m : Int) : -32768 ≤ wrap64 (wrap64 ((IntKind.u64.wrap m).tmod 65536) - 32768) ∧ wrap64 (wrap64 ((IntKind.u64.wrap m).tmod 65536) - 32768) < 32768 := by
  rw [IntKind.wrap_u64, tmod_of_emod]; unfold wrap64; omega

set_option maxHeartbeats 2000000 in
theorem isaPartsWalk (a b c d m : Int) (w : World) :
    Calls Try.prog 3 #[.agg #[.int .i64 a, .int .i64 b, .int .i64 c, .int .i64 d], .int .i64 m] w fun e w' => e = .returned (.bool true) ∧ Below w.heap.size w w' := by
  have hm := imm_range m
  obtain ⟨x, hx⟩ : ∃ x, x = wrap64 (wrap64 ((IntKind.u64.wrap m).tmod 65536) - 32768) := ⟨_, rfl⟩
  rw [← hx] at hm
  have HX := Lib.hid hx
  clear hx
  cases h : isaOk a b c d
  · have H := Lib.hid h
    clear h
    go_enter Try.func3, Try.ntmps3
    go_wp2_with fail
    refine (isaEncode _ _ _ _ _).mono ?_
    rintro e w1 ⟨rfl, hb1⟩
    rw [isaEnc, H.out, show errV (isaErr false) = .iface 44 (.int .i64 22) from rfl, if_neg (by decide)]
    have Hb1 := Lib.hid hb1
    obtain ⟨hc1, hf1, hz1⟩ := bcell hb1
    try simp only [World.size_alloc, World.size_setCell, World.size_drew, size_drewN] at hc1 hf1 hz1
    clear hb1
    have hz1__ : w.heap.size < w1.heap.size := by omega
    go_wp2_with fail
    refine (isaEncode _ _ _ _ _).mono ?_
    rintro e w2 ⟨rfl, hb2⟩
    generalize errV _ = ev
    have Hb2 := Lib.hid hb2
    obtain ⟨hc2, hf2, hz2⟩ := bcell hb2
    try simp only [World.size_alloc, World.size_setCell, World.size_drew, size_drewN] at hc2 hf2 hz2
    clear hb2
    have hz2__ : w.heap.size < w2.heap.size := by omega
    have hz2_1 : w1.heap.size < w2.heap.size := by omega
    go_wp2_with fail
    refine (isaSure _).mono ?_
    rintro e w3 ⟨rfl, hb3⟩
    have Hb3 := Lib.hid hb3
    obtain ⟨hc3, hf3, hz3⟩ := bcell hb3
    try simp only [World.size_alloc, World.size_setCell, World.size_drew, size_drewN] at hc3 hf3 hz3
    clear hb3
    have hz3__ : w.heap.size < w3.heap.size := by omega
    have hz3_1 : w1.heap.size < w3.heap.size := by omega
    go_wp2
    go_ret
    exact ⟨rfl, by repeat (first | exact Below.refl _ _ | refine ba ?_ _ | refine bd ?_ | refine bdN ?_ _ | refine btH ?_ (by assumption) | refine bs ?_ (by simp; done) _ | refine bs ?_ (by simp; omega) _)⟩
  · have hv := isaOk_iff.1 h
    have hq : isaOk a b c x = true := isaOk_iff.2 (by omega)
    obtain ⟨r0, r1, r2, r3, r4, r5, r8⟩ := isaNum_range h
    obtain ⟨s0, s1, s2, s3, s4, s5, s8⟩ := isaNum_range hq
    have hd := isaDec_enc hq
    obtain ⟨p, hp⟩ : ∃ p, p = isaNum a b c d := ⟨_, rfl⟩
    obtain ⟨q, hqq⟩ : ∃ q, q = isaNum a b c x := ⟨_, rfl⟩
    rw [← hp] at r0 r1 r2 r3 r4 r5 r8
    rw [← hqq] at s0 s1 s2 s3 s4 s5 s8 hd
    have e1 : (p / 65536 == q / 65536) = true := by rw [r8, s8]; simp
    have e2 : ((p == q) == (d == x)) = true := by
      have : p = q ↔ d = x := by rw [hp, hqq]; unfold isaNum; omega
      by_cases k : p = q
      · rw [k, this.1 k]; simp
      · have k' : ¬ d = x := fun z => k (this.2 z)
        rw [beq_false_of_ne k, beq_false_of_ne k']; rfl
    have H := Lib.hid h
    have HQ := Lib.hid hq
    have HP := Lib.hid hp
    have HQQ := Lib.hid hqq
    have HD := Lib.hid hd
    have P2 := Lib.hid r2
    have HV := Lib.hid hv
    have S2 := Lib.hid s2
    have E1 := Lib.hid e1
    have E2 := Lib.hid e2
    clear h hq hp hqq hd e1 e2 r2 r3 r4 r5 r8 s2 s3 s4 s5 s8 hv
    go_enter Try.func3, Try.ntmps3
    go_wp2_with fail
    refine (isaEncode _ _ _ _ _).mono ?_
    rintro e w1 ⟨rfl, hb1⟩
    rw [isaEnc, H.out, show errV (isaErr true) = .nilIface from rfl, if_pos rfl, ← HP.out]
    have Hb1 := Lib.hid hb1
    obtain ⟨hc1, hf1, hz1⟩ := bcell hb1
    try simp only [World.size_alloc, World.size_setCell, World.size_drew, size_drewN] at hc1 hf1 hz1
    clear hb1
    have hz1__ : w.heap.size < w1.heap.size := by omega
    go_wp2_with fail
    rw [← HX.out]
    go_wp2_with fail
    refine (isaEncode _ _ _ _ _).mono ?_
    rintro e w2 ⟨rfl, hb2⟩
    rw [isaEnc, HQ.out, show errV (isaErr true) = .nilIface from rfl, if_pos rfl, ← HQQ.out]
    have Hb2 := Lib.hid hb2
    obtain ⟨hc2, hf2, hz2⟩ := bcell hb2
    try simp only [World.size_alloc, World.size_setCell, World.size_drew, size_drewN] at hc2 hf2 hz2
    clear hb2
    have hz2__ : w.heap.size < w2.heap.size := by omega
    have hz2_1 : w1.heap.size < w2.heap.size := by omega
    go_wp2_with fail
    refine (isaDecode _ s0 s1 _).mono ?_
    rintro e w3 ⟨rfl, hb3⟩
    rw [HD.out, show errV (isaErr (decide (q / 16777216 < 42))) = .nilIface by rw [S2.out, decide_eq_true HV.out.2.1]; rfl]; simp only [insV]
    have Hb3 := Lib.hid hb3
    obtain ⟨hc3, hf3, hz3⟩ := bcell hb3
    try simp only [World.size_alloc, World.size_setCell, World.size_drew, size_drewN] at hc3 hf3 hz3
    clear hb3
    have hz3__ : w.heap.size < w3.heap.size := by omega
    have hz3_1 : w1.heap.size < w3.heap.size := by omega
    have e1 := E1.out
    have e2 := E2.out
    have e3 : wrap64 (p / 16777216) = a := by rw [P2.out]; have := HV.out; unfold wrap64; omega
    go_wp2_with fail
    refine (isaSure _).mono ?_
    rintro e w4 ⟨rfl, hb4⟩
    have Hb4 := Lib.hid hb4
    obtain ⟨hc4, hf4, hz4⟩ := bcell hb4
    try simp only [World.size_alloc, World.size_setCell, World.size_drew, size_drewN] at hc4 hf4 hz4
    clear hb4
    have hz4__ : w.heap.size < w4.heap.size := by omega
    have hz4_1 : w1.heap.size < w4.heap.size := by omega
    have hz4_3 : w3.heap.size < w4.heap.size := by omega
    go_wp2
    go_ret
    exact ⟨rfl, by repeat (first | exact Below.refl _ _ | refine ba ?_ _ | refine bd ?_ | refine bdN ?_ _ | refine btH ?_ (by assumption) | refine bs ?_ (by simp; done) _ | refine bs ?_ (by simp; omega) _)⟩
end Go.Proofs.Ytlhmnkhfobpjjaa
