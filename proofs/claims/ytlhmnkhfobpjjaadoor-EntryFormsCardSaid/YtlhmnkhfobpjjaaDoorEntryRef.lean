/- The walks of the reference of chapter 6. -/
import Derived.Test.YtlhmnkhfobpjjaaDoorEntry
namespace Go.Proofs.YtlhmnkhfobpjjaaDoor
set_option linter.unusedSimpArgs false
set_option linter.unusedVariables false
open Go Go.RowKit

theorem refEntMay (f p : Int) (c : Bool) (w : World) :
    Calls Tryd.prog 25 #[.agg #[.int .i64 f, .int .u8 p, .bool c]] w fun e w' => e = .returned (.bool (entOk f p)) ∧ Below w.heap.size w w' := by
  cases h : entOk f p
  all_goals
    simp only [entOk, decide_eq_true_eq, decide_eq_false_iff_not] at h
    have H := Lib.hid h
    clear h
    go_enter Tryd.func25, Tryd.ntmps25
    go_wp2
    all_goals
      have h' := H.out
      first
      | (exfalso; omega)
      | (go_ret; refine ⟨?_, (by repeat (first | exact Below.refl _ _ | refine ba ?_ _ | refine bd ?_ | refine bdN ?_ _ | refine btH ?_ (by assumption) | refine bs ?_ (by simp; done) _ | refine bs ?_ (by simp; omega) _))⟩; first | rfl | (show Ending.returned (.bool (decide _)) = _; congr 2; simp; omega))

set_option maxHeartbeats 1000000 in
theorem refEntEncode (f p : Int) (c : Bool) (hp : 0 ≤ p) (hp1 : p < 256) (w : World) :
    Calls Tryd.prog 15 #[.agg #[.int .i64 f, .int .u8 p, .bool c]] w fun e w' => e = .returned (.tuple #[.int .u32 (entEnc f p c), .int .i64 (numOf (argErr (entOk f p)))]) ∧ Below w.heap.size w w' := by
  cases h : entOk f p
  · have H := Lib.hid h
    clear h
    go_enter Tryd.func15, Tryd.ntmps15
    go_wp2_with fail
    refine (refEntMay _ _ _ _).mono ?_
    rintro e w1 ⟨rfl, hb1⟩
    rw [H.out]
    have Hb1 := Lib.hid hb1
    obtain ⟨hc1, hf1, hz1⟩ := bcell hb1
    try simp only [World.size_alloc, World.size_setCell, World.size_drew, size_drewN] at hc1 hf1 hz1
    clear hb1
    have hz1__ : w.heap.size < w1.heap.size := by omega
    go_wp2
    go_ret2
    exact ⟨by rw [entEnc, H.out]; rfl, (by repeat (first | exact Below.refl _ _ | refine ba ?_ _ | refine bd ?_ | refine bdN ?_ _ | refine btH ?_ (by assumption) | refine bs ?_ (by simp; done) _ | refine bs ?_ (by simp; omega) _))⟩
  · obtain ⟨h0, h1, h2⟩ := entOk_iff.1 h
    have H := Lib.hid h
    clear h
    cases c
    all_goals
      go_enter Tryd.func15, Tryd.ntmps15
      go_wp2_with fail
      refine (refEntMay _ _ _ _).mono ?_
      rintro e w1 ⟨rfl, hb1⟩
      rw [H.out]
      have Hb1 := Lib.hid hb1
      obtain ⟨hc1, hf1, hz1⟩ := bcell hb1
      try simp only [World.size_alloc, World.size_setCell, World.size_drew, size_drewN] at hc1 hf1 hz1
      clear hb1
      have hz1__ : w.heap.size < w1.heap.size := by omega
      go_wp2
      go_ret2
      refine ⟨ret2 (vint ?_) rfl, (by repeat (first | exact Below.refl _ _ | refine ba ?_ _ | refine bd ?_ | refine bdN ?_ _ | refine btH ?_ (by assumption) | refine bs ?_ (by simp; done) _ | refine bs ?_ (by simp; omega) _))⟩
      rw [entEnc, H.out, if_pos rfl, entNum]; simp; omega

set_option maxHeartbeats 1000000 in
theorem refEntDecode (v : Int) (h0 : 0 ≤ v) (h1 : v < 4294967296) (w : World) :
    Calls Tryd.prog 17 #[.int .u32 v] w fun e w' => e = .returned (.tuple #[entDecV v, .bool (isEnt v), .int .i64 (numOf (entDecE v))]) ∧ Below w.heap.size w w' := by
  by_cases hz : v = 0
  · subst hz
    go_enter Tryd.func17, Tryd.ntmps17
    go_wp2
    exact bodyPost_ret (v := .tuple #[.agg #[.int .i64 0, .int .u8 0, .bool false], .bool false, .int .i64 0]) (by simp [results, Tryd.results17, go_sem]) rfl ⟨rfl, (by repeat (first | exact Below.refl _ _ | refine ba ?_ _ | refine bd ?_ | refine bdN ?_ _ | refine btH ?_ (by assumption) | refine bs ?_ (by simp; done) _ | refine bs ?_ (by simp; omega) _))⟩
  · have hz' : (v == 0) = false := beq_false_of_ne hz
    have e2 : decide (8 ≤ v % 16) = decide (v / 8 % 2 = 1) := by congr 1; simp; omega
    have E2 := Lib.hid e2
    clear e2
    cases h : isEnt v
    · have H := Lib.hid h
      have h' : ¬ (v / 256 < 1024 ∧ v % 256 / 16 = 8) := by simpa [isEnt] using h
      have H' := Lib.hid h'
      clear h h'
      go_enter Tryd.func17, Tryd.ntmps17
      go_wp2
      all_goals
        have h' := H'.out
        first
        | (exfalso; omega)
        | exact bodyPost_ret (v := .tuple #[.agg #[.int .i64 0, .int .u8 0, .bool false], .bool false, .int .i64 22]) (by simp [results, Tryd.results17, go_sem]) rfl ⟨by rw [entDecV, entDecE, H.out, decide_eq_false hz]; rfl, (by repeat (first | exact Below.refl _ _ | refine ba ?_ _ | refine bd ?_ | refine bdN ?_ _ | refine btH ?_ (by assumption) | refine bs ?_ (by simp; done) _ | refine bs ?_ (by simp; omega) _))⟩
    · have H := Lib.hid h
      have h' : v / 256 < 1024 ∧ v % 256 / 16 = 8 := by simpa [isEnt] using h
      have a1 : ¬ v / 256 > 1023 := by omega
      have a2 : ¬ v % 256 < 128 := by omega
      have a3 : ¬ v % 256 % 128 > 15 := by omega
      have H := Lib.hid h
      clear h h'
      go_enter Tryd.func17, Tryd.ntmps17
      go_wp2
      refine bodyPost_ret (v := .tuple #[.agg #[.int .i64 (v / 256), .int .u8 (v % 8), .bool (decide (8 ≤ v % 16))], .bool true, .int .i64 0]) (by simp [results, Tryd.results17, go_sem]) rfl ⟨?_, (by repeat (first | exact Below.refl _ _ | refine ba ?_ _ | refine bd ?_ | refine bdN ?_ _ | refine btH ?_ (by assumption) | refine bs ?_ (by simp; done) _ | refine bs ?_ (by simp; omega) _))⟩
      rw [E2.out, entDecV, entDecE, H.out, decide_eq_false hz]; rfl

theorem refEntUsed (f p use : Int) (c : Bool) (hp : 0 ≤ p) (hp1 : p < 256) (hu0 : 0 ≤ use) (hu1 : use < 256) (w : World) :
    Calls Tryd.prog 21 #[.agg #[.int .i64 f, .int .u8 p, .bool c], .int .u8 use] w fun e w' => e = .returned (.bool (entMay f p use)) ∧ Below w.heap.size w w' := by
  cases h : entOk f p
  · have H := Lib.hid h
    clear h
    go_enter Tryd.func21, Tryd.ntmps21
    go_wp2_with fail
    refine (refEntMay _ _ _ _).mono ?_
    rintro e w1 ⟨rfl, hb1⟩
    rw [H.out]
    have Hb1 := Lib.hid hb1
    obtain ⟨hc1, hf1, hz1⟩ := bcell hb1
    try simp only [World.size_alloc, World.size_setCell, World.size_drew, size_drewN] at hc1 hf1 hz1
    clear hb1
    have hz1__ : w.heap.size < w1.heap.size := by omega
    go_wp2
    go_ret
    exact ⟨by rw [entMay, H.out]; simp, (by repeat (first | exact Below.refl _ _ | refine ba ?_ _ | refine bd ?_ | refine bdN ?_ _ | refine btH ?_ (by assumption) | refine bs ?_ (by simp; done) _ | refine bs ?_ (by simp; omega) _))⟩
  · have H := Lib.hid h
    clear h
    by_cases hu : use = 1 ∨ use = 2 ∨ use = 4
    · rcases hu with rfl | rfl | rfl
      all_goals
        go_enter Tryd.func21, Tryd.ntmps21
        go_wp2_with fail
        refine (refEntMay _ _ _ _).mono ?_
        rintro e w1 ⟨rfl, hb1⟩
        rw [H.out]
        have Hb1 := Lib.hid hb1
        obtain ⟨hc1, hf1, hz1⟩ := bcell hb1
        try simp only [World.size_alloc, World.size_setCell, World.size_drew, size_drewN] at hc1 hf1 hz1
        clear hb1
        have hz1__ : w.heap.size < w1.heap.size := by omega
        go_wp2
        go_ret
        refine ⟨ret1 (vbool ?_), (by repeat (first | exact Below.refl _ _ | refine ba ?_ _ | refine bd ?_ | refine bdN ?_ _ | refine btH ?_ (by assumption) | refine bs ?_ (by simp; done) _ | refine bs ?_ (by simp; omega) _))⟩
        rw [entMay, H.out]; simp
        first | done | (rw [Bool.eq_iff_iff]; simp) | skip
    · have h1 : (use != 1) = true := by rw [bne_iff_ne]; omega
      have h2 : (use != 2) = true := by rw [bne_iff_ne]; omega
      have h4 : (use != 4) = true := by rw [bne_iff_ne]; omega
      have HU := Lib.hid hu
      clear hu
      go_enter Tryd.func21, Tryd.ntmps21
      go_wp2_with fail
      refine (refEntMay _ _ _ _).mono ?_
      rintro e w1 ⟨rfl, hb1⟩
      rw [H.out]
      have Hb1 := Lib.hid hb1
      obtain ⟨hc1, hf1, hz1⟩ := bcell hb1
      try simp only [World.size_alloc, World.size_setCell, World.size_drew, size_drewN] at hc1 hf1 hz1
      clear hb1
      have hz1__ : w.heap.size < w1.heap.size := by omega
      go_wp2
      go_ret
      exact ⟨by rw [entMay, decide_eq_false (fun h => HU.out h.1)]; rfl, (by repeat (first | exact Below.refl _ _ | refine ba ?_ _ | refine bd ?_ | refine bdN ?_ _ | refine btH ?_ (by assumption) | refine bs ?_ (by simp; done) _ | refine bs ?_ (by simp; omega) _))⟩
end Go.Proofs.YtlhmnkhfobpjjaaDoor
