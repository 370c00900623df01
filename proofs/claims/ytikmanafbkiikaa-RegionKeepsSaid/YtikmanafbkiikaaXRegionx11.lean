-- Written by xprint.py (a program of this claim's author) by means of the kit's print. Not trusted: Lean checks it.
import Derived.Test.YtikmanafbkiikaaXRegionx0
import Derived.Test.YtikmanafbkiikaaXRegionx2
import Derived.Test.YtikmanafbkiikaaXRegionx3
import Derived.Test.YtikmanafbkiikaaXRegionx6
import Derived.Test.YtikmanafbkiikaaXRegionx9
import Derived.Test.YtikmanafbkiikaaXRegionx10
namespace Go.Proofs.Ytikmanafbkiikaa.XRegion
open Go.RowKit Go.Proofs.YtikmanafbkiikaaW.PrintWords Go.Proofs.YtikmanafbkiikaaW.PrintLast Go.Proofs.YtikmanafbkiikaaW.PrintMore
attribute [local go_sem] max2_int min2_int max_two min_two max_three min_three max_four min_four   -- for this text's walks alone
set_option linter.unusedVariables false
set_option linter.unusedSimpArgs false

/-! ### halterlaw13_RegionKeeps: function 4 -/
mutual
def halterlaw13_RegionKeeps.l0 : Nat → List (S48) → List (S49) → Int → Int → Bool → Int → Option (Bool)
  | 0, _, _, _, _, _, _ => none
  | k + 1, x0, x5, x6, x7, x8, x9 => if x9 < (x0.length : Int) then (halterlaw13_RegionKeeps.j1 k x0 x5 x6 x7 x8 x9 (decide (x9 < 25))) else (halterlaw13_RegionKeeps.j1 k x0 x5 x6 x7 x8 x9 false)
def halterlaw13_RegionKeeps.j1 : Nat → List (S48) → List (S49) → Int → Int → Bool → Int → Bool → Option (Bool)
  | 0, _, _, _, _, _, _, _ => none
  | k + 1, x0, x5, x6, x7, x8, x9, x27 => if x27 = true then (if 0 ≤ x9 then (if x9 < (x0.length : Int) then (if x6 ≥ (wrap64 (Int.tmod (IntKind.u64.wrap ((rd_T48 x0 x9).f1.f0)) 64)) then (halterlaw13_RegionKeeps.j2 k x0 x5 x6 x7 x8 x9 (decide (x6 < (wrap64 ((wrap64 ((wrap64 (Int.tmod (IntKind.u64.wrap ((rd_T48 x0 x9).f1.f0)) 64)) + 1)) + (wrap64 (Int.tmod (IntKind.u64.wrap ((rd_T48 x0 x9).f1.f1)) 20)))))) (wrap64 (Int.tmod (IntKind.u64.wrap ((rd_T48 x0 x9).f1.f0)) 64)) (wrap64 ((wrap64 ((wrap64 (Int.tmod (IntKind.u64.wrap ((rd_T48 x0 x9).f1.f0)) 64)) + 1)) + (wrap64 (Int.tmod (IntKind.u64.wrap ((rd_T48 x0 x9).f1.f1)) 20)))) (Int.tmod ((rd_T48 x0 x9).f1.f2) 8)) else (halterlaw13_RegionKeeps.j2 k x0 x5 x6 x7 x8 x9 false (wrap64 (Int.tmod (IntKind.u64.wrap ((rd_T48 x0 x9).f1.f0)) 64)) (wrap64 ((wrap64 ((wrap64 (Int.tmod (IntKind.u64.wrap ((rd_T48 x0 x9).f1.f0)) 64)) + 1)) + (wrap64 (Int.tmod (IntKind.u64.wrap ((rd_T48 x0 x9).f1.f1)) 20)))) (Int.tmod ((rd_T48 x0 x9).f1.f2) 8))) else (none)) else (none)) else ((halterlaw13_sure.f k).bind fun t219 => (some t219))
def halterlaw13_RegionKeeps.j2 : Nat → List (S48) → List (S49) → Int → Int → Bool → Int → Bool → Int → Int → Int → Option (Bool)
  | 0, _, _, _, _, _, _, _, _, _, _ => none
  | k + 1, x0, x5, x6, x7, x8, x9, x11, x223000, x223001, x223002 => if 0 ≤ x9 then (if x9 < (x0.length : Int) then (if (wrap64 (Int.tmod (IntKind.u64.wrap ((rd_T48 x0 x9).f0)) 4)) = 2 then ((region_Cut.f k x5 x223000 x223001).bind fun bt225 => (if bt225.2.isNone = true then (if x8 = true then (halterlaw13_RegionKeeps.j5 k x0 x5 x6 x7 (!x11) x9 bt225.1 none) else (halterlaw13_RegionKeeps.j5 k x0 x5 x6 x7 false x9 bt225.1 none)) else (some false))) else (if (wrap64 (Int.tmod (IntKind.u64.wrap ((rd_T48 x0 x9).f0)) 4)) = 3 then ((region_Protect.f k x5 x223000 x223001 x223002).bind fun bt230 => (if bt230.2.isNone = true then (halterlaw13_RegionKeeps.j3 k x0 x5 x6 x7 x8 x9 bt230.1 none x11 x223000 x223001 x223002) else (halterlaw13_RegionKeeps.j3 k x0 x5 x6 x7 x8 x9 bt230.1 (some (bt230.2.getD 0)) false x223000 x223001 x223002))) else ((region_Add.f k x5 x223000 x223001 x223002).bind fun bt235 => (if bt235.2.isNone = true then (halterlaw13_RegionKeeps.j4 k x0 x5 x6 x7 x8 x9 bt235.1 none x11 x223000 x223001 x223002) else (halterlaw13_RegionKeeps.j4 k x0 x5 x6 x7 x8 x9 bt235.1 (some (bt235.2.getD 0)) false x223000 x223001 x223002))))) else (none)) else (none)
def halterlaw13_RegionKeeps.j5 : Nat → List (S48) → List (S49) → Int → Int → Bool → Int → List (S49) → Option Int → Option (Bool)
  | 0, _, _, _, _, _, _, _, _ => none
  | k + 1, x0, x5, x6, x7, x8, x9, x12, x13 => if x13.isNone = true then ((region_At.f k x12 x6).bind fun bt241 => ((region_Check.f k x12).bind fun t246 => (if t246.isNone = true then (if (bt241.2.2.2 != x8) = true then (some false) else (if x8 = true then (if bt241.2.2.1 = x7 then (halterlaw13_RegionKeeps.l0 k x0 x12 x6 x7 x8 (wrap64 (x9 + 1))) else (some false)) else (halterlaw13_RegionKeeps.l0 k x0 x12 x6 x7 x8 (wrap64 (x9 + 1))))) else (some false)))) else ((region_At.f k x5 x6).bind fun bt248 => ((region_Check.f k x5).bind fun t253 => (if t253.isNone = true then (if (bt248.2.2.2 != x8) = true then (some false) else (if x8 = true then (if bt248.2.2.1 = x7 then (halterlaw13_RegionKeeps.l0 k x0 x5 x6 x7 x8 (wrap64 (x9 + 1))) else (some false)) else (halterlaw13_RegionKeeps.l0 k x0 x5 x6 x7 x8 (wrap64 (x9 + 1))))) else (some false))))
def halterlaw13_RegionKeeps.j3 : Nat → List (S48) → List (S49) → Int → Int → Bool → Int → List (S49) → Option Int → Bool → Int → Int → Int → Option (Bool)
  | 0, _, _, _, _, _, _, _, _, _, _, _, _ => none
  | k + 1, x0, x5, x6, x7, x8, x9, x12, x13, x128, x223000, x223001, x223002 => if x128 = true then (if x8 = true then (halterlaw13_RegionKeeps.j5 k x0 x5 x6 x223002 x8 x9 x12 x13) else (some false)) else (halterlaw13_RegionKeeps.j5 k x0 x5 x6 x7 x8 x9 x12 x13)
def halterlaw13_RegionKeeps.j4 : Nat → List (S48) → List (S49) → Int → Int → Bool → Int → List (S49) → Option Int → Bool → Int → Int → Int → Option (Bool)
  | 0, _, _, _, _, _, _, _, _, _, _, _, _ => none
  | k + 1, x0, x5, x6, x7, x8, x9, x12, x13, x89, x223000, x223001, x223002 => if x89 = true then (if x8 = true then (some false) else (halterlaw13_RegionKeeps.j5 k x0 x5 x6 x223002 true x9 x12 x13)) else (halterlaw13_RegionKeeps.j5 k x0 x5 x6 x7 x8 x9 x12 x13)
end
def halterlaw13_RegionKeeps.f (k : Nat) (l0 : List (S48)) (a1 : Int) : Option (Bool) := halterlaw13_RegionKeeps.l0 k l0 ([] : List (S49)) (wrap64 (Int.tmod (IntKind.u64.wrap (a1)) 64)) 0 false 0
theorem halterlaw13_RegionKeeps.mono_l : ∀ k, (∀ y0 y1 y2 y3 y4 y5, LeO (halterlaw13_RegionKeeps.l0 k y0 y1 y2 y3 y4 y5) (halterlaw13_RegionKeeps.l0 (k + 1) y0 y1 y2 y3 y4 y5)) ∧ (∀ y0 y1 y2 y3 y4 y5 y6, LeO (halterlaw13_RegionKeeps.j1 k y0 y1 y2 y3 y4 y5 y6) (halterlaw13_RegionKeeps.j1 (k + 1) y0 y1 y2 y3 y4 y5 y6)) ∧ (∀ y0 y1 y2 y3 y4 y5 y6 y7 y8 y9, LeO (halterlaw13_RegionKeeps.j2 k y0 y1 y2 y3 y4 y5 y6 y7 y8 y9) (halterlaw13_RegionKeeps.j2 (k + 1) y0 y1 y2 y3 y4 y5 y6 y7 y8 y9)) ∧ (∀ y0 y1 y2 y3 y4 y5 y6 y7, LeO (halterlaw13_RegionKeeps.j5 k y0 y1 y2 y3 y4 y5 y6 y7) (halterlaw13_RegionKeeps.j5 (k + 1) y0 y1 y2 y3 y4 y5 y6 y7)) ∧ (∀ y0 y1 y2 y3 y4 y5 y6 y7 y8 y9 y10 y11, LeO (halterlaw13_RegionKeeps.j3 k y0 y1 y2 y3 y4 y5 y6 y7 y8 y9 y10 y11) (halterlaw13_RegionKeeps.j3 (k + 1) y0 y1 y2 y3 y4 y5 y6 y7 y8 y9 y10 y11)) ∧ (∀ y0 y1 y2 y3 y4 y5 y6 y7 y8 y9 y10 y11, LeO (halterlaw13_RegionKeeps.j4 k y0 y1 y2 y3 y4 y5 y6 y7 y8 y9 y10 y11) (halterlaw13_RegionKeeps.j4 (k + 1) y0 y1 y2 y3 y4 y5 y6 y7 y8 y9 y10 y11))
  | 0 => ⟨fun _ _ _ _ _ _ r h => by simp [halterlaw13_RegionKeeps.l0] at h, fun _ _ _ _ _ _ _ r h => by simp [halterlaw13_RegionKeeps.j1] at h, fun _ _ _ _ _ _ _ _ _ _ r h => by simp [halterlaw13_RegionKeeps.j2] at h, fun _ _ _ _ _ _ _ _ r h => by simp [halterlaw13_RegionKeeps.j5] at h, fun _ _ _ _ _ _ _ _ _ _ _ _ r h => by simp [halterlaw13_RegionKeeps.j3] at h, fun _ _ _ _ _ _ _ _ _ _ _ _ r h => by simp [halterlaw13_RegionKeeps.j4] at h⟩
  | k + 1 => by
    obtain ⟨ih0, ih1, ih2, ih3, ih4, ih5⟩ := halterlaw13_RegionKeeps.mono_l k
    refine ⟨?_, ?_, ?_, ?_, ?_, ?_⟩
    · intro y0 y1 y2 y3 y4 y5
      unfold halterlaw13_RegionKeeps.l0
      repeat' first
      | (with_reducible exact ih0 _ _ _ _ _ _)
      | (with_reducible exact ih1 _ _ _ _ _ _ _)
      | (with_reducible exact ih2 _ _ _ _ _ _ _ _ _ _)
      | (with_reducible exact ih3 _ _ _ _ _ _ _ _)
      | (with_reducible exact ih4 _ _ _ _ _ _ _ _ _ _ _ _)
      | (with_reducible exact ih5 _ _ _ _ _ _ _ _ _ _ _ _)
      | (with_reducible exact halterlaw13_sure.mono _)
      | (with_reducible exact region_Add.mono _ _ _ _ _)
      | (with_reducible exact region_At.mono _ _ _)
      | (with_reducible exact region_Check.mono _ _)
      | (with_reducible exact region_Cut.mono _ _ _ _)
      | (with_reducible exact region_Protect.mono _ _ _ _ _)
      | (with_reducible exact LeO.refl _)
      | (with_reducible exact LeO.none _)
      | (with_reducible refine LeO.ite ?_ ?_)
      | (with_reducible refine LeO.bind ?_ (fun _ => ?_))
      | exact ih0 _ _ _ _ _ _
      | exact ih1 _ _ _ _ _ _ _
      | exact ih2 _ _ _ _ _ _ _ _ _ _
      | exact ih3 _ _ _ _ _ _ _ _
      | exact ih4 _ _ _ _ _ _ _ _ _ _ _ _
      | exact ih5 _ _ _ _ _ _ _ _ _ _ _ _
      | exact halterlaw13_sure.mono _
      | exact region_Add.mono _ _ _ _ _
      | exact region_At.mono _ _ _
      | exact region_Check.mono _ _
      | exact region_Cut.mono _ _ _ _
      | exact region_Protect.mono _ _ _ _ _
      | exact LeO.none _
      | refine LeO.ite ?_ ?_
      | refine LeO.bind ?_ (fun _ => ?_)
    · intro y0 y1 y2 y3 y4 y5 y6
      unfold halterlaw13_RegionKeeps.j1
      repeat' first
      | (with_reducible exact ih0 _ _ _ _ _ _)
      | (with_reducible exact ih1 _ _ _ _ _ _ _)
      | (with_reducible exact ih2 _ _ _ _ _ _ _ _ _ _)
      | (with_reducible exact ih3 _ _ _ _ _ _ _ _)
      | (with_reducible exact ih4 _ _ _ _ _ _ _ _ _ _ _ _)
      | (with_reducible exact ih5 _ _ _ _ _ _ _ _ _ _ _ _)
      | (with_reducible exact halterlaw13_sure.mono _)
      | (with_reducible exact region_Add.mono _ _ _ _ _)
      | (with_reducible exact region_At.mono _ _ _)
      | (with_reducible exact region_Check.mono _ _)
      | (with_reducible exact region_Cut.mono _ _ _ _)
      | (with_reducible exact region_Protect.mono _ _ _ _ _)
      | (with_reducible exact LeO.refl _)
      | (with_reducible exact LeO.none _)
      | (with_reducible refine LeO.ite ?_ ?_)
      | (with_reducible refine LeO.bind ?_ (fun _ => ?_))
      | exact ih0 _ _ _ _ _ _
      | exact ih1 _ _ _ _ _ _ _
      | exact ih2 _ _ _ _ _ _ _ _ _ _
      | exact ih3 _ _ _ _ _ _ _ _
      | exact ih4 _ _ _ _ _ _ _ _ _ _ _ _
      | exact ih5 _ _ _ _ _ _ _ _ _ _ _ _
      | exact halterlaw13_sure.mono _
      | exact region_Add.mono _ _ _ _ _
      | exact region_At.mono _ _ _
      | exact region_Check.mono _ _
      | exact region_Cut.mono _ _ _ _
      | exact region_Protect.mono _ _ _ _ _
      | exact LeO.none _
      | refine LeO.ite ?_ ?_
      | refine LeO.bind ?_ (fun _ => ?_)
    · intro y0 y1 y2 y3 y4 y5 y6 y7 y8 y9
      unfold halterlaw13_RegionKeeps.j2
      repeat' first
      | (with_reducible exact ih0 _ _ _ _ _ _)
      | (with_reducible exact ih1 _ _ _ _ _ _ _)
      | (with_reducible exact ih2 _ _ _ _ _ _ _ _ _ _)
      | (with_reducible exact ih3 _ _ _ _ _ _ _ _)
      | (with_reducible exact ih4 _ _ _ _ _ _ _ _ _ _ _ _)
      | (with_reducible exact ih5 _ _ _ _ _ _ _ _ _ _ _ _)
      | (with_reducible exact halterlaw13_sure.mono _)
      | (with_reducible exact region_Add.mono _ _ _ _ _)
      | (with_reducible exact region_At.mono _ _ _)
      | (with_reducible exact region_Check.mono _ _)
      | (with_reducible exact region_Cut.mono _ _ _ _)
      | (with_reducible exact region_Protect.mono _ _ _ _ _)
      | (with_reducible exact LeO.refl _)
      | (with_reducible exact LeO.none _)
      | (with_reducible refine LeO.ite ?_ ?_)
      | (with_reducible refine LeO.bind ?_ (fun _ => ?_))
      | exact ih0 _ _ _ _ _ _
      | exact ih1 _ _ _ _ _ _ _
      | exact ih2 _ _ _ _ _ _ _ _ _ _
      | exact ih3 _ _ _ _ _ _ _ _
      | exact ih4 _ _ _ _ _ _ _ _ _ _ _ _
      | exact ih5 _ _ _ _ _ _ _ _ _ _ _ _
      | exact halterlaw13_sure.mono _
      | exact region_Add.mono _ _ _ _ _
      | exact region_At.mono _ _ _
      | exact region_Check.mono _ _
      | exact region_Cut.mono _ _ _ _
      | exact region_Protect.mono _ _ _ _ _
      | exact LeO.none _
      | refine LeO.ite ?_ ?_
      | refine LeO.bind ?_ (fun _ => ?_)
    · intro y0 y1 y2 y3 y4 y5 y6 y7
      unfold halterlaw13_RegionKeeps.j5
      repeat' first
      | (with_reducible exact ih0 _ _ _ _ _ _)
      | (with_reducible exact ih1 _ _ _ _ _ _ _)
      | (with_reducible exact ih2 _ _ _ _ _ _ _ _ _ _)
      | (with_reducible exact ih3 _ _ _ _ _ _ _ _)
      | (with_reducible exact ih4 _ _ _ _ _ _ _ _ _ _ _ _)
      | (with_reducible exact ih5 _ _ _ _ _ _ _ _ _ _ _ _)
      | (with_reducible exact halterlaw13_sure.mono _)
      | (with_reducible exact region_Add.mono _ _ _ _ _)
      | (with_reducible exact region_At.mono _ _ _)
      | (with_reducible exact region_Check.mono _ _)
      | (with_reducible exact region_Cut.mono _ _ _ _)
      | (with_reducible exact region_Protect.mono _ _ _ _ _)
      | (with_reducible exact LeO.refl _)
      | (with_reducible exact LeO.none _)
      | (with_reducible refine LeO.ite ?_ ?_)
      | (with_reducible refine LeO.bind ?_ (fun _ => ?_))
      | exact ih0 _ _ _ _ _ _
      | exact ih1 _ _ _ _ _ _ _
      | exact ih2 _ _ _ _ _ _ _ _ _ _
      | exact ih3 _ _ _ _ _ _ _ _
      | exact ih4 _ _ _ _ _ _ _ _ _ _ _ _
      | exact ih5 _ _ _ _ _ _ _ _ _ _ _ _
      | exact halterlaw13_sure.mono _
      | exact region_Add.mono _ _ _ _ _
      | exact region_At.mono _ _ _
      | exact region_Check.mono _ _
      | exact region_Cut.mono _ _ _ _
      | exact region_Protect.mono _ _ _ _ _
      | exact LeO.none _
      | refine LeO.ite ?_ ?_
      | refine LeO.bind ?_ (fun _ => ?_)
    · intro y0 y1 y2 y3 y4 y5 y6 y7 y8 y9 y10 y11
      unfold halterlaw13_RegionKeeps.j3
      repeat' first
      | (with_reducible exact ih0 _ _ _ _ _ _)
      | (with_reducible exact ih1 _ _ _ _ _ _ _)
      | (with_reducible exact ih2 _ _ _ _ _ _ _ _ _ _)
      | (with_reducible exact ih3 _ _ _ _ _ _ _ _)
      | (with_reducible exact ih4 _ _ _ _ _ _ _ _ _ _ _ _)
      | (with_reducible exact ih5 _ _ _ _ _ _ _ _ _ _ _ _)
      | (with_reducible exact halterlaw13_sure.mono _)
      | (with_reducible exact region_Add.mono _ _ _ _ _)
      | (with_reducible exact region_At.mono _ _ _)
      | (with_reducible exact region_Check.mono _ _)
      | (with_reducible exact region_Cut.mono _ _ _ _)
      | (with_reducible exact region_Protect.mono _ _ _ _ _)
      | (with_reducible exact LeO.refl _)
      | (with_reducible exact LeO.none _)
      | (with_reducible refine LeO.ite ?_ ?_)
      | (with_reducible refine LeO.bind ?_ (fun _ => ?_))
      | exact ih0 _ _ _ _ _ _
      | exact ih1 _ _ _ _ _ _ _
      | exact ih2 _ _ _ _ _ _ _ _ _ _
      | exact ih3 _ _ _ _ _ _ _ _
      | exact ih4 _ _ _ _ _ _ _ _ _ _ _ _
      | exact ih5 _ _ _ _ _ _ _ _ _ _ _ _
      | exact halterlaw13_sure.mono _
      | exact region_Add.mono _ _ _ _ _
      | exact region_At.mono _ _ _
      | exact region_Check.mono _ _
      | exact region_Cut.mono _ _ _ _
      | exact region_Protect.mono _ _ _ _ _
      | exact LeO.none _
      | refine LeO.ite ?_ ?_
      | refine LeO.bind ?_ (fun _ => ?_)
    · intro y0 y1 y2 y3 y4 y5 y6 y7 y8 y9 y10 y11
      unfold halterlaw13_RegionKeeps.j4
      repeat' first
      | (with_reducible exact ih0 _ _ _ _ _ _)
      | (with_reducible exact ih1 _ _ _ _ _ _ _)
      | (with_reducible exact ih2 _ _ _ _ _ _ _ _ _ _)
      | (with_reducible exact ih3 _ _ _ _ _ _ _ _)
      | (with_reducible exact ih4 _ _ _ _ _ _ _ _ _ _ _ _)
      | (with_reducible exact ih5 _ _ _ _ _ _ _ _ _ _ _ _)
      | (with_reducible exact halterlaw13_sure.mono _)
      | (with_reducible exact region_Add.mono _ _ _ _ _)
      | (with_reducible exact region_At.mono _ _ _)
      | (with_reducible exact region_Check.mono _ _)
      | (with_reducible exact region_Cut.mono _ _ _ _)
      | (with_reducible exact region_Protect.mono _ _ _ _ _)
      | (with_reducible exact LeO.refl _)
      | (with_reducible exact LeO.none _)
      | (with_reducible refine LeO.ite ?_ ?_)
      | (with_reducible refine LeO.bind ?_ (fun _ => ?_))
      | exact ih0 _ _ _ _ _ _
      | exact ih1 _ _ _ _ _ _ _
      | exact ih2 _ _ _ _ _ _ _ _ _ _
      | exact ih3 _ _ _ _ _ _ _ _
      | exact ih4 _ _ _ _ _ _ _ _ _ _ _ _
      | exact ih5 _ _ _ _ _ _ _ _ _ _ _ _
      | exact halterlaw13_sure.mono _
      | exact region_Add.mono _ _ _ _ _
      | exact region_At.mono _ _ _
      | exact region_Check.mono _ _
      | exact region_Cut.mono _ _ _ _
      | exact region_Protect.mono _ _ _ _ _
      | exact LeO.none _
      | refine LeO.ite ?_ ?_
      | refine LeO.bind ?_ (fun _ => ?_)
theorem halterlaw13_RegionKeeps.mono : ∀ a0 a1 k, LeO (halterlaw13_RegionKeeps.f k a0 a1) (halterlaw13_RegionKeeps.f (k + 1) a0 a1) := by
  intro a0 a1 k
  obtain ⟨ih0, ih1, ih2, ih3, ih4, ih5⟩ := halterlaw13_RegionKeeps.mono_l k
  unfold halterlaw13_RegionKeeps.f
  repeat' first
      | (with_reducible exact ih0 _ _ _ _ _ _)
      | (with_reducible exact ih1 _ _ _ _ _ _ _)
      | (with_reducible exact ih2 _ _ _ _ _ _ _ _ _ _)
      | (with_reducible exact ih3 _ _ _ _ _ _ _ _)
      | (with_reducible exact ih4 _ _ _ _ _ _ _ _ _ _ _ _)
      | (with_reducible exact ih5 _ _ _ _ _ _ _ _ _ _ _ _)
      | (with_reducible exact halterlaw13_sure.mono _)
      | (with_reducible exact region_Add.mono _ _ _ _ _)
      | (with_reducible exact region_At.mono _ _ _)
      | (with_reducible exact region_Check.mono _ _)
      | (with_reducible exact region_Cut.mono _ _ _ _)
      | (with_reducible exact region_Protect.mono _ _ _ _ _)
      | (with_reducible exact LeO.refl _)
      | (with_reducible exact LeO.none _)
      | (with_reducible refine LeO.ite ?_ ?_)
      | (with_reducible refine LeO.bind ?_ (fun _ => ?_))
      | exact ih0 _ _ _ _ _ _
      | exact ih1 _ _ _ _ _ _ _
      | exact ih2 _ _ _ _ _ _ _ _ _ _
      | exact ih3 _ _ _ _ _ _ _ _
      | exact ih4 _ _ _ _ _ _ _ _ _ _ _ _
      | exact ih5 _ _ _ _ _ _ _ _ _ _ _ _
      | exact halterlaw13_sure.mono _
      | exact region_Add.mono _ _ _ _ _
      | exact region_At.mono _ _ _
      | exact region_Check.mono _ _
      | exact region_Cut.mono _ _ _ _
      | exact region_Protect.mono _ _ _ _ _
      | exact LeO.none _
      | refine LeO.ite ?_ ?_
      | refine LeO.bind ?_ (fun _ => ?_)
def halterlaw13_RegionKeeps.T7 : Bool × List (List Nat × List Nat) := (true, [([], []), ([], []), ([0, 1], [0, 1]), ([2], [2]), ([3], [3]), ([4], [4]), ([5], [5]), ([6], [6]), ([7], [7]), ([], []), ([], []), ([9, 10], [9, 10]), ([11], [11]), ([12], [12]), ([13], [13]), ([14], [14]), ([8, 15], [8, 15]), ([], []), ([17, 16, 0, 1, 2, 3, 4, 5, 6, 7, 8, 9, 10, 11, 12, 13, 14, 15, 16, 17], [16, 17])])
def halterlaw13_RegionKeeps.B7 : List Nat := [0, 0, 3, 7, 15, 31, 63, 127, 255, 0, 0, 1536, 3584, 7680, 15872, 32256, 65535, 0, 262143]
theorem halterlaw13_RegionKeeps.tab7 : rtab .any (opsOf Try.f4 7) = halterlaw13_RegionKeeps.T7 := by kernel_rfl
theorem halterlaw13_RegionKeeps.bits7 : waitsOk halterlaw13_RegionKeeps.T7.2 halterlaw13_RegionKeeps.B7 = true := by kernel_rfl
def halterlaw13_RegionKeeps.T8 : Bool × List (List Nat × List Nat) := (true, [([], []), ([0], [0]), ([1], [1]), ([], []), ([], []), ([3, 4], [3, 4]), ([5], [5]), ([6], [6]), ([7], [7]), ([8], [8]), ([9], [9]), ([10], [10]), ([2, 11], [2, 11]), ([0, 1, 2, 3, 4, 5, 6, 7, 8, 9, 10, 11, 12], []), ([13, 12, 0, 1, 2, 3, 4, 5, 6, 7, 8, 9, 10, 11, 12], [12, 13])])
def halterlaw13_RegionKeeps.B8 : List Nat := [0, 1, 3, 0, 0, 24, 56, 120, 248, 504, 1016, 2040, 4095, 8191, 16383]
theorem halterlaw13_RegionKeeps.tab8 : rtab .any (opsOf Try.f4 8) = halterlaw13_RegionKeeps.T8 := by kernel_rfl
theorem halterlaw13_RegionKeeps.bits8 : waitsOk halterlaw13_RegionKeeps.T8.2 halterlaw13_RegionKeeps.B8 = true := by kernel_rfl
set_option maxHeartbeats 8000000 in
set_option maxRecDepth 100000 in
theorem halterlaw13_RegionKeeps.calls (k : Nat) (A0 : Option Addr) (c0 : Nat) (l0 : List (S48)) (a1 : Int) (r : Bool) (w : World) (hr0 : Kd.C k48 w A0 l0.length l0) (hc0 : l0.length ≤ c0) (h : halterlaw13_RegionKeeps.f k l0 a1 = some r) :
    Calls Try.prog 4 #[.slice A0 l0.length c0, .int .i64 a1] w fun e w' => e = .returned (.bool r) ∧ Below w.heap.size w w' := by
  have hu49 := Try.underlying49
  have hu26 := Try.underlying26
  have hu63 := Try.underlying63
  have HR0 := Aside0.mk hr0
  have HC0 := Aside0.mk hc0
  clear hr0 hc0
  have HB := Aside0.mk (Below.refl w.heap.size w)
  have H : (halterlaw13_RegionKeeps.l0 k l0 ([] : List (S49)) (wrap64 (Int.tmod (IntKind.u64.wrap (a1)) 64)) 0 false 0) = some r := h
  clear h
  have H' := Aside0.mk H
  clear H
  go_enter Try.func4, Try.ntmps4
  go_wp2
  go_loopg [5, 7, 8, 9] k (fun kq v5 v7 v8 v9 w' => ∃ (x5_1 : List (S49)) (x7_1 : Int) (x8_1 : Bool) (x9_1 : Int), v7 = .int .u8 x7_1 ∧ v8 = .bool x8_1 ∧ v9 = .int .i64 x9_1 ∧ Aside0 (halterlaw13_RegionKeeps.l0 kq l0 x5_1 (wrap64 (Int.tmod (IntKind.u64.wrap (a1)) 64)) x7_1 x8_1 x9_1 = some r) ∧ Aside0 (kq ≤ k) ∧ Aside0 (Kd.R k49 49 w' w.heap.size (fun _ => True) v5 x5_1) ∧ Aside0 (Below w.heap.size w w'))
  case atStart => exact ⟨(([] : List (S49))), (0), (false), (0), (by first | rfl | (simp; done) | (simp [*]; done)), (by first | rfl | (simp; done) | (simp [*]; done)), (by first | rfl | (simp; done) | (simp [*]; done)), H', ⟨Nat.le_refl _⟩, ⟨by first | exact Kd.R_nil _ _ _ _ _ | exact Kd.N_nil _ _ _ _ _ | exact Kd.V_nil _ _ _ _ _ | exact Kd.Q_nil _ _ _ _ _ | exact Kd.S_nil _ _ _ _ _⟩, ⟨by repeat (first | (with_reducible first | exact HB.out | apply below_alloc | apply pw_below_drewN | apply below_drew1) | exact HB.out)⟩⟩
  case round =>
    clear H'
    try clear p2
    obtain ⟨x5_1, x7_1, x8_1, x9_1, rfl, rfl, rfl, HA, HK1, HO_5, HB⟩ := hrel
    cases gk with
    | zero => exact absurd HA.out (by simp [halterlaw13_RegionKeeps.l0])
    | succ k1 =>
      have H := HA.out
      clear HA
      simp only [halterlaw13_RegionKeeps.l0] at H
      have HC3 := Aside0.mk H
      clear H
      go_upto_region 5 with (fail)
      go_cut [27] (fun v27 wc => ∃ (kq : Nat) (x27_2 : Bool), v27 = .bool x27_2 ∧ Aside0 (halterlaw13_RegionKeeps.j1 kq l0 x5_1 (wrap64 (Int.tmod (IntKind.u64.wrap (a1)) 64)) x7_1 x8_1 x9_1 x27_2 = some r) ∧ Aside0 (kq ≤ k1) ∧ Aside0 (Kd.R k49 49 wc w.heap.size (fun _ => True) u5 x5_1) ∧ Aside0 (Below w.heap.size w wc))
      case first =>
        have H := HC3.out
        clear HC3
        by_cases c4 : x9_1 < (l0.length : Int)
        · rw [if_pos c4] at H
          have c4b0 : decide (x9_1 < (l0.length : Int)) = true := decide_eq_true c4
          clear c4
          (first | rw [c4b0] | (simp only [i64_w, i32_w]; rw [c4b0]) | skip)
          as_aux_lemma =>
            have H' := Aside0.mk H
            clear H
            go_wp2
            go_meet
            case rel => exact ⟨_, (decide (x9_1 < 25)), (by first | rfl | (simp; done) | (simp [*]; done)), H', ⟨by have := HK1.out; first | omega | exact Nat.le_refl _⟩, ⟨by (with_reducible repeat (first | apply Kd.R_alloc | apply Kd.R_drewN | apply Kd.R_drew)); exact HO_5.out⟩, ⟨by repeat (first | (with_reducible first | exact HB.out | apply below_alloc | apply pw_below_drewN | apply below_drew1) | exact HB.out)⟩⟩
        · rw [if_neg c4] at H
          have c4b0 : decide (x9_1 < (l0.length : Int)) = false := decide_eq_false c4
          clear c4
          (first | rw [c4b0] | (simp only [i64_w, i32_w]; rw [c4b0]) | skip)
          as_aux_lemma =>
            have H' := Aside0.mk H
            clear H
            go_wp2
            go_meet
            case rel => exact ⟨_, (false), (by first | rfl | (simp; done) | (simp [*]; done)), H', ⟨by have := HK1.out; first | omega | exact Nat.le_refl _⟩, ⟨by (with_reducible repeat (first | apply Kd.R_alloc | apply Kd.R_drewN | apply Kd.R_drew)); exact HO_5.out⟩, ⟨by repeat (first | (with_reducible first | exact HB.out | apply below_alloc | apply pw_below_drewN | apply below_drew1) | exact HB.out)⟩⟩
      case rest =>
        clear HC3
        try clear p2
        try clear c4
        try clear c4b0
        try clear p2
        obtain ⟨kq, x27_2, rfl, HA, HJ2, HO_5, HB⟩ := hcut
        cases kq with
        | zero => exact absurd HA.out (by simp [halterlaw13_RegionKeeps.j1])
        | succ kj2 =>
          have H := HA.out
          clear HA
          simp only [halterlaw13_RegionKeeps.j1] at H
          by_cases c5 : x27_2 = true
          · subst c5
            have H1 : (if 0 ≤ x9_1 then (if x9_1 < (l0.length : Int) then (if (wrap64 (Int.tmod (IntKind.u64.wrap (a1)) 64)) ≥ (wrap64 (Int.tmod (IntKind.u64.wrap ((rd_T48 l0 x9_1).f1.f0)) 64)) then (halterlaw13_RegionKeeps.j2 kj2 l0 x5_1 (wrap64 (Int.tmod (IntKind.u64.wrap (a1)) 64)) x7_1 x8_1 x9_1 (decide ((wrap64 (Int.tmod (IntKind.u64.wrap (a1)) 64)) < (wrap64 ((wrap64 ((wrap64 (Int.tmod (IntKind.u64.wrap ((rd_T48 l0 x9_1).f1.f0)) 64)) + 1)) + (wrap64 (Int.tmod (IntKind.u64.wrap ((rd_T48 l0 x9_1).f1.f1)) 20)))))) (wrap64 (Int.tmod (IntKind.u64.wrap ((rd_T48 l0 x9_1).f1.f0)) 64)) (wrap64 ((wrap64 ((wrap64 (Int.tmod (IntKind.u64.wrap ((rd_T48 l0 x9_1).f1.f0)) 64)) + 1)) + (wrap64 (Int.tmod (IntKind.u64.wrap ((rd_T48 l0 x9_1).f1.f1)) 20)))) (Int.tmod ((rd_T48 l0 x9_1).f1.f2) 8)) else (halterlaw13_RegionKeeps.j2 kj2 l0 x5_1 (wrap64 (Int.tmod (IntKind.u64.wrap (a1)) 64)) x7_1 x8_1 x9_1 false (wrap64 (Int.tmod (IntKind.u64.wrap ((rd_T48 l0 x9_1).f1.f0)) 64)) (wrap64 ((wrap64 ((wrap64 (Int.tmod (IntKind.u64.wrap ((rd_T48 l0 x9_1).f1.f0)) 64)) + 1)) + (wrap64 (Int.tmod (IntKind.u64.wrap ((rd_T48 l0 x9_1).f1.f1)) 20)))) (Int.tmod ((rd_T48 l0 x9_1).f1.f2) 8))) else (none)) else (none)) = some r := by rw [if_pos rfl] at H; exact H
            clear H
            have H := H1
            clear H1
            by_cases c6 : 0 ≤ x9_1
            · rw [if_pos c6] at H
              have c6b0 : decide (0 ≤ x9_1) = true := decide_eq_true c6
              clear c6
              by_cases c7 : x9_1 < (l0.length : Int)
              · rw [if_pos c7] at H
                have c7b0 : decide (x9_1 < (l0.length : Int)) = true := decide_eq_true c7
                clear c7
                have HC8 := Aside0.mk H
                clear H
                try go_wp2
                have n0_ := Aside0.mk (Kd.R_drew HO_5.out)
                have n1_ := Aside0.mk (below_drew1 HB.out)
                clear HO_5
                clear HB
                have HO_5 := n0_
                have HB := n1_
                clear n0_ n1_
                have p220 : 0 ≤ (x9_1 : Int) := of_decide_eq_true (by first | (with_reducible assumption) | assumption)
                have q220 : x9_1 < (l0.length : Int) := of_decide_eq_true (by first | (with_reducible assumption) | assumption)
                obtain ⟨ad220, e220, hx220_0, hx220_1, hx220_2, hx220_3⟩ := at_T48 HR0.out x9_1 p220 q220
                have hw220_3 := hx220_3
                have hw220_2 := hx220_2
                have hw220_1 := hx220_1
                have hw220_0 := hx220_0
                cases e220
                replace hx220_0 := (HB.out.cell (World.block_lt_of_cell? w _ hx220_0)).trans hx220_0
                replace hx220_1 := (HB.out.cell (World.block_lt_of_cell? w _ hx220_1)).trans hx220_1
                replace hx220_2 := (HB.out.cell (World.block_lt_of_cell? w _ hx220_2)).trans hx220_2
                replace hx220_3 := (HB.out.cell (World.block_lt_of_cell? w _ hx220_3)).trans hx220_3
                replace p220 := eq_true p220
                replace q220 := eq_true q220
                have p221 : 0 ≤ (x9_1 : Int) := of_decide_eq_true (by first | (with_reducible assumption) | assumption)
                have q221 : x9_1 < (l0.length : Int) := of_decide_eq_true (by first | (with_reducible assumption) | assumption)
                obtain ⟨ad221, e221, hx221_0, hx221_1, hx221_2, hx221_3⟩ := at_T48 HR0.out x9_1 p221 q221
                have hw221_3 := hx221_3
                have hw221_2 := hx221_2
                have hw221_1 := hx221_1
                have hw221_0 := hx221_0
                obtain rfl : ad220 = ad221 := (by injection e221)
                replace hx221_0 := (HB.out.cell (World.block_lt_of_cell? w _ hx221_0)).trans hx221_0
                replace hx221_1 := (HB.out.cell (World.block_lt_of_cell? w _ hx221_1)).trans hx221_1
                replace hx221_2 := (HB.out.cell (World.block_lt_of_cell? w _ hx221_2)).trans hx221_2
                replace hx221_3 := (HB.out.cell (World.block_lt_of_cell? w _ hx221_3)).trans hx221_3
                replace p221 := eq_true p221
                replace q221 := eq_true q221
                refine start_ (n := 19) (S := fun w' => w'.cell? (ad220.add ((x9_1).toNat * 4)) = some (.int .i64 ((rd_T48 l0 x9_1).f0)) ∧ w'.cell? ⟨(ad220.add ((x9_1).toNat * 4)).block, (ad220.add ((x9_1).toNat * 4)).off + 1, none⟩ = some (.int .i64 ((rd_T48 l0 x9_1).f1.f0)) ∧ w'.cell? ⟨(ad220.add ((x9_1).toNat * 4)).block, (ad220.add ((x9_1).toNat * 4)).off + 2, none⟩ = some (.int .i64 ((rd_T48 l0 x9_1).f1.f1)) ∧ w'.cell? ⟨(ad220.add ((x9_1).toNat * 4)).block, (ad220.add ((x9_1).toNat * 4)).off + 3, none⟩ = some (.int .u8 ((rd_T48 l0 x9_1).f1.f2)) ∧ w'.cell? (ad220.add ((x9_1).toNat * 4)) = some (.int .i64 ((rd_T48 l0 x9_1).f0)) ∧ w'.cell? ⟨(ad220.add ((x9_1).toNat * 4)).block, (ad220.add ((x9_1).toNat * 4)).off + 1, none⟩ = some (.int .i64 ((rd_T48 l0 x9_1).f1.f0)) ∧ w'.cell? ⟨(ad220.add ((x9_1).toNat * 4)).block, (ad220.add ((x9_1).toNat * 4)).off + 2, none⟩ = some (.int .i64 ((rd_T48 l0 x9_1).f1.f1)) ∧ w'.cell? ⟨(ad220.add ((x9_1).toNat * 4)).block, (ad220.add ((x9_1).toNat * 4)).off + 3, none⟩ = some (.int .u8 ((rd_T48 l0 x9_1).f1.f2))) (ds := []) #[false, false, false, false, false, false, false, false, false, false, false, false, false, false, false, false, false, false, false] (by kernel_rfl) rfl rfl ⟨((HB.out.cell (World.block_lt_of_cell? w _ hw220_0)).trans hw220_0), ((HB.out.cell (World.block_lt_of_cell? w _ hw220_1)).trans hw220_1), ((HB.out.cell (World.block_lt_of_cell? w _ hw220_2)).trans hw220_2), ((HB.out.cell (World.block_lt_of_cell? w _ hw220_3)).trans hw220_3), ((HB.out.cell (World.block_lt_of_cell? w _ hw221_0)).trans hw221_0), ((HB.out.cell (World.block_lt_of_cell? w _ hw221_1)).trans hw221_1), ((HB.out.cell (World.block_lt_of_cell? w _ hw221_2)).trans hw221_2), ((HB.out.cell (World.block_lt_of_cell? w _ hw221_3)).trans hw221_3)⟩ (fun hHeld => ?_); refine with_tabW halterlaw13_RegionKeeps.tab7 halterlaw13_RegionKeeps.bits7 (fun HT_ HW_ => ?_)
                generalize wc.drew = w9 at HO_5 HB hx220_0 hx220_1 hx220_2 hx220_3 hx221_0 hx221_1 hx221_2 hx221_3 hHeld ⊢
                refine pure_ (i := 0) (N := some 30) (v := ?_) (a' := ?_) #[true, false, false, false, false, false, false, false, false, false, false, false, false, false, false, false, false, false, false] rfl rfl (any_of HT_.out (by kernel_rfl)) (fun _ _ _ h => h) (Or.inl ⟨by rfl, ?_⟩) ?_ ?_
                rotate_left
                · intro w'
                  go_simp
                  with_reducible rfl
                rotate_left
                · simp only [Act.put, List.setIfInBounds_toArray, List.set_cons_zero, List.set_cons_succ, i64_w, i32_w]
                  rfl
                refine pure_ (i := 1) (N := some 31) (v := ?_) (a' := ?_) #[true, true, false, false, false, false, false, false, false, false, false, false, false, false, false, false, false, false, false] rfl rfl (any_of HT_.out (by kernel_rfl)) (fun _ _ _ h => h) (Or.inl ⟨by rfl, ?_⟩) ?_ ?_
                rotate_left
                · intro w'
                  go_simp
                  with_reducible rfl
                rotate_left
                · simp only [Act.put, List.setIfInBounds_toArray, List.set_cons_zero, List.set_cons_succ, i64_w, i32_w]
                  rfl
                refine pure_ (i := 2) (N := some 32) (v := ?_) (a' := ?_) #[true, true, true, false, false, false, false, false, false, false, false, false, false, false, false, false, false, false, false] rfl rfl (any_of HT_.out (by kernel_rfl)) (fun _ _ _ h => h) (Or.inl ⟨by rfl, ?_⟩) ?_ ?_
                rotate_left
                · intro w'
                  go_simp
                  with_reducible rfl
                rotate_left
                · simp only [Act.put, List.setIfInBounds_toArray, List.set_cons_zero, List.set_cons_succ, i64_w, i32_w]
                  rfl
                refine pure_ (i := 3) (N := some 33) (v := ?_) (a' := ?_) #[true, true, true, true, false, false, false, false, false, false, false, false, false, false, false, false, false, false, false] rfl rfl (any_of HT_.out (by kernel_rfl)) (fun _ _ _ h => h) (Or.inl ⟨by rfl, ?_⟩) ?_ ?_
                rotate_left
                · intro w'
                  go_simp
                  with_reducible rfl
                rotate_left
                · simp only [Act.put, List.setIfInBounds_toArray, List.set_cons_zero, List.set_cons_succ, i64_w, i32_w]
                  rfl
                refine pure_ (i := 4) (N := some 34) (v := ?_) (a' := ?_) #[true, true, true, true, true, false, false, false, false, false, false, false, false, false, false, false, false, false, false] rfl rfl (any_of HT_.out (by kernel_rfl)) (fun _ _ _ h => h) (Or.inl ⟨by rfl, ?_⟩) ?_ ?_
                rotate_left
                · intro w'
                  go_simp
                  with_reducible rfl
                rotate_left
                · simp only [Act.put, List.setIfInBounds_toArray, List.set_cons_zero, List.set_cons_succ, i64_w, i32_w]
                  rfl
                refine pure_ (i := 9) (N := some 39) (v := ?_) (a' := ?_) #[true, true, true, true, true, false, false, false, false, true, false, false, false, false, false, false, false, false, false] rfl rfl (any_of HT_.out (by kernel_rfl)) (fun _ _ _ h => h) (Or.inl ⟨by rfl, ?_⟩) ?_ ?_
                rotate_left
                · intro w'
                  go_simp
                  with_reducible rfl
                rotate_left
                · simp only [Act.put, List.setIfInBounds_toArray, List.set_cons_zero, List.set_cons_succ, i64_w, i32_w]
                  rfl
                refine pure_ (i := 10) (N := some 40) (v := ?_) (a' := ?_) #[true, true, true, true, true, false, false, false, false, true, true, false, false, false, false, false, false, false, false] rfl rfl (any_of HT_.out (by kernel_rfl)) (fun _ _ _ h => h) (Or.inl ⟨by rfl, ?_⟩) ?_ ?_
                rotate_left
                · intro w'
                  go_simp
                  with_reducible rfl
                rotate_left
                · simp only [Act.put, List.setIfInBounds_toArray, List.set_cons_zero, List.set_cons_succ, i64_w, i32_w]
                  rfl
                refine pure_ (i := 11) (N := some 41) (v := ?_) (a' := ?_) #[true, true, true, true, true, false, false, false, false, true, true, true, false, false, false, false, false, false, false] rfl rfl (any_of HT_.out (by kernel_rfl)) (fun _ _ _ h => h) (Or.inl ⟨by rfl, ?_⟩) ?_ ?_
                rotate_left
                · intro w'
                  go_simp
                  with_reducible rfl
                rotate_left
                · simp only [Act.put, List.setIfInBounds_toArray, List.set_cons_zero, List.set_cons_succ, i64_w, i32_w]
                  rfl
                refine pure_ (i := 12) (N := some 42) (v := ?_) (a' := ?_) #[true, true, true, true, true, false, false, false, false, true, true, true, true, false, false, false, false, false, false] rfl rfl (any_of HT_.out (by kernel_rfl)) (fun _ _ _ h => h) (Or.inl ⟨by rfl, ?_⟩) ?_ ?_
                rotate_left
                · intro w'
                  go_simp
                  with_reducible rfl
                rotate_left
                · simp only [Act.put, List.setIfInBounds_toArray, List.set_cons_zero, List.set_cons_succ, i64_w, i32_w]
                  rfl
                refine pure_ (i := 13) (N := some 43) (v := ?_) (a' := ?_) #[true, true, true, true, true, false, false, false, false, true, true, true, true, true, false, false, false, false, false] rfl rfl (any_of HT_.out (by kernel_rfl)) (fun _ _ _ h => h) (Or.inl ⟨by rfl, ?_⟩) ?_ ?_
                rotate_left
                · intro w'
                  go_simp
                  with_reducible rfl
                rotate_left
                · simp only [Act.put, List.setIfInBounds_toArray, List.set_cons_zero, List.set_cons_succ, i64_w, i32_w]
                  rfl
                refine take_ (i := 5) (N := some 35) (v := ?_) (a' := ?_) #[true, true, true, true, true, true, false, false, false, true, true, true, true, true, false, false, false, false, false] rfl rfl (take_ofW HT_.out HW_.out (by kernel_rfl)) (fun _ _ _ h => h) (Or.inl ⟨by rfl, ?_⟩) hHeld ?_ ?_
                rotate_left
                · rintro w' ⟨s0, s1, s2, s3, s4, s5, s6, s7⟩
                  go_simp
                  with_reducible rfl
                rotate_left
                · simp only [Act.put, List.setIfInBounds_toArray, List.set_cons_zero, List.set_cons_succ, i64_w, i32_w]
                  rfl
                refine pure_ (i := 6) (N := some 36) (v := ?_) (a' := ?_) #[true, true, true, true, true, true, true, false, false, true, true, true, true, true, false, false, false, false, false] rfl rfl (any_of HT_.out (by kernel_rfl)) (fun _ _ _ h => h) (Or.inl ⟨by rfl, ?_⟩) ?_ ?_
                rotate_left
                · intro w'
                  go_simp
                  with_reducible rfl
                rotate_left
                · simp only [Act.put, List.setIfInBounds_toArray, List.set_cons_zero, List.set_cons_succ, i64_w, i32_w]
                  rfl
                refine pure_ (i := 7) (N := some 37) (v := ?_) (a' := ?_) #[true, true, true, true, true, true, true, true, false, true, true, true, true, true, false, false, false, false, false] rfl rfl (any_of HT_.out (by kernel_rfl)) (fun _ _ _ h => h) (Or.inl ⟨by rfl, ?_⟩) ?_ ?_
                rotate_left
                · intro w'
                  go_simp
                  with_reducible rfl
                rotate_left
                · simp only [Act.put, List.setIfInBounds_toArray, List.set_cons_zero, List.set_cons_succ, i64_w, i32_w]
                  rfl
                refine pure_ (i := 8) (N := some 38) (v := ?_) (a' := ?_) #[true, true, true, true, true, true, true, true, true, true, true, true, true, true, false, false, false, false, false] rfl rfl (any_of HT_.out (by kernel_rfl)) (fun _ _ _ h => h) (Or.inl ⟨by rfl, ?_⟩) ?_ ?_
                rotate_left
                · intro w'
                  go_simp
                  with_reducible rfl
                rotate_left
                · simp only [Act.put, List.setIfInBounds_toArray, List.set_cons_zero, List.set_cons_succ, i64_w, i32_w]
                  rfl
                refine take_ (i := 14) (N := some 44) (v := ?_) (a' := ?_) #[true, true, true, true, true, true, true, true, true, true, true, true, true, true, true, false, false, false, false] rfl rfl (take_ofW HT_.out HW_.out (by kernel_rfl)) (fun _ _ _ h => h) (Or.inl ⟨by rfl, ?_⟩) hHeld ?_ ?_
                rotate_left
                · rintro w' ⟨s0, s1, s2, s3, s4, s5, s6, s7⟩
                  go_simp
                  with_reducible rfl
                rotate_left
                · simp only [Act.put, List.setIfInBounds_toArray, List.set_cons_zero, List.set_cons_succ, i64_w, i32_w]
                  rfl
                refine pure_ (i := 15) (N := some 45) (v := ?_) (a' := ?_) #[true, true, true, true, true, true, true, true, true, true, true, true, true, true, true, true, false, false, false] rfl rfl (any_of HT_.out (by kernel_rfl)) (fun _ _ _ h => h) (Or.inl ⟨by rfl, ?_⟩) ?_ ?_
                rotate_left
                · intro w'
                  go_simp
                  with_reducible rfl
                rotate_left
                · simp only [Act.put, List.setIfInBounds_toArray, List.set_cons_zero, List.set_cons_succ, i64_w, i32_w]
                  rfl
                refine pure_ (i := 16) (N := some 46) (v := ?_) (a' := ?_) #[true, true, true, true, true, true, true, true, true, true, true, true, true, true, true, true, true, false, false] rfl rfl (any_of HT_.out (by kernel_rfl)) (fun _ _ _ h => h) (Or.inl ⟨by rfl, ?_⟩) ?_ ?_
                rotate_left
                · intro w'
                  go_simp
                  with_reducible rfl
                rotate_left
                · simp only [Act.put, List.setIfInBounds_toArray, List.set_cons_zero, List.set_cons_succ, i64_w, i32_w]
                  rfl
                refine one_ (i := 17) (N := some 10) #[true, true, true, true, true, true, true, true, true, true, true, true, true, true, true, true, true, true, false] rfl rfl (one_of HT_.out (by kernel_rfl)) (by decide) (fun K hK => ?_)
                refine box_step ?hg (N := 10) ?hd (cs := #[.int .i64 0, .int .i64 0, .int .u8 0]) (t := 49) ?hr ?_; (case hd => rfl); (case hg => rfl); (case hr => first | (go_simp; done) | (go_simp; rfl))
                intro gb222 hg w10 hbox hb
                have n0_ := Aside0.mk (Kd.R_below (Kd.R_elderB (by (with_reducible repeat (first | apply Kd.R_alloc | apply Kd.R_drewN | apply Kd.R_drew)); exact HO_5.out) gb222 (Nat.le_of_eq hg.symm)) hb)
                have n1_ := Aside0.mk (below_step (by repeat (first | (with_reducible first | exact HB.out | apply below_alloc | apply pw_below_drewN | apply below_drew1) | exact HB.out)) hb)
                have n2_ := Aside0.mk (hbox)
                have n3_ := Aside0.mk ((by rw [hg]; exact (below_size (by repeat (first | (with_reducible first | exact HB.out | apply below_alloc | apply pw_below_drewN | apply below_drew1) | exact HB.out))) : w.heap.size ≤ gb222))
                have n4_ := Aside0.mk ((by rw [hg]; exact (below_size (by repeat (first | (with_reducible first | exact HB.out | apply below_alloc | apply pw_below_drewN | apply below_drew1) | exact HB.out))) : w.heap.size ≤ gb222))
                clear HO_5
                clear HB
                have HO_5 := n0_
                have HB := n1_
                have BK222 := n2_
                have GW222 := n3_
                have GE222 := n4_
                clear n0_ n1_ n2_ n3_ n4_
                clear hb hbox hg
                refine hK.out _ _ ⟨((HB.out.cell (World.block_lt_of_cell? w _ hw220_0)).trans hw220_0), ((HB.out.cell (World.block_lt_of_cell? w _ hw220_1)).trans hw220_1), ((HB.out.cell (World.block_lt_of_cell? w _ hw220_2)).trans hw220_2), ((HB.out.cell (World.block_lt_of_cell? w _ hw220_3)).trans hw220_3), ((HB.out.cell (World.block_lt_of_cell? w _ hw221_0)).trans hw221_0), ((HB.out.cell (World.block_lt_of_cell? w _ hw221_1)).trans hw221_1), ((HB.out.cell (World.block_lt_of_cell? w _ hw221_2)).trans hw221_2), ((HB.out.cell (World.block_lt_of_cell? w _ hw221_3)).trans hw221_3)⟩ (fun hHeld => ?_)
                clear hK K
                refine norm_ (a' := ?_) ?_ ?_
                rotate_left
                · show Act.put _ (some 10) _ = _
                  simp only [Act.put, List.setIfInBounds_toArray, List.set_cons_zero, List.set_cons_succ, i64_w, i32_w]
                  rfl
                refine one_ (i := 18) (N := none) #[true, true, true, true, true, true, true, true, true, true, true, true, true, true, true, true, true, true, true] rfl rfl (one_of HT_.out (by kernel_rfl)) (by decide) (fun K hK => ?_)
                have hs11 : w10.cell? ⟨gb222, 0, none⟩ = some (.int .i64 0) := (blk_cell BK222.out 0).trans rfl
                have hfs11 := blk_frozen BK222.out 0
                have hs12 : w10.cell? ⟨gb222, 1, none⟩ = some (.int .i64 0) := (blk_cell BK222.out 1).trans rfl
                have hfs12 := blk_frozen BK222.out 1
                have hs13 : w10.cell? ⟨gb222, 2, none⟩ = some (.int .u8 0) := (blk_cell BK222.out 2).trans rfl
                have hfs13 := blk_frozen BK222.out 2
                refine skip_ (w1 := ?_) (by rfl) rfl ?_ ?_
                rotate_left
                · go_simp
                  rfl
                refine hK.out _ _ ⟨((cell_far (p := ⟨gb222, _, none⟩) (by first | exact Nat.ne_of_lt (Nat.lt_of_lt_of_le (by have := World.block_lt_of_cell? _ _ hw220_0; first | rwa [add_block] at this | exact this) GW222.out) | (rw [add_block]; exact Nat.ne_of_lt (Nat.lt_of_lt_of_le (by have := World.block_lt_of_cell? _ _ hw220_0; first | rwa [add_block] at this | exact this) GW222.out)) | (show (Addr.add _ _).block ≠ _; rw [add_block]; exact Nat.ne_of_lt (Nat.lt_of_lt_of_le (by have := World.block_lt_of_cell? _ _ hw220_0; first | rwa [add_block] at this | exact this) GW222.out)) | (dsimp only; exact Nat.ne_of_lt (Nat.lt_of_lt_of_le (by have := World.block_lt_of_cell? _ _ hw220_0; first | rwa [add_block] at this | exact this) GW222.out))) _).trans (((cell_far (p := ⟨gb222, _, none⟩) (by first | exact Nat.ne_of_lt (Nat.lt_of_lt_of_le (by have := World.block_lt_of_cell? _ _ hw220_0; first | rwa [add_block] at this | exact this) GW222.out) | (rw [add_block]; exact Nat.ne_of_lt (Nat.lt_of_lt_of_le (by have := World.block_lt_of_cell? _ _ hw220_0; first | rwa [add_block] at this | exact this) GW222.out)) | (show (Addr.add _ _).block ≠ _; rw [add_block]; exact Nat.ne_of_lt (Nat.lt_of_lt_of_le (by have := World.block_lt_of_cell? _ _ hw220_0; first | rwa [add_block] at this | exact this) GW222.out)) | (dsimp only; exact Nat.ne_of_lt (Nat.lt_of_lt_of_le (by have := World.block_lt_of_cell? _ _ hw220_0; first | rwa [add_block] at this | exact this) GW222.out))) _).trans (((cell_far (p := ⟨gb222, _, none⟩) (by first | exact Nat.ne_of_lt (Nat.lt_of_lt_of_le (by have := World.block_lt_of_cell? _ _ hw220_0; first | rwa [add_block] at this | exact this) GW222.out) | (rw [add_block]; exact Nat.ne_of_lt (Nat.lt_of_lt_of_le (by have := World.block_lt_of_cell? _ _ hw220_0; first | rwa [add_block] at this | exact this) GW222.out)) | (show (Addr.add _ _).block ≠ _; rw [add_block]; exact Nat.ne_of_lt (Nat.lt_of_lt_of_le (by have := World.block_lt_of_cell? _ _ hw220_0; first | rwa [add_block] at this | exact this) GW222.out)) | (dsimp only; exact Nat.ne_of_lt (Nat.lt_of_lt_of_le (by have := World.block_lt_of_cell? _ _ hw220_0; first | rwa [add_block] at this | exact this) GW222.out))) _).trans (hHeld.1)))))), ((cell_far (p := ⟨gb222, _, none⟩) (by first | exact Nat.ne_of_lt (Nat.lt_of_lt_of_le (by have := World.block_lt_of_cell? _ _ hw220_1; first | rwa [add_block] at this | exact this) GW222.out) | (rw [add_block]; exact Nat.ne_of_lt (Nat.lt_of_lt_of_le (by have := World.block_lt_of_cell? _ _ hw220_1; first | rwa [add_block] at this | exact this) GW222.out)) | (show (Addr.add _ _).block ≠ _; rw [add_block]; exact Nat.ne_of_lt (Nat.lt_of_lt_of_le (by have := World.block_lt_of_cell? _ _ hw220_1; first | rwa [add_block] at this | exact this) GW222.out)) | (dsimp only; exact Nat.ne_of_lt (Nat.lt_of_lt_of_le (by have := World.block_lt_of_cell? _ _ hw220_1; first | rwa [add_block] at this | exact this) GW222.out))) _).trans (((cell_far (p := ⟨gb222, _, none⟩) (by first | exact Nat.ne_of_lt (Nat.lt_of_lt_of_le (by have := World.block_lt_of_cell? _ _ hw220_1; first | rwa [add_block] at this | exact this) GW222.out) | (rw [add_block]; exact Nat.ne_of_lt (Nat.lt_of_lt_of_le (by have := World.block_lt_of_cell? _ _ hw220_1; first | rwa [add_block] at this | exact this) GW222.out)) | (show (Addr.add _ _).block ≠ _; rw [add_block]; exact Nat.ne_of_lt (Nat.lt_of_lt_of_le (by have := World.block_lt_of_cell? _ _ hw220_1; first | rwa [add_block] at this | exact this) GW222.out)) | (dsimp only; exact Nat.ne_of_lt (Nat.lt_of_lt_of_le (by have := World.block_lt_of_cell? _ _ hw220_1; first | rwa [add_block] at this | exact this) GW222.out))) _).trans (((cell_far (p := ⟨gb222, _, none⟩) (by first | exact Nat.ne_of_lt (Nat.lt_of_lt_of_le (by have := World.block_lt_of_cell? _ _ hw220_1; first | rwa [add_block] at this | exact this) GW222.out) | (rw [add_block]; exact Nat.ne_of_lt (Nat.lt_of_lt_of_le (by have := World.block_lt_of_cell? _ _ hw220_1; first | rwa [add_block] at this | exact this) GW222.out)) | (show (Addr.add _ _).block ≠ _; rw [add_block]; exact Nat.ne_of_lt (Nat.lt_of_lt_of_le (by have := World.block_lt_of_cell? _ _ hw220_1; first | rwa [add_block] at this | exact this) GW222.out)) | (dsimp only; exact Nat.ne_of_lt (Nat.lt_of_lt_of_le (by have := World.block_lt_of_cell? _ _ hw220_1; first | rwa [add_block] at this | exact this) GW222.out))) _).trans (hHeld.2.1)))))), ((cell_far (p := ⟨gb222, _, none⟩) (by first | exact Nat.ne_of_lt (Nat.lt_of_lt_of_le (by have := World.block_lt_of_cell? _ _ hw220_2; first | rwa [add_block] at this | exact this) GW222.out) | (rw [add_block]; exact Nat.ne_of_lt (Nat.lt_of_lt_of_le (by have := World.block_lt_of_cell? _ _ hw220_2; first | rwa [add_block] at this | exact this) GW222.out)) | (show (Addr.add _ _).block ≠ _; rw [add_block]; exact Nat.ne_of_lt (Nat.lt_of_lt_of_le (by have := World.block_lt_of_cell? _ _ hw220_2; first | rwa [add_block] at this | exact this) GW222.out)) | (dsimp only; exact Nat.ne_of_lt (Nat.lt_of_lt_of_le (by have := World.block_lt_of_cell? _ _ hw220_2; first | rwa [add_block] at this | exact this) GW222.out))) _).trans (((cell_far (p := ⟨gb222, _, none⟩) (by first | exact Nat.ne_of_lt (Nat.lt_of_lt_of_le (by have := World.block_lt_of_cell? _ _ hw220_2; first | rwa [add_block] at this | exact this) GW222.out) | (rw [add_block]; exact Nat.ne_of_lt (Nat.lt_of_lt_of_le (by have := World.block_lt_of_cell? _ _ hw220_2; first | rwa [add_block] at this | exact this) GW222.out)) | (show (Addr.add _ _).block ≠ _; rw [add_block]; exact Nat.ne_of_lt (Nat.lt_of_lt_of_le (by have := World.block_lt_of_cell? _ _ hw220_2; first | rwa [add_block] at this | exact this) GW222.out)) | (dsimp only; exact Nat.ne_of_lt (Nat.lt_of_lt_of_le (by have := World.block_lt_of_cell? _ _ hw220_2; first | rwa [add_block] at this | exact this) GW222.out))) _).trans (((cell_far (p := ⟨gb222, _, none⟩) (by first | exact Nat.ne_of_lt (Nat.lt_of_lt_of_le (by have := World.block_lt_of_cell? _ _ hw220_2; first | rwa [add_block] at this | exact this) GW222.out) | (rw [add_block]; exact Nat.ne_of_lt (Nat.lt_of_lt_of_le (by have := World.block_lt_of_cell? _ _ hw220_2; first | rwa [add_block] at this | exact this) GW222.out)) | (show (Addr.add _ _).block ≠ _; rw [add_block]; exact Nat.ne_of_lt (Nat.lt_of_lt_of_le (by have := World.block_lt_of_cell? _ _ hw220_2; first | rwa [add_block] at this | exact this) GW222.out)) | (dsimp only; exact Nat.ne_of_lt (Nat.lt_of_lt_of_le (by have := World.block_lt_of_cell? _ _ hw220_2; first | rwa [add_block] at this | exact this) GW222.out))) _).trans (hHeld.2.2.1)))))), ((cell_far (p := ⟨gb222, _, none⟩) (by first | exact Nat.ne_of_lt (Nat.lt_of_lt_of_le (by have := World.block_lt_of_cell? _ _ hw220_3; first | rwa [add_block] at this | exact this) GW222.out) | (rw [add_block]; exact Nat.ne_of_lt (Nat.lt_of_lt_of_le (by have := World.block_lt_of_cell? _ _ hw220_3; first | rwa [add_block] at this | exact this) GW222.out)) | (show (Addr.add _ _).block ≠ _; rw [add_block]; exact Nat.ne_of_lt (Nat.lt_of_lt_of_le (by have := World.block_lt_of_cell? _ _ hw220_3; first | rwa [add_block] at this | exact this) GW222.out)) | (dsimp only; exact Nat.ne_of_lt (Nat.lt_of_lt_of_le (by have := World.block_lt_of_cell? _ _ hw220_3; first | rwa [add_block] at this | exact this) GW222.out))) _).trans (((cell_far (p := ⟨gb222, _, none⟩) (by first | exact Nat.ne_of_lt (Nat.lt_of_lt_of_le (by have := World.block_lt_of_cell? _ _ hw220_3; first | rwa [add_block] at this | exact this) GW222.out) | (rw [add_block]; exact Nat.ne_of_lt (Nat.lt_of_lt_of_le (by have := World.block_lt_of_cell? _ _ hw220_3; first | rwa [add_block] at this | exact this) GW222.out)) | (show (Addr.add _ _).block ≠ _; rw [add_block]; exact Nat.ne_of_lt (Nat.lt_of_lt_of_le (by have := World.block_lt_of_cell? _ _ hw220_3; first | rwa [add_block] at this | exact this) GW222.out)) | (dsimp only; exact Nat.ne_of_lt (Nat.lt_of_lt_of_le (by have := World.block_lt_of_cell? _ _ hw220_3; first | rwa [add_block] at this | exact this) GW222.out))) _).trans (((cell_far (p := ⟨gb222, _, none⟩) (by first | exact Nat.ne_of_lt (Nat.lt_of_lt_of_le (by have := World.block_lt_of_cell? _ _ hw220_3; first | rwa [add_block] at this | exact this) GW222.out) | (rw [add_block]; exact Nat.ne_of_lt (Nat.lt_of_lt_of_le (by have := World.block_lt_of_cell? _ _ hw220_3; first | rwa [add_block] at this | exact this) GW222.out)) | (show (Addr.add _ _).block ≠ _; rw [add_block]; exact Nat.ne_of_lt (Nat.lt_of_lt_of_le (by have := World.block_lt_of_cell? _ _ hw220_3; first | rwa [add_block] at this | exact this) GW222.out)) | (dsimp only; exact Nat.ne_of_lt (Nat.lt_of_lt_of_le (by have := World.block_lt_of_cell? _ _ hw220_3; first | rwa [add_block] at this | exact this) GW222.out))) _).trans (hHeld.2.2.2.1)))))), ((cell_far (p := ⟨gb222, _, none⟩) (by first | exact Nat.ne_of_lt (Nat.lt_of_lt_of_le (by have := World.block_lt_of_cell? _ _ hw221_0; first | rwa [add_block] at this | exact this) GW222.out) | (rw [add_block]; exact Nat.ne_of_lt (Nat.lt_of_lt_of_le (by have := World.block_lt_of_cell? _ _ hw221_0; first | rwa [add_block] at this | exact this) GW222.out)) | (show (Addr.add _ _).block ≠ _; rw [add_block]; exact Nat.ne_of_lt (Nat.lt_of_lt_of_le (by have := World.block_lt_of_cell? _ _ hw221_0; first | rwa [add_block] at this | exact this) GW222.out)) | (dsimp only; exact Nat.ne_of_lt (Nat.lt_of_lt_of_le (by have := World.block_lt_of_cell? _ _ hw221_0; first | rwa [add_block] at this | exact this) GW222.out))) _).trans (((cell_far (p := ⟨gb222, _, none⟩) (by first | exact Nat.ne_of_lt (Nat.lt_of_lt_of_le (by have := World.block_lt_of_cell? _ _ hw221_0; first | rwa [add_block] at this | exact this) GW222.out) | (rw [add_block]; exact Nat.ne_of_lt (Nat.lt_of_lt_of_le (by have := World.block_lt_of_cell? _ _ hw221_0; first | rwa [add_block] at this | exact this) GW222.out)) | (show (Addr.add _ _).block ≠ _; rw [add_block]; exact Nat.ne_of_lt (Nat.lt_of_lt_of_le (by have := World.block_lt_of_cell? _ _ hw221_0; first | rwa [add_block] at this | exact this) GW222.out)) | (dsimp only; exact Nat.ne_of_lt (Nat.lt_of_lt_of_le (by have := World.block_lt_of_cell? _ _ hw221_0; first | rwa [add_block] at this | exact this) GW222.out))) _).trans (((cell_far (p := ⟨gb222, _, none⟩) (by first | exact Nat.ne_of_lt (Nat.lt_of_lt_of_le (by have := World.block_lt_of_cell? _ _ hw221_0; first | rwa [add_block] at this | exact this) GW222.out) | (rw [add_block]; exact Nat.ne_of_lt (Nat.lt_of_lt_of_le (by have := World.block_lt_of_cell? _ _ hw221_0; first | rwa [add_block] at this | exact this) GW222.out)) | (show (Addr.add _ _).block ≠ _; rw [add_block]; exact Nat.ne_of_lt (Nat.lt_of_lt_of_le (by have := World.block_lt_of_cell? _ _ hw221_0; first | rwa [add_block] at this | exact this) GW222.out)) | (dsimp only; exact Nat.ne_of_lt (Nat.lt_of_lt_of_le (by have := World.block_lt_of_cell? _ _ hw221_0; first | rwa [add_block] at this | exact this) GW222.out))) _).trans (hHeld.2.2.2.2.1)))))), ((cell_far (p := ⟨gb222, _, none⟩) (by first | exact Nat.ne_of_lt (Nat.lt_of_lt_of_le (by have := World.block_lt_of_cell? _ _ hw221_1; first | rwa [add_block] at this | exact this) GW222.out) | (rw [add_block]; exact Nat.ne_of_lt (Nat.lt_of_lt_of_le (by have := World.block_lt_of_cell? _ _ hw221_1; first | rwa [add_block] at this | exact this) GW222.out)) | (show (Addr.add _ _).block ≠ _; rw [add_block]; exact Nat.ne_of_lt (Nat.lt_of_lt_of_le (by have := World.block_lt_of_cell? _ _ hw221_1; first | rwa [add_block] at this | exact this) GW222.out)) | (dsimp only; exact Nat.ne_of_lt (Nat.lt_of_lt_of_le (by have := World.block_lt_of_cell? _ _ hw221_1; first | rwa [add_block] at this | exact this) GW222.out))) _).trans (((cell_far (p := ⟨gb222, _, none⟩) (by first | exact Nat.ne_of_lt (Nat.lt_of_lt_of_le (by have := World.block_lt_of_cell? _ _ hw221_1; first | rwa [add_block] at this | exact this) GW222.out) | (rw [add_block]; exact Nat.ne_of_lt (Nat.lt_of_lt_of_le (by have := World.block_lt_of_cell? _ _ hw221_1; first | rwa [add_block] at this | exact this) GW222.out)) | (show (Addr.add _ _).block ≠ _; rw [add_block]; exact Nat.ne_of_lt (Nat.lt_of_lt_of_le (by have := World.block_lt_of_cell? _ _ hw221_1; first | rwa [add_block] at this | exact this) GW222.out)) | (dsimp only; exact Nat.ne_of_lt (Nat.lt_of_lt_of_le (by have := World.block_lt_of_cell? _ _ hw221_1; first | rwa [add_block] at this | exact this) GW222.out))) _).trans (((cell_far (p := ⟨gb222, _, none⟩) (by first | exact Nat.ne_of_lt (Nat.lt_of_lt_of_le (by have := World.block_lt_of_cell? _ _ hw221_1; first | rwa [add_block] at this | exact this) GW222.out) | (rw [add_block]; exact Nat.ne_of_lt (Nat.lt_of_lt_of_le (by have := World.block_lt_of_cell? _ _ hw221_1; first | rwa [add_block] at this | exact this) GW222.out)) | (show (Addr.add _ _).block ≠ _; rw [add_block]; exact Nat.ne_of_lt (Nat.lt_of_lt_of_le (by have := World.block_lt_of_cell? _ _ hw221_1; first | rwa [add_block] at this | exact this) GW222.out)) | (dsimp only; exact Nat.ne_of_lt (Nat.lt_of_lt_of_le (by have := World.block_lt_of_cell? _ _ hw221_1; first | rwa [add_block] at this | exact this) GW222.out))) _).trans (hHeld.2.2.2.2.2.1)))))), ((cell_far (p := ⟨gb222, _, none⟩) (by first | exact Nat.ne_of_lt (Nat.lt_of_lt_of_le (by have := World.block_lt_of_cell? _ _ hw221_2; first | rwa [add_block] at this | exact this) GW222.out) | (rw [add_block]; exact Nat.ne_of_lt (Nat.lt_of_lt_of_le (by have := World.block_lt_of_cell? _ _ hw221_2; first | rwa [add_block] at this | exact this) GW222.out)) | (show (Addr.add _ _).block ≠ _; rw [add_block]; exact Nat.ne_of_lt (Nat.lt_of_lt_of_le (by have := World.block_lt_of_cell? _ _ hw221_2; first | rwa [add_block] at this | exact this) GW222.out)) | (dsimp only; exact Nat.ne_of_lt (Nat.lt_of_lt_of_le (by have := World.block_lt_of_cell? _ _ hw221_2; first | rwa [add_block] at this | exact this) GW222.out))) _).trans (((cell_far (p := ⟨gb222, _, none⟩) (by first | exact Nat.ne_of_lt (Nat.lt_of_lt_of_le (by have := World.block_lt_of_cell? _ _ hw221_2; first | rwa [add_block] at this | exact this) GW222.out) | (rw [add_block]; exact Nat.ne_of_lt (Nat.lt_of_lt_of_le (by have := World.block_lt_of_cell? _ _ hw221_2; first | rwa [add_block] at this | exact this) GW222.out)) | (show (Addr.add _ _).block ≠ _; rw [add_block]; exact Nat.ne_of_lt (Nat.lt_of_lt_of_le (by have := World.block_lt_of_cell? _ _ hw221_2; first | rwa [add_block] at this | exact this) GW222.out)) | (dsimp only; exact Nat.ne_of_lt (Nat.lt_of_lt_of_le (by have := World.block_lt_of_cell? _ _ hw221_2; first | rwa [add_block] at this | exact this) GW222.out))) _).trans (((cell_far (p := ⟨gb222, _, none⟩) (by first | exact Nat.ne_of_lt (Nat.lt_of_lt_of_le (by have := World.block_lt_of_cell? _ _ hw221_2; first | rwa [add_block] at this | exact this) GW222.out) | (rw [add_block]; exact Nat.ne_of_lt (Nat.lt_of_lt_of_le (by have := World.block_lt_of_cell? _ _ hw221_2; first | rwa [add_block] at this | exact this) GW222.out)) | (show (Addr.add _ _).block ≠ _; rw [add_block]; exact Nat.ne_of_lt (Nat.lt_of_lt_of_le (by have := World.block_lt_of_cell? _ _ hw221_2; first | rwa [add_block] at this | exact this) GW222.out)) | (dsimp only; exact Nat.ne_of_lt (Nat.lt_of_lt_of_le (by have := World.block_lt_of_cell? _ _ hw221_2; first | rwa [add_block] at this | exact this) GW222.out))) _).trans (hHeld.2.2.2.2.2.2.1)))))), ((cell_far (p := ⟨gb222, _, none⟩) (by first | exact Nat.ne_of_lt (Nat.lt_of_lt_of_le (by have := World.block_lt_of_cell? _ _ hw221_3; first | rwa [add_block] at this | exact this) GW222.out) | (rw [add_block]; exact Nat.ne_of_lt (Nat.lt_of_lt_of_le (by have := World.block_lt_of_cell? _ _ hw221_3; first | rwa [add_block] at this | exact this) GW222.out)) | (show (Addr.add _ _).block ≠ _; rw [add_block]; exact Nat.ne_of_lt (Nat.lt_of_lt_of_le (by have := World.block_lt_of_cell? _ _ hw221_3; first | rwa [add_block] at this | exact this) GW222.out)) | (dsimp only; exact Nat.ne_of_lt (Nat.lt_of_lt_of_le (by have := World.block_lt_of_cell? _ _ hw221_3; first | rwa [add_block] at this | exact this) GW222.out))) _).trans (((cell_far (p := ⟨gb222, _, none⟩) (by first | exact Nat.ne_of_lt (Nat.lt_of_lt_of_le (by have := World.block_lt_of_cell? _ _ hw221_3; first | rwa [add_block] at this | exact this) GW222.out) | (rw [add_block]; exact Nat.ne_of_lt (Nat.lt_of_lt_of_le (by have := World.block_lt_of_cell? _ _ hw221_3; first | rwa [add_block] at this | exact this) GW222.out)) | (show (Addr.add _ _).block ≠ _; rw [add_block]; exact Nat.ne_of_lt (Nat.lt_of_lt_of_le (by have := World.block_lt_of_cell? _ _ hw221_3; first | rwa [add_block] at this | exact this) GW222.out)) | (dsimp only; exact Nat.ne_of_lt (Nat.lt_of_lt_of_le (by have := World.block_lt_of_cell? _ _ hw221_3; first | rwa [add_block] at this | exact this) GW222.out))) _).trans (((cell_far (p := ⟨gb222, _, none⟩) (by first | exact Nat.ne_of_lt (Nat.lt_of_lt_of_le (by have := World.block_lt_of_cell? _ _ hw221_3; first | rwa [add_block] at this | exact this) GW222.out) | (rw [add_block]; exact Nat.ne_of_lt (Nat.lt_of_lt_of_le (by have := World.block_lt_of_cell? _ _ hw221_3; first | rwa [add_block] at this | exact this) GW222.out)) | (show (Addr.add _ _).block ≠ _; rw [add_block]; exact Nat.ne_of_lt (Nat.lt_of_lt_of_le (by have := World.block_lt_of_cell? _ _ hw221_3; first | rwa [add_block] at this | exact this) GW222.out)) | (dsimp only; exact Nat.ne_of_lt (Nat.lt_of_lt_of_le (by have := World.block_lt_of_cell? _ _ hw221_3; first | rwa [add_block] at this | exact this) GW222.out))) _).trans (hHeld.2.2.2.2.2.2.2))))))⟩ (fun hHeld => ?_)
                clear hK K
                refine done_ (done_of HT_.out (by kernel_rfl)) ?_
                try go_wp2
                have n0_ : Aside0 (Kd.R k49 49 (((w10.setCell ⟨gb222, 0, none⟩ (.int .i64 (wrap64 (Int.tmod (IntKind.u64.wrap ((rd_T48 l0 x9_1).f1.f0)) 64)))).setCell ⟨gb222, 1, none⟩ (.int .i64 0)).setCell ⟨gb222, 2, none⟩ (.int .u8 (Int.tmod ((rd_T48 l0 x9_1).f1.f2) 8))) w.heap.size (fun k_ => k_ ≠ gb222) u5 x5_1) := ⟨by (with_reducible repeat (first | apply Kd.R_alloc | apply Kd.R_drewN | apply Kd.R_drew)); exact Kd.R_mono (Kd.R_far (p := ⟨gb222, 2, none⟩) (Kd.R_far (p := ⟨gb222, 1, none⟩) (Kd.R_far (p := ⟨gb222, 0, none⟩) (Kd.R_mono HO_5.out (fun k_ hk => (⟨hk, hk.2⟩ : _ ∧ k_ ≠ gb222))) (fun _ hk => hk.2) (.int .i64 (wrap64 (Int.tmod (IntKind.u64.wrap ((rd_T48 l0 x9_1).f1.f0)) 64)))) (fun _ hk => hk.2) (.int .i64 0)) (fun _ hk => hk.2) (.int .u8 (Int.tmod ((rd_T48 l0 x9_1).f1.f2) 8))) (fun _ hk => hk.1.2)⟩
                have n1_ : Aside0 ((((w10.setCell ⟨gb222, 0, none⟩ (.int .i64 (wrap64 (Int.tmod (IntKind.u64.wrap ((rd_T48 l0 x9_1).f1.f0)) 64)))).setCell ⟨gb222, 1, none⟩ (.int .i64 0)).setCell ⟨gb222, 2, none⟩ (.int .u8 (Int.tmod ((rd_T48 l0 x9_1).f1.f2) 8))).heap[gb222]? = some (.cells #[.int .i64 (wrap64 (Int.tmod (IntKind.u64.wrap ((rd_T48 l0 x9_1).f1.f0)) 64)), .int .i64 0, .int .u8 (Int.tmod ((rd_T48 l0 x9_1).f1.f2) 8)] 49 (0, 0))) := ⟨by (with_reducible repeat (first | refine blk_drewN ?_ _ | refine blk_drew ?_ | refine blk_alloc ?_ _)); refine blk_put (cs := #[.int .i64 (wrap64 (Int.tmod (IntKind.u64.wrap ((rd_T48 l0 x9_1).f1.f0)) 64)), .int .i64 0, .int .u8 0]) ?_ 2 _ rfl; (with_reducible repeat (first | refine blk_drewN ?_ _ | refine blk_drew ?_ | refine blk_alloc ?_ _)); refine blk_put (cs := #[.int .i64 (wrap64 (Int.tmod (IntKind.u64.wrap ((rd_T48 l0 x9_1).f1.f0)) 64)), .int .i64 0, .int .u8 0]) ?_ 1 _ rfl; (with_reducible repeat (first | refine blk_drewN ?_ _ | refine blk_drew ?_ | refine blk_alloc ?_ _)); refine blk_put (cs := #[.int .i64 0, .int .i64 0, .int .u8 0]) ?_ 0 _ rfl; (with_reducible repeat (first | refine blk_drewN ?_ _ | refine blk_drew ?_ | refine blk_alloc ?_ _)); exact BK222.out⟩
                have n2_ : Aside0 (Below w.heap.size w (((w10.setCell ⟨gb222, 0, none⟩ (.int .i64 (wrap64 (Int.tmod (IntKind.u64.wrap ((rd_T48 l0 x9_1).f1.f0)) 64)))).setCell ⟨gb222, 1, none⟩ (.int .i64 0)).setCell ⟨gb222, 2, none⟩ (.int .u8 (Int.tmod ((rd_T48 l0 x9_1).f1.f2) 8)))) := ⟨by repeat (first | (with_reducible first | exact HB.out | apply below_alloc | apply pw_below_drewN | apply below_drew1 | refine below_set ?_ GE222.out) | exact HB.out)⟩
                (try clear HO_5)
                (try clear BK222)
                (try clear HB)
                generalize (((w10.setCell ⟨gb222, 0, none⟩ (.int .i64 (wrap64 (Int.tmod (IntKind.u64.wrap ((rd_T48 l0 x9_1).f1.f0)) 64)))).setCell ⟨gb222, 1, none⟩ (.int .i64 0)).setCell ⟨gb222, 2, none⟩ (.int .u8 (Int.tmod ((rd_T48 l0 x9_1).f1.f2) 8))) = w14 at n0_ n1_ n2_ ⊢
                have HO_5 := n0_
                have BK222 := n1_
                have HB := n2_
                clear n0_ n1_ n2_
                have n0_ := Aside0.mk (Kd.R_drew HO_5.out)
                have n1_ := Aside0.mk (blk_drew BK222.out)
                have n2_ := Aside0.mk (below_drew1 HB.out)
                clear HO_5
                clear BK222
                clear HB
                have HO_5 := n0_
                have BK222 := n1_
                have HB := n2_
                clear n0_ n1_ n2_
                have p223 : 0 ≤ (x9_1 : Int) := of_decide_eq_true (by first | (with_reducible assumption) | assumption)
                have q223 : x9_1 < (l0.length : Int) := of_decide_eq_true (by first | (with_reducible assumption) | assumption)
                obtain ⟨ad223, e223, hx223_0, hx223_1, hx223_2, hx223_3⟩ := at_T48 HR0.out x9_1 p223 q223
                have hw223_3 := hx223_3
                have hw223_2 := hx223_2
                have hw223_1 := hx223_1
                have hw223_0 := hx223_0
                obtain rfl : ad220 = ad223 := (by injection e223)
                replace hx223_0 := (HB.out.cell (World.block_lt_of_cell? w _ hx223_0)).trans hx223_0
                replace hx223_1 := (HB.out.cell (World.block_lt_of_cell? w _ hx223_1)).trans hx223_1
                replace hx223_2 := (HB.out.cell (World.block_lt_of_cell? w _ hx223_2)).trans hx223_2
                replace hx223_3 := (HB.out.cell (World.block_lt_of_cell? w _ hx223_3)).trans hx223_3
                replace p223 := eq_true p223
                replace q223 := eq_true q223
                refine start_ (n := 15) (S := fun w' => w'.cell? ⟨gb222, 0, none⟩ = some (.int .i64 (wrap64 (Int.tmod (IntKind.u64.wrap ((rd_T48 l0 x9_1).f1.f0)) 64))) ∧ w'.cell? ⟨gb222, 1, none⟩ = some (.int .i64 0) ∧ w'.cell? ⟨gb222, 2, none⟩ = some (.int .u8 (Int.tmod ((rd_T48 l0 x9_1).f1.f2) 8)) ∧ w'.cell? (ad220.add ((x9_1).toNat * 4)) = some (.int .i64 ((rd_T48 l0 x9_1).f0)) ∧ w'.cell? ⟨(ad220.add ((x9_1).toNat * 4)).block, (ad220.add ((x9_1).toNat * 4)).off + 1, none⟩ = some (.int .i64 ((rd_T48 l0 x9_1).f1.f0)) ∧ w'.cell? ⟨(ad220.add ((x9_1).toNat * 4)).block, (ad220.add ((x9_1).toNat * 4)).off + 2, none⟩ = some (.int .i64 ((rd_T48 l0 x9_1).f1.f1)) ∧ w'.cell? ⟨(ad220.add ((x9_1).toNat * 4)).block, (ad220.add ((x9_1).toNat * 4)).off + 3, none⟩ = some (.int .u8 ((rd_T48 l0 x9_1).f1.f2))) (ds := [14]) #[false, false, false, false, false, false, false, false, false, false, false, false, false, false, false] (by kernel_rfl) rfl rfl ⟨(blk_cell BK222.out 0).trans rfl, (blk_cell BK222.out 1).trans rfl, (blk_cell BK222.out 2).trans rfl, ((HB.out.cell (World.block_lt_of_cell? w _ hw223_0)).trans hw223_0), ((HB.out.cell (World.block_lt_of_cell? w _ hw223_1)).trans hw223_1), ((HB.out.cell (World.block_lt_of_cell? w _ hw223_2)).trans hw223_2), ((HB.out.cell (World.block_lt_of_cell? w _ hw223_3)).trans hw223_3)⟩ (fun hHeld => ?_); refine with_tabW halterlaw13_RegionKeeps.tab8 halterlaw13_RegionKeeps.bits8 (fun HT_ HW_ => ?_)
                generalize w14.drew = w15 at HO_5 BK222 HB hx223_0 hx223_1 hx223_2 hx223_3 hHeld ⊢
                refine pure_ (i := 0) (N := some 47) (v := ?_) (a' := ?_) #[true, false, false, false, false, false, false, false, false, false, false, false, false, false, false] rfl rfl (any_of HT_.out (by kernel_rfl)) (fun _ _ _ h => h) (Or.inl ⟨by rfl, ?_⟩) ?_ ?_
                rotate_left
                · intro w'
                  go_simp
                  with_reducible rfl
                rotate_left
                · simp only [Act.put, List.setIfInBounds_toArray, List.set_cons_zero, List.set_cons_succ, i64_w, i32_w]
                  rfl
                refine pure_ (i := 3) (N := some 50) (v := ?_) (a' := ?_) #[true, false, false, true, false, false, false, false, false, false, false, false, false, false, false] rfl rfl (any_of HT_.out (by kernel_rfl)) (fun _ _ _ h => h) (Or.inl ⟨by rfl, ?_⟩) ?_ ?_
                rotate_left
                · intro w'
                  go_simp
                  with_reducible rfl
                rotate_left
                · simp only [Act.put, List.setIfInBounds_toArray, List.set_cons_zero, List.set_cons_succ, i64_w, i32_w]
                  rfl
                refine pure_ (i := 4) (N := some 51) (v := ?_) (a' := ?_) #[true, false, false, true, true, false, false, false, false, false, false, false, false, false, false] rfl rfl (any_of HT_.out (by kernel_rfl)) (fun _ _ _ h => h) (Or.inl ⟨by rfl, ?_⟩) ?_ ?_
                rotate_left
                · intro w'
                  go_simp
                  with_reducible rfl
                rotate_left
                · simp only [Act.put, List.setIfInBounds_toArray, List.set_cons_zero, List.set_cons_succ, i64_w, i32_w]
                  rfl
                refine pure_ (i := 5) (N := some 52) (v := ?_) (a' := ?_) #[true, false, false, true, true, true, false, false, false, false, false, false, false, false, false] rfl rfl (any_of HT_.out (by kernel_rfl)) (fun _ _ _ h => h) (Or.inl ⟨by rfl, ?_⟩) ?_ ?_
                rotate_left
                · intro w'
                  go_simp
                  with_reducible rfl
                rotate_left
                · simp only [Act.put, List.setIfInBounds_toArray, List.set_cons_zero, List.set_cons_succ, i64_w, i32_w]
                  rfl
                refine pure_ (i := 6) (N := some 53) (v := ?_) (a' := ?_) #[true, false, false, true, true, true, true, false, false, false, false, false, false, false, false] rfl rfl (any_of HT_.out (by kernel_rfl)) (fun _ _ _ h => h) (Or.inl ⟨by rfl, ?_⟩) ?_ ?_
                rotate_left
                · intro w'
                  go_simp
                  with_reducible rfl
                rotate_left
                · simp only [Act.put, List.setIfInBounds_toArray, List.set_cons_zero, List.set_cons_succ, i64_w, i32_w]
                  rfl
                refine pure_ (i := 7) (N := some 54) (v := ?_) (a' := ?_) #[true, false, false, true, true, true, true, true, false, false, false, false, false, false, false] rfl rfl (any_of HT_.out (by kernel_rfl)) (fun _ _ _ h => h) (Or.inl ⟨by rfl, ?_⟩) ?_ ?_
                rotate_left
                · intro w'
                  go_simp
                  with_reducible rfl
                rotate_left
                · simp only [Act.put, List.setIfInBounds_toArray, List.set_cons_zero, List.set_cons_succ, i64_w, i32_w]
                  rfl
                refine take_ (i := 1) (N := some 48) (v := ?_) (a' := ?_) #[true, true, false, true, true, true, true, true, false, false, false, false, false, false, false] rfl rfl (take_ofW HT_.out HW_.out (by kernel_rfl)) (fun _ _ _ h => h) (Or.inl ⟨by rfl, ?_⟩) hHeld ?_ ?_
                rotate_left
                · rintro w' ⟨s0, s1, s2, s3, s4, s5, s6⟩
                  go_simp
                  with_reducible rfl
                rotate_left
                · simp only [Act.put, List.setIfInBounds_toArray, List.set_cons_zero, List.set_cons_succ, i64_w, i32_w]
                  rfl
                refine pure_ (i := 2) (N := some 49) (v := ?_) (a' := ?_) #[true, true, true, true, true, true, true, true, false, false, false, false, false, false, false] rfl rfl (any_of HT_.out (by kernel_rfl)) (fun _ _ _ h => h) (Or.inl ⟨by rfl, ?_⟩) ?_ ?_
                rotate_left
                · intro w'
                  go_simp
                  with_reducible rfl
                rotate_left
                · simp only [Act.put, List.setIfInBounds_toArray, List.set_cons_zero, List.set_cons_succ, i64_w, i32_w]
                  rfl
                refine take_ (i := 8) (N := some 55) (v := ?_) (a' := ?_) #[true, true, true, true, true, true, true, true, true, false, false, false, false, false, false] rfl rfl (take_ofW HT_.out HW_.out (by kernel_rfl)) (fun _ _ _ h => h) (Or.inl ⟨by rfl, ?_⟩) hHeld ?_ ?_
                rotate_left
                · rintro w' ⟨s0, s1, s2, s3, s4, s5, s6⟩
                  go_simp
                  with_reducible rfl
                rotate_left
                · simp only [Act.put, List.setIfInBounds_toArray, List.set_cons_zero, List.set_cons_succ, i64_w, i32_w]
                  rfl
                refine pure_ (i := 9) (N := some 56) (v := ?_) (a' := ?_) #[true, true, true, true, true, true, true, true, true, true, false, false, false, false, false] rfl rfl (any_of HT_.out (by kernel_rfl)) (fun _ _ _ h => h) (Or.inl ⟨by rfl, ?_⟩) ?_ ?_
                rotate_left
                · intro w'
                  go_simp
                  with_reducible rfl
                rotate_left
                · simp only [Act.put, List.setIfInBounds_toArray, List.set_cons_zero, List.set_cons_succ, i64_w, i32_w]
                  rfl
                refine pure_ (i := 10) (N := some 57) (v := ?_) (a' := ?_) #[true, true, true, true, true, true, true, true, true, true, true, false, false, false, false] rfl rfl (any_of HT_.out (by kernel_rfl)) (fun _ _ _ h => h) (Or.inl ⟨by rfl, ?_⟩) ?_ ?_
                rotate_left
                · intro w'
                  go_simp
                  with_reducible rfl
                rotate_left
                · simp only [Act.put, List.setIfInBounds_toArray, List.set_cons_zero, List.set_cons_succ, i64_w, i32_w]
                  rfl
                refine pure_ (i := 11) (N := some 58) (v := ?_) (a' := ?_) #[true, true, true, true, true, true, true, true, true, true, true, true, false, false, false] rfl rfl (any_of HT_.out (by kernel_rfl)) (fun _ _ _ h => h) (Or.inl ⟨by rfl, ?_⟩) ?_ ?_
                rotate_left
                · intro w'
                  go_simp
                  with_reducible rfl
                rotate_left
                · simp only [Act.put, List.setIfInBounds_toArray, List.set_cons_zero, List.set_cons_succ, i64_w, i32_w]
                  rfl
                refine pure_ (i := 12) (N := some 59) (v := ?_) (a' := ?_) #[true, true, true, true, true, true, true, true, true, true, true, true, true, false, false] rfl rfl (any_of HT_.out (by kernel_rfl)) (fun _ _ _ h => h) (Or.inl ⟨by rfl, ?_⟩) ?_ ?_
                rotate_left
                · intro w'
                  go_simp
                  with_reducible rfl
                rotate_left
                · simp only [Act.put, List.setIfInBounds_toArray, List.set_cons_zero, List.set_cons_succ, i64_w, i32_w]
                  rfl
                refine pure_ (i := 13) (N := some 60) (v := ?_) (a' := ?_) #[true, true, true, true, true, true, true, true, true, true, true, true, true, true, false] rfl rfl (any_of HT_.out (by kernel_rfl)) (fun _ _ _ h => h) (Or.inl ⟨by rfl, ?_⟩) ?_ ?_
                rotate_left
                · intro w'
                  go_simp
                  with_reducible rfl
                rotate_left
                · simp only [Act.put, List.setIfInBounds_toArray, List.set_cons_zero, List.set_cons_succ, i64_w, i32_w]
                  rfl
                refine last_ (i := 14) (N := none) #[true, true, true, true, true, true, true, true, true, true, true, true, true, true, true] rfl rfl (one_of HT_.out (by kernel_rfl)) (by decide) (fun K hK => ?_)
                have hs16 : w15.cell? ⟨gb222, 1, none⟩ = some (.int .i64 0) := (blk_cell BK222.out 1).trans rfl
                have hfs16 := blk_frozen BK222.out 1
                refine skip_ (w1 := ?_) (by rfl) rfl ?_ ?_
                rotate_left
                · go_simp
                  rfl
                refine hK.out _ _ ?_
                clear hK K
                refine done_ (done_of HT_.out (by kernel_rfl)) ?_
                go_upto_region 9 with (fail)
                go_cut [11] (fun v11 wc => ∃ (kq : Nat) (x11_7 : Bool), v11 = .bool x11_7 ∧ Aside0 (halterlaw13_RegionKeeps.j2 kq l0 x5_1 (wrap64 (Int.tmod (IntKind.u64.wrap (a1)) 64)) x7_1 x8_1 x9_1 x11_7 (wrap64 (Int.tmod (IntKind.u64.wrap ((rd_T48 l0 x9_1).f1.f0)) 64)) (wrap64 ((wrap64 ((wrap64 (Int.tmod (IntKind.u64.wrap ((rd_T48 l0 x9_1).f1.f0)) 64)) + 1)) + (wrap64 (Int.tmod (IntKind.u64.wrap ((rd_T48 l0 x9_1).f1.f1)) 20)))) (Int.tmod ((rd_T48 l0 x9_1).f1.f2) 8) = some r) ∧ Aside0 (kq ≤ kj2) ∧ Aside0 (Kd.R k49 49 wc w.heap.size (fun k_ => k_ ≠ gb222) u5 x5_1) ∧ Aside0 (wc.heap[gb222]? = some (.cells #[.int .i64 (wrap64 (Int.tmod (IntKind.u64.wrap ((rd_T48 l0 x9_1).f1.f0)) 64)), .int .i64 (wrap64 ((wrap64 ((wrap64 (Int.tmod (IntKind.u64.wrap ((rd_T48 l0 x9_1).f1.f0)) 64)) + 1)) + (wrap64 (Int.tmod (IntKind.u64.wrap ((rd_T48 l0 x9_1).f1.f1)) 20)))), .int .u8 (Int.tmod ((rd_T48 l0 x9_1).f1.f2) 8)] 49 (0, 0))) ∧ Aside0 (Below w.heap.size w wc))
                case first =>
                  have H := HC8.out
                  clear HC8
                  by_cases c17 : (wrap64 (Int.tmod (IntKind.u64.wrap (a1)) 64)) ≥ (wrap64 (Int.tmod (IntKind.u64.wrap ((rd_T48 l0 x9_1).f1.f0)) 64))
                  · rw [if_pos c17] at H
                    have c17b0 : decide ((wrap64 (Int.tmod (IntKind.u64.wrap ((rd_T48 l0 x9_1).f1.f0)) 64)) ≤ (wrap64 (Int.tmod (IntKind.u64.wrap (a1)) 64))) = true := decide_eq_true c17
                    clear c17
                    (first | rw [c17b0] | (simp only [i64_w, i32_w]; rw [c17b0]) | skip)
                    as_aux_lemma =>
                      have H' := Aside0.mk H
                      clear H
                      have hcz18_0 : w15.cell? ⟨gb222, 0, none⟩ = some (.int .i64 (wrap64 (Int.tmod (IntKind.u64.wrap ((rd_T48 l0 x9_1).f1.f0)) 64))) := (blk_cell BK222.out 0).trans rfl
                      have hcz18_1 : w15.cell? ⟨gb222, 1, none⟩ = some (.int .i64 0) := (blk_cell BK222.out 1).trans rfl
                      have hcz18_2 : w15.cell? ⟨gb222, 2, none⟩ = some (.int .u8 (Int.tmod ((rd_T48 l0 x9_1).f1.f2) 8)) := (blk_cell BK222.out 2).trans rfl
                      have hfz18_0 := blk_frozen BK222.out 0
                      have hfz18_1 := blk_frozen BK222.out 1
                      have hfz18_2 := blk_frozen BK222.out 2
                      go_wp2
                      go_meet
                      case rel => exact ⟨_, (decide ((wrap64 (Int.tmod (IntKind.u64.wrap (a1)) 64)) < (wrap64 ((wrap64 ((wrap64 (Int.tmod (IntKind.u64.wrap ((rd_T48 l0 x9_1).f1.f0)) 64)) + 1)) + (wrap64 (Int.tmod (IntKind.u64.wrap ((rd_T48 l0 x9_1).f1.f1)) 20)))))), (by first | rfl | (simp; done) | (simp [*]; done)), H', ⟨by have := HK1.out; have := HJ2.out; first | omega | exact Nat.le_refl _⟩, ⟨by (with_reducible repeat (first | apply Kd.R_alloc | apply Kd.R_drewN | apply Kd.R_drew)); exact Kd.R_mono (Kd.R_far (p := ⟨gb222, 1, none⟩) (Kd.R_mono HO_5.out (fun k_ hk => (⟨hk, hk⟩ : _ ∧ k_ ≠ gb222))) (fun _ hk => hk.2) (.int .i64 (wrap64 ((wrap64 ((wrap64 (Int.tmod (IntKind.u64.wrap ((rd_T48 l0 x9_1).f1.f0)) 64)) + 1)) + (wrap64 (Int.tmod (IntKind.u64.wrap ((rd_T48 l0 x9_1).f1.f1)) 20)))))) (fun _ hk => hk.1)⟩, ⟨by (with_reducible repeat (first | refine blk_drewN ?_ _ | refine blk_drew ?_ | refine blk_alloc ?_ _)); refine blk_put (cs := #[.int .i64 (wrap64 (Int.tmod (IntKind.u64.wrap ((rd_T48 l0 x9_1).f1.f0)) 64)), .int .i64 0, .int .u8 (Int.tmod ((rd_T48 l0 x9_1).f1.f2) 8)]) ?_ 1 _ rfl; (with_reducible repeat (first | refine blk_drewN ?_ _ | refine blk_drew ?_ | refine blk_alloc ?_ _)); exact BK222.out⟩, ⟨by repeat (first | (with_reducible first | exact HB.out | apply below_alloc | apply pw_below_drewN | apply below_drew1 | refine below_set ?_ GE222.out) | exact HB.out)⟩⟩
                  · rw [if_neg c17] at H
                    have c17b0 : decide ((wrap64 (Int.tmod (IntKind.u64.wrap ((rd_T48 l0 x9_1).f1.f0)) 64)) ≤ (wrap64 (Int.tmod (IntKind.u64.wrap (a1)) 64))) = false := decide_eq_false c17
                    clear c17
                    (first | rw [c17b0] | (simp only [i64_w, i32_w]; rw [c17b0]) | skip)
                    as_aux_lemma =>
                      have H' := Aside0.mk H
                      clear H
                      have hcz19_0 : w15.cell? ⟨gb222, 0, none⟩ = some (.int .i64 (wrap64 (Int.tmod (IntKind.u64.wrap ((rd_T48 l0 x9_1).f1.f0)) 64))) := (blk_cell BK222.out 0).trans rfl
                      have hcz19_1 : w15.cell? ⟨gb222, 1, none⟩ = some (.int .i64 0) := (blk_cell BK222.out 1).trans rfl
                      have hcz19_2 : w15.cell? ⟨gb222, 2, none⟩ = some (.int .u8 (Int.tmod ((rd_T48 l0 x9_1).f1.f2) 8)) := (blk_cell BK222.out 2).trans rfl
                      have hfz19_0 := blk_frozen BK222.out 0
                      have hfz19_1 := blk_frozen BK222.out 1
                      have hfz19_2 := blk_frozen BK222.out 2
                      go_wp2
                      go_meet
                      case rel => exact ⟨_, (false), (by first | rfl | (simp; done) | (simp [*]; done)), H', ⟨by have := HK1.out; have := HJ2.out; first | omega | exact Nat.le_refl _⟩, ⟨by (with_reducible repeat (first | apply Kd.R_alloc | apply Kd.R_drewN | apply Kd.R_drew)); exact Kd.R_mono (Kd.R_far (p := ⟨gb222, 1, none⟩) (Kd.R_mono HO_5.out (fun k_ hk => (⟨hk, hk⟩ : _ ∧ k_ ≠ gb222))) (fun _ hk => hk.2) (.int .i64 (wrap64 ((wrap64 ((wrap64 (Int.tmod (IntKind.u64.wrap ((rd_T48 l0 x9_1).f1.f0)) 64)) + 1)) + (wrap64 (Int.tmod (IntKind.u64.wrap ((rd_T48 l0 x9_1).f1.f1)) 20)))))) (fun _ hk => hk.1)⟩, ⟨by (with_reducible repeat (first | refine blk_drewN ?_ _ | refine blk_drew ?_ | refine blk_alloc ?_ _)); refine blk_put (cs := #[.int .i64 (wrap64 (Int.tmod (IntKind.u64.wrap ((rd_T48 l0 x9_1).f1.f0)) 64)), .int .i64 0, .int .u8 (Int.tmod ((rd_T48 l0 x9_1).f1.f2) 8)]) ?_ 1 _ rfl; (with_reducible repeat (first | refine blk_drewN ?_ _ | refine blk_drew ?_ | refine blk_alloc ?_ _)); exact BK222.out⟩, ⟨by repeat (first | (with_reducible first | exact HB.out | apply below_alloc | apply pw_below_drewN | apply below_drew1 | refine below_set ?_ GE222.out) | exact HB.out)⟩⟩
                case rest =>
                  clear HC8
                  try clear c1
                  try clear p2
                  try clear q2
                  try clear hx2
                  try clear c4
                  try clear c4b0
                  try clear c5
                  try clear c6
                  try clear c6b0
                  try clear p6
                  try clear c7
                  try clear c7b0
                  try clear c17
                  try clear c17b0
                  try clear hcz18_0
                  try clear hcz18_1
                  try clear hcz18_2
                  try clear hcz19_0
                  try clear hcz19_1
                  try clear hcz19_2
                  try clear hfz18_0
                  try clear hfz18_1
                  try clear hfz18_2
                  try clear hfz19_0
                  try clear hfz19_1
                  try clear hfz19_2
                  try clear hx220_0
                  try clear hx220_1
                  try clear hx220_2
                  try clear hx220_3
                  try clear hx221_0
                  try clear hx221_1
                  try clear hx221_2
                  try clear hx221_3
                  try clear hx223_0
                  try clear hx223_1
                  try clear hx223_2
                  try clear hx223_3
                  try clear p2
                  try clear p220
                  try clear p221
                  try clear p223
                  try clear q220
                  try clear q221
                  try clear q223
                  obtain ⟨kq, x11_7, rfl, HA, HJ7, HO_5, BK222, HB⟩ := hcut
                  cases kq with
                  | zero => exact absurd HA.out (by simp [halterlaw13_RegionKeeps.j2])
                  | succ kj7 =>
                    have H := HA.out
                    clear HA
                    simp only [halterlaw13_RegionKeeps.j2] at H
                    by_cases c20 : 0 ≤ x9_1
                    · rw [if_pos c20] at H
                      have c20b0 : decide (0 ≤ x9_1) = true := decide_eq_true c20
                      clear c20
                      by_cases c21 : x9_1 < (l0.length : Int)
                      · rw [if_pos c21] at H
                        have c21b0 : decide (x9_1 < (l0.length : Int)) = true := decide_eq_true c21
                        clear c21
                        have HC22 := Aside0.mk H
                        clear H
                        have p224 : 0 ≤ (x9_1 : Int) := of_decide_eq_true (by first | (with_reducible assumption) | assumption)
                        have q224 : x9_1 < (l0.length : Int) := of_decide_eq_true (by first | (with_reducible assumption) | assumption)
                        obtain ⟨ad224, e224, hx224_0, hx224_1, hx224_2, hx224_3⟩ := at_T48 HR0.out x9_1 p224 q224
                        obtain rfl : ad220 = ad224 := (by injection e224)
                        replace hx224_0 := (HB.out.cell (World.block_lt_of_cell? w _ hx224_0)).trans hx224_0
                        replace hx224_1 := (HB.out.cell (World.block_lt_of_cell? w _ hx224_1)).trans hx224_1
                        replace hx224_2 := (HB.out.cell (World.block_lt_of_cell? w _ hx224_2)).trans hx224_2
                        replace hx224_3 := (HB.out.cell (World.block_lt_of_cell? w _ hx224_3)).trans hx224_3
                        replace p224 := eq_true p224
                        replace q224 := eq_true q224
                        go_upto_block 2 with (fail)
                        go_cut [7, 8, 12, 13] (fun v7 v8 v12 v13 wc => ∃ (kq : Nat) (x7_21 : Int) (x8_21 : Bool) (x12_21 : List (S49)) (x13_21 : Option Int), v7 = .int .u8 x7_21 ∧ v8 = .bool x8_21 ∧ v13 = errW x13_21 ∧ Aside0 (halterlaw13_RegionKeeps.j5 kq l0 x5_1 (wrap64 (Int.tmod (IntKind.u64.wrap (a1)) 64)) x7_21 x8_21 x9_1 x12_21 x13_21 = some r) ∧ Aside0 (kq ≤ kj7) ∧ Aside0 (Kd.R k49 49 wc w.heap.size (fun k_ => some k_ ≠ (v12 : Value).ownBlock ∧ k_ ≠ gb222) u5 x5_1) ∧ Aside0 (Kd.R k49 49 wc w.heap.size (fun k_ => some k_ ≠ (u5 : Value).ownBlock ∧ k_ ≠ gb222) v12 x12_21) ∧ Aside0 (wc.heap[gb222]? = some (.cells #[.int .i64 (wrap64 (Int.tmod (IntKind.u64.wrap ((rd_T48 l0 x9_1).f1.f0)) 64)), .int .i64 (wrap64 ((wrap64 ((wrap64 (Int.tmod (IntKind.u64.wrap ((rd_T48 l0 x9_1).f1.f0)) 64)) + 1)) + (wrap64 (Int.tmod (IntKind.u64.wrap ((rd_T48 l0 x9_1).f1.f1)) 20)))), .int .u8 (Int.tmod ((rd_T48 l0 x9_1).f1.f2) 8)] 49 (0, 0))) ∧ Aside0 (Below w.heap.size w wc))
                        case first =>
                          have H := HC22.out
                          clear HC22
                          by_cases c23 : (wrap64 (Int.tmod (IntKind.u64.wrap ((rd_T48 l0 x9_1).f0)) 4)) = 2
                          · rw [if_pos c23] at H
                            have c23b0 : ((wrap64 (Int.tmod (IntKind.u64.wrap ((rd_T48 l0 x9_1).f0)) 4)) == 2) = true := beq_iff_eq.mpr c23
                            have c23b1 : ((wrap64 (Int.tmod (IntKind.u64.wrap ((rd_T48 l0 x9_1).f0)) 4)) != 2) = false := bne_eq_false_iff_eq.mpr c23
                            clear c23
                            (first | rw [c23b0] | (simp only [i64_w, i32_w]; rw [c23b0]) | skip)
                            replace H := Option.bind_eq_some_iff.mp H
                            obtain ⟨⟨t225, t226⟩, A240, H⟩ := H
                            replace H : (if t226.isNone = true then (if x8_1 = true then (halterlaw13_RegionKeeps.j5 kj7 l0 x5_1 (wrap64 (Int.tmod (IntKind.u64.wrap (a1)) 64)) x7_1 (!x11_7) x9_1 t225 none) else (halterlaw13_RegionKeeps.j5 kj7 l0 x5_1 (wrap64 (Int.tmod (IntKind.u64.wrap (a1)) 64)) x7_1 false x9_1 t225 none)) else (some false)) = some r := H
                            have A24 := Aside0.mk A240
                            clear A240
                            rcases t226 with _ | q229
                            · have H1 : (if x8_1 = true then (halterlaw13_RegionKeeps.j5 kj7 l0 x5_1 (wrap64 (Int.tmod (IntKind.u64.wrap (a1)) 64)) x7_1 (!x11_7) x9_1 t225 none) else (halterlaw13_RegionKeeps.j5 kj7 l0 x5_1 (wrap64 (Int.tmod (IntKind.u64.wrap (a1)) 64)) x7_1 false x9_1 t225 none)) = some r := by rw [if_pos (show (none : Option Int).isNone = true by rfl)] at H; exact H
                              clear H
                              have H := H1
                              clear H1
                              try simp only [errW_none, errW_some]
                              by_cases c25 : x8_1 = true
                              · subst c25
                                have H1 : (halterlaw13_RegionKeeps.j5 kj7 l0 x5_1 (wrap64 (Int.tmod (IntKind.u64.wrap (a1)) 64)) x7_1 (!x11_7) x9_1 t225 none) = some r := by rw [if_pos rfl] at H; exact H
                                clear H
                                have H := H1
                                clear H1
                                as_aux_lemma =>
                                  have H' := Aside0.mk H
                                  clear H
                                  have hcz26_0 : wc.cell? ⟨gb222, 0, none⟩ = some (.int .i64 (wrap64 (Int.tmod (IntKind.u64.wrap ((rd_T48 l0 x9_1).f1.f0)) 64))) := (blk_cell BK222.out 0).trans rfl
                                  have hcz26_1 : wc.cell? ⟨gb222, 1, none⟩ = some (.int .i64 (wrap64 ((wrap64 ((wrap64 (Int.tmod (IntKind.u64.wrap ((rd_T48 l0 x9_1).f1.f0)) 64)) + 1)) + (wrap64 (Int.tmod (IntKind.u64.wrap ((rd_T48 l0 x9_1).f1.f1)) 20))))) := (blk_cell BK222.out 1).trans rfl
                                  have hcz26_2 : wc.cell? ⟨gb222, 2, none⟩ = some (.int .u8 (Int.tmod ((rd_T48 l0 x9_1).f1.f2) 8)) := (blk_cell BK222.out 2).trans rfl
                                  have hfz26_0 := blk_frozen BK222.out 0
                                  have hfz26_1 := blk_frozen BK222.out 1
                                  have hfz26_2 := blk_frozen BK222.out 2
                                  obtain ⟨Ao27, co27, eo27⟩ := Kd.R_slice HO_5.out
                                  subst eo27
                                  go_wp2_with (first | ((with_reducible refine gate_callee (f := 14) rfl ?_); refine goesL_ (some 101) rfl rfl Try.func14 (by kernel_rfl) rfl #[.slice Ao27 x5_1.length co27, .int .i64 (wrap64 (Int.tmod (IntKind.u64.wrap ((rd_T48 l0 x9_1).f1.f0)) 64)), .int .i64 (wrap64 ((wrap64 ((wrap64 (Int.tmod (IntKind.u64.wrap ((rd_T48 l0 x9_1).f1.f0)) 64)) + 1)) + (wrap64 (Int.tmod (IntKind.u64.wrap ((rd_T48 l0 x9_1).f1.f1)) 20))))] rfl (by (try simp only [List.map_toArray, List.map_cons, List.map_nil]); first | done | rfl | (simp only [List.length_drop, List.length_take]; rfl)) ?_; (with_reducible refine (region_Cut.calls kj7 _ _ x5_1 (wrap64 (Int.tmod (IntKind.u64.wrap ((rd_T48 l0 x9_1).f1.f0)) 64)) (wrap64 ((wrap64 ((wrap64 (Int.tmod (IntKind.u64.wrap ((rd_T48 l0 x9_1).f1.f0)) 64)) + 1)) + (wrap64 (Int.tmod (IntKind.u64.wrap ((rd_T48 l0 x9_1).f1.f1)) 20)))) t225 none _ ?side1 ?side2 A24.out).mono ?_); (case side1 => repeat (first | exact (Kd.R_reads' HO_5.out).2.2 | (with_reducible refine Kd.C_alloc ?_ _) | (with_reducible refine Kd.C_drewN ?_ _) | (with_reducible refine Kd.C_drew ?_))); (case side2 => exact (Kd.R_reads' HO_5.out).2.1); rintro e w28 ⟨v227, rfl, ho0, hb⟩; refine ⟨_, rfl, ?_⟩; have n0_ := Aside0.mk (Kd.R_elder' (by (with_reducible repeat (first | apply Kd.R_alloc | apply Kd.R_drewN | apply Kd.R_drew)); exact HO_5.out) (Kd.R_base ho0) hb); have n1_ := Aside0.mk (Kd.R_lower (Kd.R_newB (Kd.R_new' ho0 (Kd.R_lt (by (with_reducible repeat (first | apply Kd.R_alloc | apply Kd.R_drewN | apply Kd.R_drew)); exact HO_5.out))) (g := gb222) (o := .cells #[.int .i64 (wrap64 (Int.tmod (IntKind.u64.wrap ((rd_T48 l0 x9_1).f1.f0)) 64)), .int .i64 (wrap64 ((wrap64 ((wrap64 (Int.tmod (IntKind.u64.wrap ((rd_T48 l0 x9_1).f1.f0)) 64)) + 1)) + (wrap64 (Int.tmod (IntKind.u64.wrap ((rd_T48 l0 x9_1).f1.f1)) 20)))), .int .u8 (Int.tmod ((rd_T48 l0 x9_1).f1.f2) 8)] 49 (0, 0)) (by (with_reducible repeat (first | refine blk_drewN ?_ _ | refine blk_drew ?_ | refine blk_alloc ?_ _)); exact BK222.out)) (below_size (by repeat (first | (with_reducible first | exact HB.out | apply below_alloc | apply pw_below_drewN | apply below_drew1 | refine below_set ?_ GE222.out) | exact HB.out)))); have n2_ := Aside0.mk (blk_below (g := gb222) (o := .cells #[.int .i64 (wrap64 (Int.tmod (IntKind.u64.wrap ((rd_T48 l0 x9_1).f1.f0)) 64)), .int .i64 (wrap64 ((wrap64 ((wrap64 (Int.tmod (IntKind.u64.wrap ((rd_T48 l0 x9_1).f1.f0)) 64)) + 1)) + (wrap64 (Int.tmod (IntKind.u64.wrap ((rd_T48 l0 x9_1).f1.f1)) 20)))), .int .u8 (Int.tmod ((rd_T48 l0 x9_1).f1.f2) 8)] 49 (0, 0)) (by (with_reducible repeat (first | refine blk_drewN ?_ _ | refine blk_drew ?_ | refine blk_alloc ?_ _)); exact BK222.out) hb); have n3_ := Aside0.mk (below_step (by repeat (first | (with_reducible first | exact HB.out | apply below_alloc | apply pw_below_drewN | apply below_drew1 | refine below_set ?_ GE222.out) | exact HB.out)) hb); clear HO_5; clear BK222; clear HB; have HO_5 := n0_; have HO228 := n1_; have BK222 := n2_; have HB := n3_; clear n0_ n1_ n2_ n3_; (try clear hb); (try clear hb2); (try clear hk); (try clear hi); (try clear ho0); (try simp only [errW_none, errW_some])))
                                  go_meet
                                  case rel => exact ⟨_, (x7_1), (!x11_7), (t225), (none), (by first | rfl | (simp; done) | (simp [*]; done)), (by first | rfl | (simp; done) | (simp [*]; done)), (by first | rfl | (simp; done) | (simp [*]; done)), H', ⟨by have := HK1.out; have := HJ2.out; have := HJ7.out; first | omega | exact Nat.le_refl _⟩, ⟨by (with_reducible repeat (first | apply Kd.R_alloc | apply Kd.R_drewN | apply Kd.R_drew)); exact Kd.R_mono HO_5.out (fun _ hk => ⟨hk.2, hk.1⟩)⟩, ⟨by (with_reducible repeat (first | apply Kd.R_alloc | apply Kd.R_drewN | apply Kd.R_drew)); exact Kd.R_mono HO228.out (fun _ hk => ⟨hk.1.2, hk.2⟩)⟩, ⟨by (with_reducible repeat (first | refine blk_drewN ?_ _ | refine blk_drew ?_ | refine blk_alloc ?_ _)); exact BK222.out⟩, ⟨by repeat (first | (with_reducible first | exact HB.out | apply below_alloc | apply pw_below_drewN | apply below_drew1 | refine below_set ?_ GE222.out) | exact HB.out)⟩⟩
                              · replace c25 := Bool.eq_false_iff.mpr c25
                                subst c25
                                have H1 : (halterlaw13_RegionKeeps.j5 kj7 l0 x5_1 (wrap64 (Int.tmod (IntKind.u64.wrap (a1)) 64)) x7_1 false x9_1 t225 none) = some r := by rw [if_neg (show ¬ (false = true) by decide)] at H; exact H
                                clear H
                                have H := H1
                                clear H1
                                as_aux_lemma =>
                                  have H' := Aside0.mk H
                                  clear H
                                  have hcz29_0 : wc.cell? ⟨gb222, 0, none⟩ = some (.int .i64 (wrap64 (Int.tmod (IntKind.u64.wrap ((rd_T48 l0 x9_1).f1.f0)) 64))) := (blk_cell BK222.out 0).trans rfl
                                  have hcz29_1 : wc.cell? ⟨gb222, 1, none⟩ = some (.int .i64 (wrap64 ((wrap64 ((wrap64 (Int.tmod (IntKind.u64.wrap ((rd_T48 l0 x9_1).f1.f0)) 64)) + 1)) + (wrap64 (Int.tmod (IntKind.u64.wrap ((rd_T48 l0 x9_1).f1.f1)) 20))))) := (blk_cell BK222.out 1).trans rfl
                                  have hcz29_2 : wc.cell? ⟨gb222, 2, none⟩ = some (.int .u8 (Int.tmod ((rd_T48 l0 x9_1).f1.f2) 8)) := (blk_cell BK222.out 2).trans rfl
                                  have hfz29_0 := blk_frozen BK222.out 0
                                  have hfz29_1 := blk_frozen BK222.out 1
                                  have hfz29_2 := blk_frozen BK222.out 2
                                  obtain ⟨Ao30, co30, eo30⟩ := Kd.R_slice HO_5.out
                                  subst eo30
                                  go_wp2_with (first | ((with_reducible refine gate_callee (f := 14) rfl ?_); refine goesL_ (some 101) rfl rfl Try.func14 (by kernel_rfl) rfl #[.slice Ao30 x5_1.length co30, .int .i64 (wrap64 (Int.tmod (IntKind.u64.wrap ((rd_T48 l0 x9_1).f1.f0)) 64)), .int .i64 (wrap64 ((wrap64 ((wrap64 (Int.tmod (IntKind.u64.wrap ((rd_T48 l0 x9_1).f1.f0)) 64)) + 1)) + (wrap64 (Int.tmod (IntKind.u64.wrap ((rd_T48 l0 x9_1).f1.f1)) 20))))] rfl (by (try simp only [List.map_toArray, List.map_cons, List.map_nil]); first | done | rfl | (simp only [List.length_drop, List.length_take]; rfl)) ?_; (with_reducible refine (region_Cut.calls kj7 _ _ x5_1 (wrap64 (Int.tmod (IntKind.u64.wrap ((rd_T48 l0 x9_1).f1.f0)) 64)) (wrap64 ((wrap64 ((wrap64 (Int.tmod (IntKind.u64.wrap ((rd_T48 l0 x9_1).f1.f0)) 64)) + 1)) + (wrap64 (Int.tmod (IntKind.u64.wrap ((rd_T48 l0 x9_1).f1.f1)) 20)))) t225 none _ ?side1 ?side2 A24.out).mono ?_); (case side1 => repeat (first | exact (Kd.R_reads' HO_5.out).2.2 | (with_reducible refine Kd.C_alloc ?_ _) | (with_reducible refine Kd.C_drewN ?_ _) | (with_reducible refine Kd.C_drew ?_))); (case side2 => exact (Kd.R_reads' HO_5.out).2.1); rintro e w31 ⟨v227, rfl, ho0, hb⟩; refine ⟨_, rfl, ?_⟩; have n0_ := Aside0.mk (Kd.R_elder' (by (with_reducible repeat (first | apply Kd.R_alloc | apply Kd.R_drewN | apply Kd.R_drew)); exact HO_5.out) (Kd.R_base ho0) hb); have n1_ := Aside0.mk (Kd.R_lower (Kd.R_newB (Kd.R_new' ho0 (Kd.R_lt (by (with_reducible repeat (first | apply Kd.R_alloc | apply Kd.R_drewN | apply Kd.R_drew)); exact HO_5.out))) (g := gb222) (o := .cells #[.int .i64 (wrap64 (Int.tmod (IntKind.u64.wrap ((rd_T48 l0 x9_1).f1.f0)) 64)), .int .i64 (wrap64 ((wrap64 ((wrap64 (Int.tmod (IntKind.u64.wrap ((rd_T48 l0 x9_1).f1.f0)) 64)) + 1)) + (wrap64 (Int.tmod (IntKind.u64.wrap ((rd_T48 l0 x9_1).f1.f1)) 20)))), .int .u8 (Int.tmod ((rd_T48 l0 x9_1).f1.f2) 8)] 49 (0, 0)) (by (with_reducible repeat (first | refine blk_drewN ?_ _ | refine blk_drew ?_ | refine blk_alloc ?_ _)); exact BK222.out)) (below_size (by repeat (first | (with_reducible first | exact HB.out | apply below_alloc | apply pw_below_drewN | apply below_drew1 | refine below_set ?_ GE222.out) | exact HB.out)))); have n2_ := Aside0.mk (blk_below (g := gb222) (o := .cells #[.int .i64 (wrap64 (Int.tmod (IntKind.u64.wrap ((rd_T48 l0 x9_1).f1.f0)) 64)), .int .i64 (wrap64 ((wrap64 ((wrap64 (Int.tmod (IntKind.u64.wrap ((rd_T48 l0 x9_1).f1.f0)) 64)) + 1)) + (wrap64 (Int.tmod (IntKind.u64.wrap ((rd_T48 l0 x9_1).f1.f1)) 20)))), .int .u8 (Int.tmod ((rd_T48 l0 x9_1).f1.f2) 8)] 49 (0, 0)) (by (with_reducible repeat (first | refine blk_drewN ?_ _ | refine blk_drew ?_ | refine blk_alloc ?_ _)); exact BK222.out) hb); have n3_ := Aside0.mk (below_step (by repeat (first | (with_reducible first | exact HB.out | apply below_alloc | apply pw_below_drewN | apply below_drew1 | refine below_set ?_ GE222.out) | exact HB.out)) hb); clear HO_5; clear BK222; clear HB; have HO_5 := n0_; have HO228 := n1_; have BK222 := n2_; have HB := n3_; clear n0_ n1_ n2_ n3_; (try clear hb); (try clear hb2); (try clear hk); (try clear hi); (try clear ho0); (try simp only [errW_none, errW_some])))
                                  go_meet
                                  case rel => exact ⟨_, (x7_1), (false), (t225), (none), (by first | rfl | (simp; done) | (simp [*]; done)), (by first | rfl | (simp; done) | (simp [*]; done)), (by first | rfl | (simp; done) | (simp [*]; done)), H', ⟨by have := HK1.out; have := HJ2.out; have := HJ7.out; first | omega | exact Nat.le_refl _⟩, ⟨by (with_reducible repeat (first | apply Kd.R_alloc | apply Kd.R_drewN | apply Kd.R_drew)); exact Kd.R_mono HO_5.out (fun _ hk => ⟨hk.2, hk.1⟩)⟩, ⟨by (with_reducible repeat (first | apply Kd.R_alloc | apply Kd.R_drewN | apply Kd.R_drew)); exact Kd.R_mono HO228.out (fun _ hk => ⟨hk.1.2, hk.2⟩)⟩, ⟨by (with_reducible repeat (first | refine blk_drewN ?_ _ | refine blk_drew ?_ | refine blk_alloc ?_ _)); exact BK222.out⟩, ⟨by repeat (first | (with_reducible first | exact HB.out | apply below_alloc | apply pw_below_drewN | apply below_drew1 | refine below_set ?_ GE222.out) | exact HB.out)⟩⟩
                            · have H1 : (some false) = some r := by rw [if_neg (show ¬ (some q229).isNone = true by simp)] at H; exact H
                              clear H
                              have H := H1
                              clear H1
                              try simp only [errW_none, errW_some]
                              as_aux_lemma =>
                                obtain rfl := Option.some.inj H
                                have hcz32_0 : wc.cell? ⟨gb222, 0, none⟩ = some (.int .i64 (wrap64 (Int.tmod (IntKind.u64.wrap ((rd_T48 l0 x9_1).f1.f0)) 64))) := (blk_cell BK222.out 0).trans rfl
                                have hcz32_1 : wc.cell? ⟨gb222, 1, none⟩ = some (.int .i64 (wrap64 ((wrap64 ((wrap64 (Int.tmod (IntKind.u64.wrap ((rd_T48 l0 x9_1).f1.f0)) 64)) + 1)) + (wrap64 (Int.tmod (IntKind.u64.wrap ((rd_T48 l0 x9_1).f1.f1)) 20))))) := (blk_cell BK222.out 1).trans rfl
                                have hcz32_2 : wc.cell? ⟨gb222, 2, none⟩ = some (.int .u8 (Int.tmod ((rd_T48 l0 x9_1).f1.f2) 8)) := (blk_cell BK222.out 2).trans rfl
                                have hfz32_0 := blk_frozen BK222.out 0
                                have hfz32_1 := blk_frozen BK222.out 1
                                have hfz32_2 := blk_frozen BK222.out 2
                                obtain ⟨Ao33, co33, eo33⟩ := Kd.R_slice HO_5.out
                                subst eo33
                                go_wp2_with (first | ((with_reducible refine gate_callee (f := 14) rfl ?_); refine goesL_ (some 101) rfl rfl Try.func14 (by kernel_rfl) rfl #[.slice Ao33 x5_1.length co33, .int .i64 (wrap64 (Int.tmod (IntKind.u64.wrap ((rd_T48 l0 x9_1).f1.f0)) 64)), .int .i64 (wrap64 ((wrap64 ((wrap64 (Int.tmod (IntKind.u64.wrap ((rd_T48 l0 x9_1).f1.f0)) 64)) + 1)) + (wrap64 (Int.tmod (IntKind.u64.wrap ((rd_T48 l0 x9_1).f1.f1)) 20))))] rfl (by (try simp only [List.map_toArray, List.map_cons, List.map_nil]); first | done | rfl | (simp only [List.length_drop, List.length_take]; rfl)) ?_; (with_reducible refine (region_Cut.calls kj7 _ _ x5_1 (wrap64 (Int.tmod (IntKind.u64.wrap ((rd_T48 l0 x9_1).f1.f0)) 64)) (wrap64 ((wrap64 ((wrap64 (Int.tmod (IntKind.u64.wrap ((rd_T48 l0 x9_1).f1.f0)) 64)) + 1)) + (wrap64 (Int.tmod (IntKind.u64.wrap ((rd_T48 l0 x9_1).f1.f1)) 20)))) t225 (some q229) _ ?side1 ?side2 A24.out).mono ?_); (case side1 => repeat (first | exact (Kd.R_reads' HO_5.out).2.2 | (with_reducible refine Kd.C_alloc ?_ _) | (with_reducible refine Kd.C_drewN ?_ _) | (with_reducible refine Kd.C_drew ?_))); (case side2 => exact (Kd.R_reads' HO_5.out).2.1); rintro e w34 ⟨v227, rfl, ho0, hb⟩; refine ⟨_, rfl, ?_⟩; have n0_ := Aside0.mk (Kd.R_elder' (by (with_reducible repeat (first | apply Kd.R_alloc | apply Kd.R_drewN | apply Kd.R_drew)); exact HO_5.out) (Kd.R_base ho0) hb); have n1_ := Aside0.mk (Kd.R_lower (Kd.R_newB (Kd.R_new' ho0 (Kd.R_lt (by (with_reducible repeat (first | apply Kd.R_alloc | apply Kd.R_drewN | apply Kd.R_drew)); exact HO_5.out))) (g := gb222) (o := .cells #[.int .i64 (wrap64 (Int.tmod (IntKind.u64.wrap ((rd_T48 l0 x9_1).f1.f0)) 64)), .int .i64 (wrap64 ((wrap64 ((wrap64 (Int.tmod (IntKind.u64.wrap ((rd_T48 l0 x9_1).f1.f0)) 64)) + 1)) + (wrap64 (Int.tmod (IntKind.u64.wrap ((rd_T48 l0 x9_1).f1.f1)) 20)))), .int .u8 (Int.tmod ((rd_T48 l0 x9_1).f1.f2) 8)] 49 (0, 0)) (by (with_reducible repeat (first | refine blk_drewN ?_ _ | refine blk_drew ?_ | refine blk_alloc ?_ _)); exact BK222.out)) (below_size (by repeat (first | (with_reducible first | exact HB.out | apply below_alloc | apply pw_below_drewN | apply below_drew1 | refine below_set ?_ GE222.out) | exact HB.out)))); have n2_ := Aside0.mk (blk_below (g := gb222) (o := .cells #[.int .i64 (wrap64 (Int.tmod (IntKind.u64.wrap ((rd_T48 l0 x9_1).f1.f0)) 64)), .int .i64 (wrap64 ((wrap64 ((wrap64 (Int.tmod (IntKind.u64.wrap ((rd_T48 l0 x9_1).f1.f0)) 64)) + 1)) + (wrap64 (Int.tmod (IntKind.u64.wrap ((rd_T48 l0 x9_1).f1.f1)) 20)))), .int .u8 (Int.tmod ((rd_T48 l0 x9_1).f1.f2) 8)] 49 (0, 0)) (by (with_reducible repeat (first | refine blk_drewN ?_ _ | refine blk_drew ?_ | refine blk_alloc ?_ _)); exact BK222.out) hb); have n3_ := Aside0.mk (below_step (by repeat (first | (with_reducible first | exact HB.out | apply below_alloc | apply pw_below_drewN | apply below_drew1 | refine below_set ?_ GE222.out) | exact HB.out)) hb); clear HO_5; clear BK222; clear HB; have HO_5 := n0_; have HO228 := n1_; have BK222 := n2_; have HB := n3_; clear n0_ n1_ n2_ n3_; (try clear hb); (try clear hb2); (try clear hk); (try clear hi); (try clear ho0); (try simp only [errW_none, errW_some])))
                                go_ret
                                exact ⟨by first | rfl | (simp [errW_none, errW_some] <;> rfl) | (simp [*, errW_none, errW_some] <;> rfl), by repeat (first | (with_reducible first | exact HB.out | apply below_alloc | apply pw_below_drewN | apply below_drew1 | refine below_set ?_ GE222.out) | exact HB.out)⟩
                          · rw [if_neg c23] at H
                            have c23b0 : ((wrap64 (Int.tmod (IntKind.u64.wrap ((rd_T48 l0 x9_1).f0)) 4)) == 2) = false := beq_eq_false_iff_ne.mpr c23
                            have c23b1 : ((wrap64 (Int.tmod (IntKind.u64.wrap ((rd_T48 l0 x9_1).f0)) 4)) != 2) = true := bne_iff_ne.mpr c23
                            (first | rw [c23b0] | (simp only [i64_w, i32_w]; rw [c23b0]) | skip)
                            by_cases c35 : (wrap64 (Int.tmod (IntKind.u64.wrap ((rd_T48 l0 x9_1).f0)) 4)) = 3
                            · rw [if_pos c35] at H
                              have c35b0 : ((wrap64 (Int.tmod (IntKind.u64.wrap ((rd_T48 l0 x9_1).f0)) 4)) == 3) = true := beq_iff_eq.mpr c35
                              have c35b1 : ((wrap64 (Int.tmod (IntKind.u64.wrap ((rd_T48 l0 x9_1).f0)) 4)) != 3) = false := bne_eq_false_iff_eq.mpr c35
                              clear c35
                              replace H := Option.bind_eq_some_iff.mp H
                              obtain ⟨⟨t230, t231⟩, A360, H⟩ := H
                              replace H : (if t231.isNone = true then (halterlaw13_RegionKeeps.j3 kj7 l0 x5_1 (wrap64 (Int.tmod (IntKind.u64.wrap (a1)) 64)) x7_1 x8_1 x9_1 t230 none x11_7 (wrap64 (Int.tmod (IntKind.u64.wrap ((rd_T48 l0 x9_1).f1.f0)) 64)) (wrap64 ((wrap64 ((wrap64 (Int.tmod (IntKind.u64.wrap ((rd_T48 l0 x9_1).f1.f0)) 64)) + 1)) + (wrap64 (Int.tmod (IntKind.u64.wrap ((rd_T48 l0 x9_1).f1.f1)) 20)))) (Int.tmod ((rd_T48 l0 x9_1).f1.f2) 8)) else (halterlaw13_RegionKeeps.j3 kj7 l0 x5_1 (wrap64 (Int.tmod (IntKind.u64.wrap (a1)) 64)) x7_1 x8_1 x9_1 t230 (some (t231.getD 0)) false (wrap64 (Int.tmod (IntKind.u64.wrap ((rd_T48 l0 x9_1).f1.f0)) 64)) (wrap64 ((wrap64 ((wrap64 (Int.tmod (IntKind.u64.wrap ((rd_T48 l0 x9_1).f1.f0)) 64)) + 1)) + (wrap64 (Int.tmod (IntKind.u64.wrap ((rd_T48 l0 x9_1).f1.f1)) 20)))) (Int.tmod ((rd_T48 l0 x9_1).f1.f2) 8))) = some r := H
                              have A36 := Aside0.mk A360
                              clear A360
                              have HC37 := Aside0.mk H
                              clear H
                              have hcz38_0 : wc.cell? ⟨gb222, 0, none⟩ = some (.int .i64 (wrap64 (Int.tmod (IntKind.u64.wrap ((rd_T48 l0 x9_1).f1.f0)) 64))) := (blk_cell BK222.out 0).trans rfl
                              have hcz38_1 : wc.cell? ⟨gb222, 1, none⟩ = some (.int .i64 (wrap64 ((wrap64 ((wrap64 (Int.tmod (IntKind.u64.wrap ((rd_T48 l0 x9_1).f1.f0)) 64)) + 1)) + (wrap64 (Int.tmod (IntKind.u64.wrap ((rd_T48 l0 x9_1).f1.f1)) 20))))) := (blk_cell BK222.out 1).trans rfl
                              have hcz38_2 : wc.cell? ⟨gb222, 2, none⟩ = some (.int .u8 (Int.tmod ((rd_T48 l0 x9_1).f1.f2) 8)) := (blk_cell BK222.out 2).trans rfl
                              have hfz38_0 := blk_frozen BK222.out 0
                              have hfz38_1 := blk_frozen BK222.out 1
                              have hfz38_2 := blk_frozen BK222.out 2
                              obtain ⟨Ao39, co39, eo39⟩ := Kd.R_slice HO_5.out
                              subst eo39
                              go_upto_region 25 with (first | ((with_reducible refine gate_callee (f := 15) rfl ?_); refine goesL_ (some 121) rfl rfl Try.func15 (by kernel_rfl) rfl #[.slice Ao39 x5_1.length co39, .int .i64 (wrap64 (Int.tmod (IntKind.u64.wrap ((rd_T48 l0 x9_1).f1.f0)) 64)), .int .i64 (wrap64 ((wrap64 ((wrap64 (Int.tmod (IntKind.u64.wrap ((rd_T48 l0 x9_1).f1.f0)) 64)) + 1)) + (wrap64 (Int.tmod (IntKind.u64.wrap ((rd_T48 l0 x9_1).f1.f1)) 20)))), .int .u8 (Int.tmod ((rd_T48 l0 x9_1).f1.f2) 8)] rfl (by (try simp only [List.map_toArray, List.map_cons, List.map_nil]); first | done | rfl | (simp only [List.length_drop, List.length_take]; rfl)) ?_; (with_reducible refine (region_Protect.calls kj7 _ _ x5_1 (wrap64 (Int.tmod (IntKind.u64.wrap ((rd_T48 l0 x9_1).f1.f0)) 64)) (wrap64 ((wrap64 ((wrap64 (Int.tmod (IntKind.u64.wrap ((rd_T48 l0 x9_1).f1.f0)) 64)) + 1)) + (wrap64 (Int.tmod (IntKind.u64.wrap ((rd_T48 l0 x9_1).f1.f1)) 20)))) (Int.tmod ((rd_T48 l0 x9_1).f1.f2) 8) t230 t231 _ ?side1 ?side2 A36.out).mono ?_); (case side1 => repeat (first | exact (Kd.R_reads' HO_5.out).2.2 | (with_reducible refine Kd.C_alloc ?_ _) | (with_reducible refine Kd.C_drewN ?_ _) | (with_reducible refine Kd.C_drew ?_))); (case side2 => exact (Kd.R_reads' HO_5.out).2.1); rintro e w40 ⟨v232, rfl, ho0, hb⟩; refine ⟨_, rfl, ?_⟩; have n0_ := Aside0.mk (Kd.R_elder' (by (with_reducible repeat (first | apply Kd.R_alloc | apply Kd.R_drewN | apply Kd.R_drew)); exact HO_5.out) (Kd.R_base ho0) hb); have n1_ := Aside0.mk (Kd.R_lower (Kd.R_newB (Kd.R_new' ho0 (Kd.R_lt (by (with_reducible repeat (first | apply Kd.R_alloc | apply Kd.R_drewN | apply Kd.R_drew)); exact HO_5.out))) (g := gb222) (o := .cells #[.int .i64 (wrap64 (Int.tmod (IntKind.u64.wrap ((rd_T48 l0 x9_1).f1.f0)) 64)), .int .i64 (wrap64 ((wrap64 ((wrap64 (Int.tmod (IntKind.u64.wrap ((rd_T48 l0 x9_1).f1.f0)) 64)) + 1)) + (wrap64 (Int.tmod (IntKind.u64.wrap ((rd_T48 l0 x9_1).f1.f1)) 20)))), .int .u8 (Int.tmod ((rd_T48 l0 x9_1).f1.f2) 8)] 49 (0, 0)) (by (with_reducible repeat (first | refine blk_drewN ?_ _ | refine blk_drew ?_ | refine blk_alloc ?_ _)); exact BK222.out)) (below_size (by repeat (first | (with_reducible first | exact HB.out | apply below_alloc | apply pw_below_drewN | apply below_drew1 | refine below_set ?_ GE222.out) | exact HB.out)))); have n2_ := Aside0.mk (blk_below (g := gb222) (o := .cells #[.int .i64 (wrap64 (Int.tmod (IntKind.u64.wrap ((rd_T48 l0 x9_1).f1.f0)) 64)), .int .i64 (wrap64 ((wrap64 ((wrap64 (Int.tmod (IntKind.u64.wrap ((rd_T48 l0 x9_1).f1.f0)) 64)) + 1)) + (wrap64 (Int.tmod (IntKind.u64.wrap ((rd_T48 l0 x9_1).f1.f1)) 20)))), .int .u8 (Int.tmod ((rd_T48 l0 x9_1).f1.f2) 8)] 49 (0, 0)) (by (with_reducible repeat (first | refine blk_drewN ?_ _ | refine blk_drew ?_ | refine blk_alloc ?_ _)); exact BK222.out) hb); have n3_ := Aside0.mk (below_step (by repeat (first | (with_reducible first | exact HB.out | apply below_alloc | apply pw_below_drewN | apply below_drew1 | refine below_set ?_ GE222.out) | exact HB.out)) hb); clear HO_5; clear BK222; clear HB; have HO_5 := n0_; have HO233 := n1_; have BK222 := n2_; have HB := n3_; clear n0_ n1_ n2_ n3_; (try clear hb); (try clear hb2); (try clear hk); (try clear hi); (try clear ho0); (try simp only [errW_none, errW_some])))
                              (try simp only [Act.put, List.setIfInBounds_toArray, List.set_cons_zero, List.set_cons_succ])
                              go_cut [128] (fun v128 wc => ∃ (kq : Nat) (x128_36 : Bool), v128 = .bool x128_36 ∧ Aside0 (halterlaw13_RegionKeeps.j3 kq l0 x5_1 (wrap64 (Int.tmod (IntKind.u64.wrap (a1)) 64)) x7_1 x8_1 x9_1 t230 t231 x128_36 (wrap64 (Int.tmod (IntKind.u64.wrap ((rd_T48 l0 x9_1).f1.f0)) 64)) (wrap64 ((wrap64 ((wrap64 (Int.tmod (IntKind.u64.wrap ((rd_T48 l0 x9_1).f1.f0)) 64)) + 1)) + (wrap64 (Int.tmod (IntKind.u64.wrap ((rd_T48 l0 x9_1).f1.f1)) 20)))) (Int.tmod ((rd_T48 l0 x9_1).f1.f2) 8) = some r) ∧ Aside0 (kq ≤ kj7) ∧ Aside0 (Kd.R k49 49 wc w.heap.size (fun k_ => some k_ ≠ (v232 : Value).ownBlock ∧ k_ ≠ gb222) (.slice Ao39 x5_1.length co39) x5_1) ∧ Aside0 (Kd.R k49 49 wc w.heap.size (fun k_ => some k_ ≠ ((.slice Ao39 x5_1.length co39) : Value).ownBlock ∧ k_ ≠ gb222) v232 t230) ∧ Aside0 (wc.heap[gb222]? = some (.cells #[.int .i64 (wrap64 (Int.tmod (IntKind.u64.wrap ((rd_T48 l0 x9_1).f1.f0)) 64)), .int .i64 (wrap64 ((wrap64 ((wrap64 (Int.tmod (IntKind.u64.wrap ((rd_T48 l0 x9_1).f1.f0)) 64)) + 1)) + (wrap64 (Int.tmod (IntKind.u64.wrap ((rd_T48 l0 x9_1).f1.f1)) 20)))), .int .u8 (Int.tmod ((rd_T48 l0 x9_1).f1.f2) 8)] 49 (0, 0))) ∧ Aside0 (Below w.heap.size w wc))
                              case first =>
                                have H := HC37.out
                                clear HC37
                                rcases t231 with _ | q234
                                · have H1 : (halterlaw13_RegionKeeps.j3 kj7 l0 x5_1 (wrap64 (Int.tmod (IntKind.u64.wrap (a1)) 64)) x7_1 x8_1 x9_1 t230 none x11_7 (wrap64 (Int.tmod (IntKind.u64.wrap ((rd_T48 l0 x9_1).f1.f0)) 64)) (wrap64 ((wrap64 ((wrap64 (Int.tmod (IntKind.u64.wrap ((rd_T48 l0 x9_1).f1.f0)) 64)) + 1)) + (wrap64 (Int.tmod (IntKind.u64.wrap ((rd_T48 l0 x9_1).f1.f1)) 20)))) (Int.tmod ((rd_T48 l0 x9_1).f1.f2) 8)) = some r := by rw [if_pos (show (none : Option Int).isNone = true by rfl)] at H; exact H
                                  clear H
                                  have H := H1
                                  clear H1
                                  try simp only [errW_none, errW_some]
                                  as_aux_lemma =>
                                    have H' := Aside0.mk H
                                    clear H
                                    go_wp2
                                    go_meet
                                    case rel => exact ⟨_, (x11_7), (by first | rfl | (simp; done) | (simp [*]; done)), H', ⟨by have := HK1.out; have := HJ2.out; have := HJ7.out; first | omega | exact Nat.le_refl _⟩, ⟨by (with_reducible repeat (first | apply Kd.R_alloc | apply Kd.R_drewN | apply Kd.R_drew)); exact Kd.R_mono HO_5.out (fun _ hk => ⟨hk.2, hk.1⟩)⟩, ⟨by (with_reducible repeat (first | apply Kd.R_alloc | apply Kd.R_drewN | apply Kd.R_drew)); exact Kd.R_mono HO233.out (fun _ hk => ⟨hk.1.2, hk.2⟩)⟩, ⟨by (with_reducible repeat (first | refine blk_drewN ?_ _ | refine blk_drew ?_ | refine blk_alloc ?_ _)); exact BK222.out⟩, ⟨by repeat (first | (with_reducible first | exact HB.out | apply below_alloc | apply pw_below_drewN | apply below_drew1 | refine below_set ?_ GE222.out) | exact HB.out)⟩⟩
                                · have H1 : (halterlaw13_RegionKeeps.j3 kj7 l0 x5_1 (wrap64 (Int.tmod (IntKind.u64.wrap (a1)) 64)) x7_1 x8_1 x9_1 t230 (some q234) false (wrap64 (Int.tmod (IntKind.u64.wrap ((rd_T48 l0 x9_1).f1.f0)) 64)) (wrap64 ((wrap64 ((wrap64 (Int.tmod (IntKind.u64.wrap ((rd_T48 l0 x9_1).f1.f0)) 64)) + 1)) + (wrap64 (Int.tmod (IntKind.u64.wrap ((rd_T48 l0 x9_1).f1.f1)) 20)))) (Int.tmod ((rd_T48 l0 x9_1).f1.f2) 8)) = some r := by rw [if_neg (show ¬ (some q234).isNone = true by simp)] at H; exact H
                                  clear H
                                  have H := H1
                                  clear H1
                                  try simp only [errW_none, errW_some]
                                  as_aux_lemma =>
                                    have H' := Aside0.mk H
                                    clear H
                                    go_wp2
                                    go_meet
                                    case rel => exact ⟨_, (false), (by first | rfl | (simp; done) | (simp [*]; done)), H', ⟨by have := HK1.out; have := HJ2.out; have := HJ7.out; first | omega | exact Nat.le_refl _⟩, ⟨by (with_reducible repeat (first | apply Kd.R_alloc | apply Kd.R_drewN | apply Kd.R_drew)); exact Kd.R_mono HO_5.out (fun _ hk => ⟨hk.2, hk.1⟩)⟩, ⟨by (with_reducible repeat (first | apply Kd.R_alloc | apply Kd.R_drewN | apply Kd.R_drew)); exact Kd.R_mono HO233.out (fun _ hk => ⟨hk.1.2, hk.2⟩)⟩, ⟨by (with_reducible repeat (first | refine blk_drewN ?_ _ | refine blk_drew ?_ | refine blk_alloc ?_ _)); exact BK222.out⟩, ⟨by repeat (first | (with_reducible first | exact HB.out | apply below_alloc | apply pw_below_drewN | apply below_drew1 | refine below_set ?_ GE222.out) | exact HB.out)⟩⟩
                              case rest =>
                                clear HC37
                                try clear c1
                                try clear c2
                                try clear p2
                                try clear q2
                                try clear hx2
                                try clear c3
                                try clear c4
                                try clear c4b0
                                try clear c5
                                try clear c6
                                try clear c6b0
                                try clear p6
                                try clear c7
                                try clear c7b0
                                try clear c14
                                try clear c15
                                try clear c17
                                try clear c17b0
                                try clear c20
                                try clear c20b0
                                try clear c21
                                try clear c21b0
                                try clear p22
                                try clear q22
                                try clear hx22
                                try clear c23
                                try clear c23b0
                                try clear c23b1
                                try clear q23
                                try clear c25
                                try clear c35
                                try clear c35b0
                                try clear c35b1
                                try clear hcz18_0
                                try clear hcz18_1
                                try clear hcz18_2
                                try clear hcz19_0
                                try clear hcz19_1
                                try clear hcz19_2
                                try clear hcz26_0
                                try clear hcz26_1
                                try clear hcz26_2
                                try clear hcz29_0
                                try clear hcz29_1
                                try clear hcz29_2
                                try clear hcz32_0
                                try clear hcz32_1
                                try clear hcz32_2
                                try clear hcz38_0
                                try clear hcz38_1
                                try clear hcz38_2
                                try clear hfz18_0
                                try clear hfz18_1
                                try clear hfz18_2
                                try clear hfz19_0
                                try clear hfz19_1
                                try clear hfz19_2
                                try clear hfz26_0
                                try clear hfz26_1
                                try clear hfz26_2
                                try clear hfz29_0
                                try clear hfz29_1
                                try clear hfz29_2
                                try clear hfz32_0
                                try clear hfz32_1
                                try clear hfz32_2
                                try clear hfz38_0
                                try clear hfz38_1
                                try clear hfz38_2
                                try clear hx220_0
                                try clear hx220_1
                                try clear hx220_2
                                try clear hx220_3
                                try clear hx221_0
                                try clear hx221_1
                                try clear hx221_2
                                try clear hx221_3
                                try clear hx223_0
                                try clear hx223_1
                                try clear hx223_2
                                try clear hx223_3
                                try clear hx224_0
                                try clear hx224_1
                                try clear hx224_2
                                try clear hx224_3
                                try clear p2
                                try clear p220
                                try clear p221
                                try clear p223
                                try clear p224
                                try clear p6
                                try clear q2
                                try clear q220
                                try clear q221
                                try clear q223
                                try clear q224
                                try clear q229
                                try clear q234
                                obtain ⟨kq, x128_36, rfl, HA, HJ36, HO_5, HO_12, BK222, HB⟩ := hcut
                                cases kq with
                                | zero => exact absurd HA.out (by simp [halterlaw13_RegionKeeps.j3])
                                | succ kj36 =>
                                  have H := HA.out
                                  clear HA
                                  simp only [halterlaw13_RegionKeeps.j3] at H
                                  by_cases c41 : x128_36 = true
                                  · subst c41
                                    have H1 : (if x8_1 = true then (halterlaw13_RegionKeeps.j5 kj36 l0 x5_1 (wrap64 (Int.tmod (IntKind.u64.wrap (a1)) 64)) (Int.tmod ((rd_T48 l0 x9_1).f1.f2) 8) x8_1 x9_1 t230 t231) else (some false)) = some r := by rw [if_pos rfl] at H; exact H
                                    clear H
                                    have H := H1
                                    clear H1
                                    by_cases c42 : x8_1 = true
                                    · subst c42
                                      have H1 : (halterlaw13_RegionKeeps.j5 kj36 l0 x5_1 (wrap64 (Int.tmod (IntKind.u64.wrap (a1)) 64)) (Int.tmod ((rd_T48 l0 x9_1).f1.f2) 8) true x9_1 t230 t231) = some r := by rw [if_pos rfl] at H; exact H
                                      clear H
                                      have H := H1
                                      clear H1
                                      as_aux_lemma =>
                                        have H' := Aside0.mk H
                                        clear H
                                        have hcz43_0 : wc.cell? ⟨gb222, 0, none⟩ = some (.int .i64 (wrap64 (Int.tmod (IntKind.u64.wrap ((rd_T48 l0 x9_1).f1.f0)) 64))) := (blk_cell BK222.out 0).trans rfl
                                        have hcz43_1 : wc.cell? ⟨gb222, 1, none⟩ = some (.int .i64 (wrap64 ((wrap64 ((wrap64 (Int.tmod (IntKind.u64.wrap ((rd_T48 l0 x9_1).f1.f0)) 64)) + 1)) + (wrap64 (Int.tmod (IntKind.u64.wrap ((rd_T48 l0 x9_1).f1.f1)) 20))))) := (blk_cell BK222.out 1).trans rfl
                                        have hcz43_2 : wc.cell? ⟨gb222, 2, none⟩ = some (.int .u8 (Int.tmod ((rd_T48 l0 x9_1).f1.f2) 8)) := (blk_cell BK222.out 2).trans rfl
                                        have hfz43_0 := blk_frozen BK222.out 0
                                        have hfz43_1 := blk_frozen BK222.out 1
                                        have hfz43_2 := blk_frozen BK222.out 2
                                        go_wp2
                                        go_meet
                                        case rel => exact ⟨_, ((Int.tmod ((rd_T48 l0 x9_1).f1.f2) 8)), (true), (t230), (t231), (by first | rfl | (simp; done) | (simp [*]; done)), (by first | rfl | (simp; done) | (simp [*]; done)), (by first | rfl | (simp; done) | (simp [*]; done)), H', ⟨by have := HK1.out; have := HJ2.out; have := HJ7.out; have := HJ36.out; first | omega | exact Nat.le_refl _⟩, ⟨by (with_reducible repeat (first | apply Kd.R_alloc | apply Kd.R_drewN | apply Kd.R_drew)); exact HO_5.out⟩, ⟨by (with_reducible repeat (first | apply Kd.R_alloc | apply Kd.R_drewN | apply Kd.R_drew)); exact HO_12.out⟩, ⟨by (with_reducible repeat (first | refine blk_drewN ?_ _ | refine blk_drew ?_ | refine blk_alloc ?_ _)); exact BK222.out⟩, ⟨by repeat (first | (with_reducible first | exact HB.out | apply below_alloc | apply pw_below_drewN | apply below_drew1 | refine below_set ?_ GE222.out) | exact HB.out)⟩⟩
                                    · replace c42 := Bool.eq_false_iff.mpr c42
                                      subst c42
                                      have H1 : (some false) = some r := by rw [if_neg (show ¬ (false = true) by decide)] at H; exact H
                                      clear H
                                      have H := H1
                                      clear H1
                                      as_aux_lemma =>
                                        obtain rfl := Option.some.inj H
                                        go_wp2
                                        go_ret
                                        exact ⟨by first | rfl | (simp [errW_none, errW_some] <;> rfl) | (simp [*, errW_none, errW_some] <;> rfl), by repeat (first | (with_reducible first | exact HB.out | apply below_alloc | apply pw_below_drewN | apply below_drew1 | refine below_set ?_ GE222.out) | exact HB.out)⟩
                                  · replace c41 := Bool.eq_false_iff.mpr c41
                                    subst c41
                                    have H1 : (halterlaw13_RegionKeeps.j5 kj36 l0 x5_1 (wrap64 (Int.tmod (IntKind.u64.wrap (a1)) 64)) x7_1 x8_1 x9_1 t230 t231) = some r := by rw [if_neg (show ¬ (false = true) by decide)] at H; exact H
                                    clear H
                                    have H := H1
                                    clear H1
                                    as_aux_lemma =>
                                      have H' := Aside0.mk H
                                      clear H
                                      go_wp2
                                      go_meet
                                      case rel => exact ⟨_, (x7_1), (x8_1), (t230), (t231), (by first | rfl | (simp; done) | (simp [*]; done)), (by first | rfl | (simp; done) | (simp [*]; done)), (by first | rfl | (simp; done) | (simp [*]; done)), H', ⟨by have := HK1.out; have := HJ2.out; have := HJ7.out; have := HJ36.out; first | omega | exact Nat.le_refl _⟩, ⟨by (with_reducible repeat (first | apply Kd.R_alloc | apply Kd.R_drewN | apply Kd.R_drew)); exact HO_5.out⟩, ⟨by (with_reducible repeat (first | apply Kd.R_alloc | apply Kd.R_drewN | apply Kd.R_drew)); exact HO_12.out⟩, ⟨by (with_reducible repeat (first | refine blk_drewN ?_ _ | refine blk_drew ?_ | refine blk_alloc ?_ _)); exact BK222.out⟩, ⟨by repeat (first | (with_reducible first | exact HB.out | apply below_alloc | apply pw_below_drewN | apply below_drew1 | refine below_set ?_ GE222.out) | exact HB.out)⟩⟩
                            · rw [if_neg c35] at H
                              have c35b0 : ((wrap64 (Int.tmod (IntKind.u64.wrap ((rd_T48 l0 x9_1).f0)) 4)) == 3) = false := beq_eq_false_iff_ne.mpr c35
                              have c35b1 : ((wrap64 (Int.tmod (IntKind.u64.wrap ((rd_T48 l0 x9_1).f0)) 4)) != 3) = true := bne_iff_ne.mpr c35
                              replace H := Option.bind_eq_some_iff.mp H
                              obtain ⟨⟨t235, t238⟩, A440, H⟩ := H
                              replace H : (if t238.isNone = true then (halterlaw13_RegionKeeps.j4 kj7 l0 x5_1 (wrap64 (Int.tmod (IntKind.u64.wrap (a1)) 64)) x7_1 x8_1 x9_1 t235 none x11_7 (wrap64 (Int.tmod (IntKind.u64.wrap ((rd_T48 l0 x9_1).f1.f0)) 64)) (wrap64 ((wrap64 ((wrap64 (Int.tmod (IntKind.u64.wrap ((rd_T48 l0 x9_1).f1.f0)) 64)) + 1)) + (wrap64 (Int.tmod (IntKind.u64.wrap ((rd_T48 l0 x9_1).f1.f1)) 20)))) (Int.tmod ((rd_T48 l0 x9_1).f1.f2) 8)) else (halterlaw13_RegionKeeps.j4 kj7 l0 x5_1 (wrap64 (Int.tmod (IntKind.u64.wrap (a1)) 64)) x7_1 x8_1 x9_1 t235 (some (t238.getD 0)) false (wrap64 (Int.tmod (IntKind.u64.wrap ((rd_T48 l0 x9_1).f1.f0)) 64)) (wrap64 ((wrap64 ((wrap64 (Int.tmod (IntKind.u64.wrap ((rd_T48 l0 x9_1).f1.f0)) 64)) + 1)) + (wrap64 (Int.tmod (IntKind.u64.wrap ((rd_T48 l0 x9_1).f1.f1)) 20)))) (Int.tmod ((rd_T48 l0 x9_1).f1.f2) 8))) = some r := H
                              have A44 := Aside0.mk A440
                              clear A440
                              have HC45 := Aside0.mk H
                              clear H
                              have hcz46_0 : wc.cell? ⟨gb222, 0, none⟩ = some (.int .i64 (wrap64 (Int.tmod (IntKind.u64.wrap ((rd_T48 l0 x9_1).f1.f0)) 64))) := (blk_cell BK222.out 0).trans rfl
                              have hcz46_1 : wc.cell? ⟨gb222, 1, none⟩ = some (.int .i64 (wrap64 ((wrap64 ((wrap64 (Int.tmod (IntKind.u64.wrap ((rd_T48 l0 x9_1).f1.f0)) 64)) + 1)) + (wrap64 (Int.tmod (IntKind.u64.wrap ((rd_T48 l0 x9_1).f1.f1)) 20))))) := (blk_cell BK222.out 1).trans rfl
                              have hcz46_2 : wc.cell? ⟨gb222, 2, none⟩ = some (.int .u8 (Int.tmod ((rd_T48 l0 x9_1).f1.f2) 8)) := (blk_cell BK222.out 2).trans rfl
                              have hfz46_0 := blk_frozen BK222.out 0
                              have hfz46_1 := blk_frozen BK222.out 1
                              have hfz46_2 := blk_frozen BK222.out 2
                              obtain ⟨Ao47, co47, eo47⟩ := Kd.R_slice HO_5.out
                              subst eo47
                              go_upto_region 14 with (first | ((with_reducible refine gate_callee (f := 16) rfl ?_); refine goesL_ (some 82) rfl rfl Try.func16 (by kernel_rfl) rfl #[.slice Ao47 x5_1.length co47, .agg #[.int .i64 (wrap64 (Int.tmod (IntKind.u64.wrap ((rd_T48 l0 x9_1).f1.f0)) 64)), .int .i64 (wrap64 ((wrap64 ((wrap64 (Int.tmod (IntKind.u64.wrap ((rd_T48 l0 x9_1).f1.f0)) 64)) + 1)) + (wrap64 (Int.tmod (IntKind.u64.wrap ((rd_T48 l0 x9_1).f1.f1)) 20)))), .int .u8 (Int.tmod ((rd_T48 l0 x9_1).f1.f2) 8)]] rfl (by (try simp only [List.map_toArray, List.map_cons, List.map_nil]); first | done | rfl | (simp only [List.length_drop, List.length_take]; rfl)) ?_; (with_reducible refine (region_Add.calls kj7 _ _ x5_1 (wrap64 (Int.tmod (IntKind.u64.wrap ((rd_T48 l0 x9_1).f1.f0)) 64)) (wrap64 ((wrap64 ((wrap64 (Int.tmod (IntKind.u64.wrap ((rd_T48 l0 x9_1).f1.f0)) 64)) + 1)) + (wrap64 (Int.tmod (IntKind.u64.wrap ((rd_T48 l0 x9_1).f1.f1)) 20)))) (Int.tmod ((rd_T48 l0 x9_1).f1.f2) 8) t235 t238 _ ?side1 ?side2 A44.out).mono ?_); (case side1 => repeat (first | exact (Kd.R_reads' HO_5.out).2.2 | (with_reducible refine Kd.C_alloc ?_ _) | (with_reducible refine Kd.C_drewN ?_ _) | (with_reducible refine Kd.C_drew ?_))); (case side2 => exact (Kd.R_reads' HO_5.out).2.1); rintro e w48 ⟨v236, rfl, ho0, hb⟩; refine ⟨_, rfl, ?_⟩; have n0_ := Aside0.mk (Kd.R_elder' (by (with_reducible repeat (first | apply Kd.R_alloc | apply Kd.R_drewN | apply Kd.R_drew)); exact HO_5.out) (Kd.R_base ho0) hb); have n1_ := Aside0.mk (Kd.R_lower (Kd.R_newB (Kd.R_new' ho0 (Kd.R_lt (by (with_reducible repeat (first | apply Kd.R_alloc | apply Kd.R_drewN | apply Kd.R_drew)); exact HO_5.out))) (g := gb222) (o := .cells #[.int .i64 (wrap64 (Int.tmod (IntKind.u64.wrap ((rd_T48 l0 x9_1).f1.f0)) 64)), .int .i64 (wrap64 ((wrap64 ((wrap64 (Int.tmod (IntKind.u64.wrap ((rd_T48 l0 x9_1).f1.f0)) 64)) + 1)) + (wrap64 (Int.tmod (IntKind.u64.wrap ((rd_T48 l0 x9_1).f1.f1)) 20)))), .int .u8 (Int.tmod ((rd_T48 l0 x9_1).f1.f2) 8)] 49 (0, 0)) (by (with_reducible repeat (first | refine blk_drewN ?_ _ | refine blk_drew ?_ | refine blk_alloc ?_ _)); exact BK222.out)) (below_size (by repeat (first | (with_reducible first | exact HB.out | apply below_alloc | apply pw_below_drewN | apply below_drew1 | refine below_set ?_ GE222.out) | exact HB.out)))); have n2_ := Aside0.mk (blk_below (g := gb222) (o := .cells #[.int .i64 (wrap64 (Int.tmod (IntKind.u64.wrap ((rd_T48 l0 x9_1).f1.f0)) 64)), .int .i64 (wrap64 ((wrap64 ((wrap64 (Int.tmod (IntKind.u64.wrap ((rd_T48 l0 x9_1).f1.f0)) 64)) + 1)) + (wrap64 (Int.tmod (IntKind.u64.wrap ((rd_T48 l0 x9_1).f1.f1)) 20)))), .int .u8 (Int.tmod ((rd_T48 l0 x9_1).f1.f2) 8)] 49 (0, 0)) (by (with_reducible repeat (first | refine blk_drewN ?_ _ | refine blk_drew ?_ | refine blk_alloc ?_ _)); exact BK222.out) hb); have n3_ := Aside0.mk (below_step (by repeat (first | (with_reducible first | exact HB.out | apply below_alloc | apply pw_below_drewN | apply below_drew1 | refine below_set ?_ GE222.out) | exact HB.out)) hb); clear HO_5; clear BK222; clear HB; have HO_5 := n0_; have HO237 := n1_; have BK222 := n2_; have HB := n3_; clear n0_ n1_ n2_ n3_; (try clear hb); (try clear hb2); (try clear hk); (try clear hi); (try clear ho0); (try simp only [errW_none, errW_some])))
                              (try simp only [Act.put, List.setIfInBounds_toArray, List.set_cons_zero, List.set_cons_succ])
                              go_cut [89] (fun v89 wc => ∃ (kq : Nat) (x89_44 : Bool), v89 = .bool x89_44 ∧ Aside0 (halterlaw13_RegionKeeps.j4 kq l0 x5_1 (wrap64 (Int.tmod (IntKind.u64.wrap (a1)) 64)) x7_1 x8_1 x9_1 t235 t238 x89_44 (wrap64 (Int.tmod (IntKind.u64.wrap ((rd_T48 l0 x9_1).f1.f0)) 64)) (wrap64 ((wrap64 ((wrap64 (Int.tmod (IntKind.u64.wrap ((rd_T48 l0 x9_1).f1.f0)) 64)) + 1)) + (wrap64 (Int.tmod (IntKind.u64.wrap ((rd_T48 l0 x9_1).f1.f1)) 20)))) (Int.tmod ((rd_T48 l0 x9_1).f1.f2) 8) = some r) ∧ Aside0 (kq ≤ kj7) ∧ Aside0 (Kd.R k49 49 wc w.heap.size (fun k_ => some k_ ≠ (v236 : Value).ownBlock ∧ k_ ≠ gb222) (.slice Ao47 x5_1.length co47) x5_1) ∧ Aside0 (Kd.R k49 49 wc w.heap.size (fun k_ => some k_ ≠ ((.slice Ao47 x5_1.length co47) : Value).ownBlock ∧ k_ ≠ gb222) v236 t235) ∧ Aside0 (wc.heap[gb222]? = some (.cells #[.int .i64 (wrap64 (Int.tmod (IntKind.u64.wrap ((rd_T48 l0 x9_1).f1.f0)) 64)), .int .i64 (wrap64 ((wrap64 ((wrap64 (Int.tmod (IntKind.u64.wrap ((rd_T48 l0 x9_1).f1.f0)) 64)) + 1)) + (wrap64 (Int.tmod (IntKind.u64.wrap ((rd_T48 l0 x9_1).f1.f1)) 20)))), .int .u8 (Int.tmod ((rd_T48 l0 x9_1).f1.f2) 8)] 49 (0, 0))) ∧ Aside0 (Below w.heap.size w wc))
                              case first =>
                                have H := HC45.out
                                clear HC45
                                rcases t238 with _ | q239
                                · have H1 : (halterlaw13_RegionKeeps.j4 kj7 l0 x5_1 (wrap64 (Int.tmod (IntKind.u64.wrap (a1)) 64)) x7_1 x8_1 x9_1 t235 none x11_7 (wrap64 (Int.tmod (IntKind.u64.wrap ((rd_T48 l0 x9_1).f1.f0)) 64)) (wrap64 ((wrap64 ((wrap64 (Int.tmod (IntKind.u64.wrap ((rd_T48 l0 x9_1).f1.f0)) 64)) + 1)) + (wrap64 (Int.tmod (IntKind.u64.wrap ((rd_T48 l0 x9_1).f1.f1)) 20)))) (Int.tmod ((rd_T48 l0 x9_1).f1.f2) 8)) = some r := by rw [if_pos (show (none : Option Int).isNone = true by rfl)] at H; exact H
                                  clear H
                                  have H := H1
                                  clear H1
                                  try simp only [errW_none, errW_some]
                                  as_aux_lemma =>
                                    have H' := Aside0.mk H
                                    clear H
                                    go_wp2
                                    go_meet
                                    case rel => exact ⟨_, (x11_7), (by first | rfl | (simp; done) | (simp [*]; done)), H', ⟨by have := HK1.out; have := HJ2.out; have := HJ7.out; first | omega | exact Nat.le_refl _⟩, ⟨by (with_reducible repeat (first | apply Kd.R_alloc | apply Kd.R_drewN | apply Kd.R_drew)); exact Kd.R_mono HO_5.out (fun _ hk => ⟨hk.2, hk.1⟩)⟩, ⟨by (with_reducible repeat (first | apply Kd.R_alloc | apply Kd.R_drewN | apply Kd.R_drew)); exact Kd.R_mono HO237.out (fun _ hk => ⟨hk.1.2, hk.2⟩)⟩, ⟨by (with_reducible repeat (first | refine blk_drewN ?_ _ | refine blk_drew ?_ | refine blk_alloc ?_ _)); exact BK222.out⟩, ⟨by repeat (first | (with_reducible first | exact HB.out | apply below_alloc | apply pw_below_drewN | apply below_drew1 | refine below_set ?_ GE222.out) | exact HB.out)⟩⟩
                                · have H1 : (halterlaw13_RegionKeeps.j4 kj7 l0 x5_1 (wrap64 (Int.tmod (IntKind.u64.wrap (a1)) 64)) x7_1 x8_1 x9_1 t235 (some q239) false (wrap64 (Int.tmod (IntKind.u64.wrap ((rd_T48 l0 x9_1).f1.f0)) 64)) (wrap64 ((wrap64 ((wrap64 (Int.tmod (IntKind.u64.wrap ((rd_T48 l0 x9_1).f1.f0)) 64)) + 1)) + (wrap64 (Int.tmod (IntKind.u64.wrap ((rd_T48 l0 x9_1).f1.f1)) 20)))) (Int.tmod ((rd_T48 l0 x9_1).f1.f2) 8)) = some r := by rw [if_neg (show ¬ (some q239).isNone = true by simp)] at H; exact H
                                  clear H
                                  have H := H1
                                  clear H1
                                  try simp only [errW_none, errW_some]
                                  as_aux_lemma =>
                                    have H' := Aside0.mk H
                                    clear H
                                    go_wp2
                                    go_meet
                                    case rel => exact ⟨_, (false), (by first | rfl | (simp; done) | (simp [*]; done)), H', ⟨by have := HK1.out; have := HJ2.out; have := HJ7.out; first | omega | exact Nat.le_refl _⟩, ⟨by (with_reducible repeat (first | apply Kd.R_alloc | apply Kd.R_drewN | apply Kd.R_drew)); exact Kd.R_mono HO_5.out (fun _ hk => ⟨hk.2, hk.1⟩)⟩, ⟨by (with_reducible repeat (first | apply Kd.R_alloc | apply Kd.R_drewN | apply Kd.R_drew)); exact Kd.R_mono HO237.out (fun _ hk => ⟨hk.1.2, hk.2⟩)⟩, ⟨by (with_reducible repeat (first | refine blk_drewN ?_ _ | refine blk_drew ?_ | refine blk_alloc ?_ _)); exact BK222.out⟩, ⟨by repeat (first | (with_reducible first | exact HB.out | apply below_alloc | apply pw_below_drewN | apply below_drew1 | refine below_set ?_ GE222.out) | exact HB.out)⟩⟩
                              case rest =>
                                clear HC45
                                try clear c1
                                try clear c2
                                try clear p2
                                try clear q2
                                try clear hx2
                                try clear c3
                                try clear c4
                                try clear c4b0
                                try clear c5
                                try clear c6
                                try clear c6b0
                                try clear p6
                                try clear c7
                                try clear c7b0
                                try clear c14
                                try clear c15
                                try clear c16
                                try clear c17
                                try clear c17b0
                                try clear c20
                                try clear c20b0
                                try clear c21
                                try clear c21b0
                                try clear p22
                                try clear q22
                                try clear hx22
                                try clear c23
                                try clear c23b0
                                try clear c23b1
                                try clear q23
                                try clear c25
                                try clear c35
                                try clear c35b0
                                try clear c35b1
                                try clear c41
                                try clear c42
                                try clear hcz18_0
                                try clear hcz18_1
                                try clear hcz18_2
                                try clear hcz19_0
                                try clear hcz19_1
                                try clear hcz19_2
                                try clear hcz26_0
                                try clear hcz26_1
                                try clear hcz26_2
                                try clear hcz29_0
                                try clear hcz29_1
                                try clear hcz29_2
                                try clear hcz32_0
                                try clear hcz32_1
                                try clear hcz32_2
                                try clear hcz38_0
                                try clear hcz38_1
                                try clear hcz38_2
                                try clear hcz43_0
                                try clear hcz43_1
                                try clear hcz43_2
                                try clear hcz46_0
                                try clear hcz46_1
                                try clear hcz46_2
                                try clear hfz18_0
                                try clear hfz18_1
                                try clear hfz18_2
                                try clear hfz19_0
                                try clear hfz19_1
                                try clear hfz19_2
                                try clear hfz26_0
                                try clear hfz26_1
                                try clear hfz26_2
                                try clear hfz29_0
                                try clear hfz29_1
                                try clear hfz29_2
                                try clear hfz32_0
                                try clear hfz32_1
                                try clear hfz32_2
                                try clear hfz38_0
                                try clear hfz38_1
                                try clear hfz38_2
                                try clear hfz43_0
                                try clear hfz43_1
                                try clear hfz43_2
                                try clear hfz46_0
                                try clear hfz46_1
                                try clear hfz46_2
                                try clear hx220_0
                                try clear hx220_1
                                try clear hx220_2
                                try clear hx220_3
                                try clear hx221_0
                                try clear hx221_1
                                try clear hx221_2
                                try clear hx221_3
                                try clear hx223_0
                                try clear hx223_1
                                try clear hx223_2
                                try clear hx223_3
                                try clear hx224_0
                                try clear hx224_1
                                try clear hx224_2
                                try clear hx224_3
                                try clear p2
                                try clear p22
                                try clear p220
                                try clear p221
                                try clear p223
                                try clear p224
                                try clear p6
                                try clear q2
                                try clear q22
                                try clear q220
                                try clear q221
                                try clear q223
                                try clear q224
                                try clear q229
                                try clear q23
                                try clear q234
                                try clear q239
                                obtain ⟨kq, x89_44, rfl, HA, HJ44, HO_5, HO_12, BK222, HB⟩ := hcut
                                cases kq with
                                | zero => exact absurd HA.out (by simp [halterlaw13_RegionKeeps.j4])
                                | succ kj44 =>
                                  have H := HA.out
                                  clear HA
                                  simp only [halterlaw13_RegionKeeps.j4] at H
                                  by_cases c49 : x89_44 = true
                                  · subst c49
                                    have H1 : (if x8_1 = true then (some false) else (halterlaw13_RegionKeeps.j5 kj44 l0 x5_1 (wrap64 (Int.tmod (IntKind.u64.wrap (a1)) 64)) (Int.tmod ((rd_T48 l0 x9_1).f1.f2) 8) true x9_1 t235 t238)) = some r := by rw [if_pos rfl] at H; exact H
                                    clear H
                                    have H := H1
                                    clear H1
                                    by_cases c50 : x8_1 = true
                                    · subst c50
                                      have H1 : (some false) = some r := by rw [if_pos rfl] at H; exact H
                                      clear H
                                      have H := H1
                                      clear H1
                                      as_aux_lemma =>
                                        obtain rfl := Option.some.inj H
                                        go_wp2
                                        go_ret
                                        exact ⟨by first | rfl | (simp [errW_none, errW_some] <;> rfl) | (simp [*, errW_none, errW_some] <;> rfl), by repeat (first | (with_reducible first | exact HB.out | apply below_alloc | apply pw_below_drewN | apply below_drew1 | refine below_set ?_ GE222.out) | exact HB.out)⟩
                                    · replace c50 := Bool.eq_false_iff.mpr c50
                                      subst c50
                                      have H1 : (halterlaw13_RegionKeeps.j5 kj44 l0 x5_1 (wrap64 (Int.tmod (IntKind.u64.wrap (a1)) 64)) (Int.tmod ((rd_T48 l0 x9_1).f1.f2) 8) true x9_1 t235 t238) = some r := by rw [if_neg (show ¬ (false = true) by decide)] at H; exact H
                                      clear H
                                      have H := H1
                                      clear H1
                                      as_aux_lemma =>
                                        have H' := Aside0.mk H
                                        clear H
                                        have hcz51_0 : wc.cell? ⟨gb222, 0, none⟩ = some (.int .i64 (wrap64 (Int.tmod (IntKind.u64.wrap ((rd_T48 l0 x9_1).f1.f0)) 64))) := (blk_cell BK222.out 0).trans rfl
                                        have hcz51_1 : wc.cell? ⟨gb222, 1, none⟩ = some (.int .i64 (wrap64 ((wrap64 ((wrap64 (Int.tmod (IntKind.u64.wrap ((rd_T48 l0 x9_1).f1.f0)) 64)) + 1)) + (wrap64 (Int.tmod (IntKind.u64.wrap ((rd_T48 l0 x9_1).f1.f1)) 20))))) := (blk_cell BK222.out 1).trans rfl
                                        have hcz51_2 : wc.cell? ⟨gb222, 2, none⟩ = some (.int .u8 (Int.tmod ((rd_T48 l0 x9_1).f1.f2) 8)) := (blk_cell BK222.out 2).trans rfl
                                        have hfz51_0 := blk_frozen BK222.out 0
                                        have hfz51_1 := blk_frozen BK222.out 1
                                        have hfz51_2 := blk_frozen BK222.out 2
                                        go_wp2
                                        go_meet
                                        case rel => exact ⟨_, ((Int.tmod ((rd_T48 l0 x9_1).f1.f2) 8)), (true), (t235), (t238), (by first | rfl | (simp; done) | (simp [*]; done)), (by first | rfl | (simp; done) | (simp [*]; done)), (by first | rfl | (simp; done) | (simp [*]; done)), H', ⟨by have := HK1.out; have := HJ2.out; have := HJ7.out; have := HJ44.out; first | omega | exact Nat.le_refl _⟩, ⟨by (with_reducible repeat (first | apply Kd.R_alloc | apply Kd.R_drewN | apply Kd.R_drew)); exact HO_5.out⟩, ⟨by (with_reducible repeat (first | apply Kd.R_alloc | apply Kd.R_drewN | apply Kd.R_drew)); exact HO_12.out⟩, ⟨by (with_reducible repeat (first | refine blk_drewN ?_ _ | refine blk_drew ?_ | refine blk_alloc ?_ _)); exact BK222.out⟩, ⟨by repeat (first | (with_reducible first | exact HB.out | apply below_alloc | apply pw_below_drewN | apply below_drew1 | refine below_set ?_ GE222.out) | exact HB.out)⟩⟩
                                  · replace c49 := Bool.eq_false_iff.mpr c49
                                    subst c49
                                    have H1 : (halterlaw13_RegionKeeps.j5 kj44 l0 x5_1 (wrap64 (Int.tmod (IntKind.u64.wrap (a1)) 64)) x7_1 x8_1 x9_1 t235 t238) = some r := by rw [if_neg (show ¬ (false = true) by decide)] at H; exact H
                                    clear H
                                    have H := H1
                                    clear H1
                                    as_aux_lemma =>
                                      have H' := Aside0.mk H
                                      clear H
                                      go_wp2
                                      go_meet
                                      case rel => exact ⟨_, (x7_1), (x8_1), (t235), (t238), (by first | rfl | (simp; done) | (simp [*]; done)), (by first | rfl | (simp; done) | (simp [*]; done)), (by first | rfl | (simp; done) | (simp [*]; done)), H', ⟨by have := HK1.out; have := HJ2.out; have := HJ7.out; have := HJ44.out; first | omega | exact Nat.le_refl _⟩, ⟨by (with_reducible repeat (first | apply Kd.R_alloc | apply Kd.R_drewN | apply Kd.R_drew)); exact HO_5.out⟩, ⟨by (with_reducible repeat (first | apply Kd.R_alloc | apply Kd.R_drewN | apply Kd.R_drew)); exact HO_12.out⟩, ⟨by (with_reducible repeat (first | refine blk_drewN ?_ _ | refine blk_drew ?_ | refine blk_alloc ?_ _)); exact BK222.out⟩, ⟨by repeat (first | (with_reducible first | exact HB.out | apply below_alloc | apply pw_below_drewN | apply below_drew1 | refine below_set ?_ GE222.out) | exact HB.out)⟩⟩
                        case rest =>
                          clear HC22
                          try clear c1
                          try clear c2
                          try clear p2
                          try clear q2
                          try clear hx2
                          try clear c3
                          try clear c4
                          try clear c4b0
                          try clear c5
                          try clear c6
                          try clear c6b0
                          try clear p6
                          try clear c7
                          try clear c7b0
                          try clear c14
                          try clear c15
                          try clear c16
                          try clear c17
                          try clear c17b0
                          try clear c20
                          try clear c20b0
                          try clear c21
                          try clear c21b0
                          try clear p22
                          try clear q22
                          try clear hx22
                          try clear c23
                          try clear c23b0
                          try clear c23b1
                          try clear q23
                          try clear c25
                          try clear c35
                          try clear c35b0
                          try clear c35b1
                          try clear c41
                          try clear c42
                          try clear c49
                          try clear c50
                          try clear hcz18_0
                          try clear hcz18_1
                          try clear hcz18_2
                          try clear hcz19_0
                          try clear hcz19_1
                          try clear hcz19_2
                          try clear hcz26_0
                          try clear hcz26_1
                          try clear hcz26_2
                          try clear hcz29_0
                          try clear hcz29_1
                          try clear hcz29_2
                          try clear hcz32_0
                          try clear hcz32_1
                          try clear hcz32_2
                          try clear hcz38_0
                          try clear hcz38_1
                          try clear hcz38_2
                          try clear hcz43_0
                          try clear hcz43_1
                          try clear hcz43_2
                          try clear hcz46_0
                          try clear hcz46_1
                          try clear hcz46_2
                          try clear hcz51_0
                          try clear hcz51_1
                          try clear hcz51_2
                          try clear hfz18_0
                          try clear hfz18_1
                          try clear hfz18_2
                          try clear hfz19_0
                          try clear hfz19_1
                          try clear hfz19_2
                          try clear hfz26_0
                          try clear hfz26_1
                          try clear hfz26_2
                          try clear hfz29_0
                          try clear hfz29_1
                          try clear hfz29_2
                          try clear hfz32_0
                          try clear hfz32_1
                          try clear hfz32_2
                          try clear hfz38_0
                          try clear hfz38_1
                          try clear hfz38_2
                          try clear hfz43_0
                          try clear hfz43_1
                          try clear hfz43_2
                          try clear hfz46_0
                          try clear hfz46_1
                          try clear hfz46_2
                          try clear hfz51_0
                          try clear hfz51_1
                          try clear hfz51_2
                          try clear hx220_0
                          try clear hx220_1
                          try clear hx220_2
                          try clear hx220_3
                          try clear hx221_0
                          try clear hx221_1
                          try clear hx221_2
                          try clear hx221_3
                          try clear hx223_0
                          try clear hx223_1
                          try clear hx223_2
                          try clear hx223_3
                          try clear hx224_0
                          try clear hx224_1
                          try clear hx224_2
                          try clear hx224_3
                          try clear p2
                          try clear p22
                          try clear p220
                          try clear p221
                          try clear p223
                          try clear p224
                          try clear p6
                          try clear q2
                          try clear q22
                          try clear q220
                          try clear q221
                          try clear q223
                          try clear q224
                          try clear q229
                          try clear q23
                          try clear q234
                          try clear q239
                          obtain ⟨kq, x7_21, x8_21, x12_21, x13_21, rfl, rfl, rfl, HA, HJ21, HO_5, HO_12, BK222, HB⟩ := hcut
                          cases kq with
                          | zero => exact absurd HA.out (by simp [halterlaw13_RegionKeeps.j5])
                          | succ kj21 =>
                            have H := HA.out
                            clear HA
                            simp only [halterlaw13_RegionKeeps.j5] at H
                            rcases x13_21 with _ | q240
                            · have H1 : ((region_At.f kj21 x12_21 (wrap64 (Int.tmod (IntKind.u64.wrap (a1)) 64))).bind fun bt241 => ((region_Check.f kj21 x12_21).bind fun t246 => (if t246.isNone = true then (if (bt241.2.2.2 != x8_21) = true then (some false) else (if x8_21 = true then (if bt241.2.2.1 = x7_21 then (halterlaw13_RegionKeeps.l0 kj21 l0 x12_21 (wrap64 (Int.tmod (IntKind.u64.wrap (a1)) 64)) x7_21 x8_21 (wrap64 (x9_1 + 1))) else (some false)) else (halterlaw13_RegionKeeps.l0 kj21 l0 x12_21 (wrap64 (Int.tmod (IntKind.u64.wrap (a1)) 64)) x7_21 x8_21 (wrap64 (x9_1 + 1))))) else (some false)))) = some r := by rw [if_pos (show (none : Option Int).isNone = true by rfl)] at H; exact H
                              clear H
                              have H := H1
                              clear H1
                              try simp only [errW_none, errW_some]
                              replace H := Option.bind_eq_some_iff.mp H
                              obtain ⟨⟨t241, t242, t243, t244⟩, A520, H⟩ := H
                              replace H : ((region_Check.f kj21 x12_21).bind fun t246 => (if t246.isNone = true then (if (t244 != x8_21) = true then (some false) else (if x8_21 = true then (if t243 = x7_21 then (halterlaw13_RegionKeeps.l0 kj21 l0 x12_21 (wrap64 (Int.tmod (IntKind.u64.wrap (a1)) 64)) x7_21 x8_21 (wrap64 (x9_1 + 1))) else (some false)) else (halterlaw13_RegionKeeps.l0 kj21 l0 x12_21 (wrap64 (Int.tmod (IntKind.u64.wrap (a1)) 64)) x7_21 x8_21 (wrap64 (x9_1 + 1))))) else (some false))) = some r := H
                              have A52 := Aside0.mk A520
                              clear A520
                              replace H := Option.bind_eq_some_iff.mp H
                              obtain ⟨t246, A530, H⟩ := H
                              replace H : (if t246.isNone = true then (if (t244 != x8_21) = true then (some false) else (if x8_21 = true then (if t243 = x7_21 then (halterlaw13_RegionKeeps.l0 kj21 l0 x12_21 (wrap64 (Int.tmod (IntKind.u64.wrap (a1)) 64)) x7_21 x8_21 (wrap64 (x9_1 + 1))) else (some false)) else (halterlaw13_RegionKeeps.l0 kj21 l0 x12_21 (wrap64 (Int.tmod (IntKind.u64.wrap (a1)) 64)) x7_21 x8_21 (wrap64 (x9_1 + 1))))) else (some false)) = some r := H
                              have A53 := Aside0.mk A530
                              clear A530
                              rcases t246 with _ | q247
                              · have H1 : (if (t244 != x8_21) = true then (some false) else (if x8_21 = true then (if t243 = x7_21 then (halterlaw13_RegionKeeps.l0 kj21 l0 x12_21 (wrap64 (Int.tmod (IntKind.u64.wrap (a1)) 64)) x7_21 x8_21 (wrap64 (x9_1 + 1))) else (some false)) else (halterlaw13_RegionKeeps.l0 kj21 l0 x12_21 (wrap64 (Int.tmod (IntKind.u64.wrap (a1)) 64)) x7_21 x8_21 (wrap64 (x9_1 + 1))))) = some r := by rw [if_pos (show (none : Option Int).isNone = true by rfl)] at H; exact H
                                clear H
                                have H := H1
                                clear H1
                                try simp only [errW_none, errW_some]
                                by_cases c54 : (t244 != x8_21) = true
                                · rw [if_pos c54] at H
                                  have c54b0 : (t244 != x8_21) = true := c54
                                  (try (have c54b1 : decide (t244 = x8_21) = false := by simpa using c54))
                                  (try (have c54b2 : (t244 == x8_21) = false := by simpa using c54))
                                  (try (have c54b3 : ¬ (t244 = x8_21) := by simpa using c54))
                                  clear c54
                                  as_aux_lemma =>
                                    obtain rfl := Option.some.inj H
                                    obtain ⟨Ao55, co55, eo55⟩ := Kd.R_slice HO_12.out
                                    subst eo55
                                    go_wp2_with (first | ((with_reducible refine gate_callee (f := 17) rfl ?_); refine goesL_ (some 139) rfl rfl Try.func17 (by kernel_rfl) rfl #[.slice Ao55 x12_21.length co55, .int .i64 (wrap64 (Int.tmod (IntKind.u64.wrap (a1)) 64))] rfl (by (try simp only [List.map_toArray, List.map_cons, List.map_nil]); first | done | rfl | (simp only [List.length_drop, List.length_take]; rfl)) ?_; (with_reducible refine (region_At.calls kj21 _ _ x12_21 (wrap64 (Int.tmod (IntKind.u64.wrap (a1)) 64)) t241 t242 t243 t244 _ ?side1 ?side2 A52.out).mono ?_); (case side1 => repeat (first | exact (Kd.R_reads' HO_12.out).2.2 | (with_reducible refine Kd.C_alloc ?_ _) | (with_reducible refine Kd.C_drewN ?_ _) | (with_reducible refine Kd.C_drew ?_))); (case side2 => exact (Kd.R_reads' HO_12.out).2.1); rintro e w56 ⟨rfl, hb⟩; refine ⟨_, rfl, ?_⟩; have n0_ := Aside0.mk (Kd.R_below (by (with_reducible repeat (first | apply Kd.R_alloc | apply Kd.R_drewN | apply Kd.R_drew)); exact HO_5.out) hb); have n1_ := Aside0.mk (Kd.R_below (by (with_reducible repeat (first | apply Kd.R_alloc | apply Kd.R_drewN | apply Kd.R_drew)); exact HO_12.out) hb); have n2_ := Aside0.mk (blk_below (g := gb222) (o := .cells #[.int .i64 (wrap64 (Int.tmod (IntKind.u64.wrap ((rd_T48 l0 x9_1).f1.f0)) 64)), .int .i64 (wrap64 ((wrap64 ((wrap64 (Int.tmod (IntKind.u64.wrap ((rd_T48 l0 x9_1).f1.f0)) 64)) + 1)) + (wrap64 (Int.tmod (IntKind.u64.wrap ((rd_T48 l0 x9_1).f1.f1)) 20)))), .int .u8 (Int.tmod ((rd_T48 l0 x9_1).f1.f2) 8)] 49 (0, 0)) (by (with_reducible repeat (first | refine blk_drewN ?_ _ | refine blk_drew ?_ | refine blk_alloc ?_ _)); exact BK222.out) hb); have n3_ := Aside0.mk (below_step (by repeat (first | (with_reducible first | exact HB.out | apply below_alloc | apply pw_below_drewN | apply below_drew1 | refine below_set ?_ GE222.out) | exact HB.out)) hb); clear HO_5; clear HO_12; clear BK222; clear HB; have HO_5 := n0_; have HO_12 := n1_; have BK222 := n2_; have HB := n3_; clear n0_ n1_ n2_ n3_; (try clear hb); (try clear hb2); (try clear hk); (try clear hi)) | ((with_reducible refine gate_dst (N := 14) rfl ?_); refine box_event ?hg (N := 14) ?hd (cs := #[.int .i64 0, .int .i64 0, .int .u8 0]) (t := 49) ?hr ?_; (case hd => rfl); (case hg => rfl); (case hr => first | (go_simp; done) | (go_simp; rfl)); intro gb245 hg w57 hbox hb; have n0_ := Aside0.mk (Kd.R_below (Kd.R_elderB (by (with_reducible repeat (first | apply Kd.R_alloc | apply Kd.R_drewN | apply Kd.R_drew)); exact HO_5.out) gb245 (Nat.le_of_eq hg.symm)) hb); have n1_ := Aside0.mk (Kd.R_below (Kd.R_elderB (by (with_reducible repeat (first | apply Kd.R_alloc | apply Kd.R_drewN | apply Kd.R_drew)); exact HO_12.out) gb245 (Nat.le_of_eq hg.symm)) hb); have n2_ := Aside0.mk (blk_below (g := gb222) (o := .cells #[.int .i64 (wrap64 (Int.tmod (IntKind.u64.wrap ((rd_T48 l0 x9_1).f1.f0)) 64)), .int .i64 (wrap64 ((wrap64 ((wrap64 (Int.tmod (IntKind.u64.wrap ((rd_T48 l0 x9_1).f1.f0)) 64)) + 1)) + (wrap64 (Int.tmod (IntKind.u64.wrap ((rd_T48 l0 x9_1).f1.f1)) 20)))), .int .u8 (Int.tmod ((rd_T48 l0 x9_1).f1.f2) 8)] 49 (0, 0)) (by (with_reducible repeat (first | refine blk_drewN ?_ _ | refine blk_drew ?_ | refine blk_alloc ?_ _)); exact BK222.out) hb); have n3_ := Aside0.mk (below_step (by repeat (first | (with_reducible first | exact HB.out | apply below_alloc | apply pw_below_drewN | apply below_drew1 | refine below_set ?_ GE222.out) | exact HB.out)) hb); have n4_ := Aside0.mk (hbox); have n5_ := Aside0.mk ((by rw [hg]; exact (below_size (by repeat (first | (with_reducible first | exact HB.out | apply below_alloc | apply pw_below_drewN | apply below_drew1 | refine below_set ?_ GE222.out) | exact HB.out))) : w.heap.size ≤ gb245)); have n6_ := Aside0.mk ((by rw [hg]; exact (below_size (by repeat (first | (with_reducible first | exact HB.out | apply below_alloc | apply pw_below_drewN | apply below_drew1 | refine below_set ?_ GE222.out) | exact HB.out))) : w.heap.size ≤ gb245)); have n7_ := Aside0.mk ((by rw [hg]; exact Nat.ne_of_lt (blk_lt (g := gb222) (o := .cells #[.int .i64 (wrap64 (Int.tmod (IntKind.u64.wrap ((rd_T48 l0 x9_1).f1.f0)) 64)), .int .i64 (wrap64 ((wrap64 ((wrap64 (Int.tmod (IntKind.u64.wrap ((rd_T48 l0 x9_1).f1.f0)) 64)) + 1)) + (wrap64 (Int.tmod (IntKind.u64.wrap ((rd_T48 l0 x9_1).f1.f1)) 20)))), .int .u8 (Int.tmod ((rd_T48 l0 x9_1).f1.f2) 8)] 49 (0, 0)) (by (with_reducible repeat (first | refine blk_drewN ?_ _ | refine blk_drew ?_ | refine blk_alloc ?_ _)); exact BK222.out)) : gb222 ≠ gb245)); have n8_ := Aside0.mk ((by rw [hg]; exact Nat.ne_of_gt (blk_lt (g := gb222) (o := .cells #[.int .i64 (wrap64 (Int.tmod (IntKind.u64.wrap ((rd_T48 l0 x9_1).f1.f0)) 64)), .int .i64 (wrap64 ((wrap64 ((wrap64 (Int.tmod (IntKind.u64.wrap ((rd_T48 l0 x9_1).f1.f0)) 64)) + 1)) + (wrap64 (Int.tmod (IntKind.u64.wrap ((rd_T48 l0 x9_1).f1.f1)) 20)))), .int .u8 (Int.tmod ((rd_T48 l0 x9_1).f1.f2) 8)] 49 (0, 0)) (by (with_reducible repeat (first | refine blk_drewN ?_ _ | refine blk_drew ?_ | refine blk_alloc ?_ _)); exact BK222.out)) : gb245 ≠ gb222)); clear HO_5; clear HO_12; clear BK222; clear HB; have HO_5 := n0_; have HO_12 := n1_; have BK222 := n2_; have HB := n3_; have BK245 := n4_; have GW245 := n5_; have GE245 := n6_; have NB222_245 := n7_; have NB245_222 := n8_; clear n0_ n1_ n2_ n3_ n4_ n5_ n6_ n7_ n8_; clear hb hbox hg; have hnb58 := NB245_222.out; have hnc58 := NB222_245.out; have hcz59_0 : w57.cell? ⟨gb245, 0, none⟩ = some (.int .i64 0) := (blk_cell BK245.out 0).trans rfl; have hcz59_1 : w57.cell? ⟨gb245, 1, none⟩ = some (.int .i64 0) := (blk_cell BK245.out 1).trans rfl; have hcz59_2 : w57.cell? ⟨gb245, 2, none⟩ = some (.int .u8 0) := (blk_cell BK245.out 2).trans rfl; have hfz59_0 := blk_frozen BK245.out 0; have hfz59_1 := blk_frozen BK245.out 1; have hfz59_2 := blk_frozen BK245.out 2) | ((with_reducible refine gate_callee (f := 18) rfl ?_); refine goesL_ (some 143) rfl rfl Try.func18 (by kernel_rfl) rfl #[.slice Ao55 x12_21.length co55] rfl (by (try simp only [List.map_toArray, List.map_cons, List.map_nil]); first | done | rfl | (simp only [List.length_drop, List.length_take]; rfl)) ?_; (with_reducible refine (region_Check.calls kj21 _ _ x12_21 none _ ?side1 ?side2 A53.out).mono ?_); (case side1 => refine (Kd.R_reads' (e := 49) (base := w.heap.size) (ok := fun k_ => ((some k_ ≠ (u5 : Value).ownBlock ∧ k_ ≠ gb222) ∧ k_ ≠ gb245)) (n := x12_21.length) (c := co55) ?_).2.2; exact (by (with_reducible repeat (first | apply Kd.R_alloc | apply Kd.R_drewN | apply Kd.R_drew)); exact (Kd.R_mono (Kd.R_far (p := ⟨gb245, 2, none⟩) (Kd.R_far (p := ⟨gb245, 1, none⟩) (Kd.R_far (p := ⟨gb245, 0, none⟩) (Kd.R_mono HO_12.out (fun k_ hk => (⟨hk, hk.2⟩ : _ ∧ k_ ≠ gb245))) (fun _ hk => hk.2) (.int .i64 t241)) (fun _ hk => hk.2) (.int .i64 t242)) (fun _ hk => hk.2) (.int .u8 t243)) (fun _ h_ => h_.1)))); (case side2 => exact (Kd.R_reads' HO_12.out).2.1); rintro e w60 ⟨rfl, hb⟩; refine ⟨_, rfl, ?_⟩; have n0_ := Aside0.mk (Kd.R_below (by (with_reducible repeat (first | apply Kd.R_alloc | apply Kd.R_drewN | apply Kd.R_drew)); exact (Kd.R_mono (Kd.R_far (p := ⟨gb245, 2, none⟩) (Kd.R_far (p := ⟨gb245, 1, none⟩) (Kd.R_far (p := ⟨gb245, 0, none⟩) (Kd.R_mono HO_5.out (fun k_ hk => (⟨hk, hk.2⟩ : _ ∧ k_ ≠ gb245))) (fun _ hk => hk.2) (.int .i64 t241)) (fun _ hk => hk.2) (.int .i64 t242)) (fun _ hk => hk.2) (.int .u8 t243)) (fun _ h_ => h_.1))) hb); have n1_ := Aside0.mk (Kd.R_below (by (with_reducible repeat (first | apply Kd.R_alloc | apply Kd.R_drewN | apply Kd.R_drew)); exact (Kd.R_mono (Kd.R_far (p := ⟨gb245, 2, none⟩) (Kd.R_far (p := ⟨gb245, 1, none⟩) (Kd.R_far (p := ⟨gb245, 0, none⟩) (Kd.R_mono HO_12.out (fun k_ hk => (⟨hk, hk.2⟩ : _ ∧ k_ ≠ gb245))) (fun _ hk => hk.2) (.int .i64 t241)) (fun _ hk => hk.2) (.int .i64 t242)) (fun _ hk => hk.2) (.int .u8 t243)) (fun _ h_ => h_.1))) hb); have n2_ := Aside0.mk (blk_below (g := gb222) (o := .cells #[.int .i64 (wrap64 (Int.tmod (IntKind.u64.wrap ((rd_T48 l0 x9_1).f1.f0)) 64)), .int .i64 (wrap64 ((wrap64 ((wrap64 (Int.tmod (IntKind.u64.wrap ((rd_T48 l0 x9_1).f1.f0)) 64)) + 1)) + (wrap64 (Int.tmod (IntKind.u64.wrap ((rd_T48 l0 x9_1).f1.f1)) 20)))), .int .u8 (Int.tmod ((rd_T48 l0 x9_1).f1.f2) 8)] 49 (0, 0)) (by (with_reducible repeat (first | refine blk_drewN ?_ _ | refine blk_drew ?_ | refine blk_alloc ?_ _)); refine blk_far ?_ NB222_245.out _; (with_reducible repeat (first | refine blk_drewN ?_ _ | refine blk_drew ?_ | refine blk_alloc ?_ _)); refine blk_far ?_ NB222_245.out _; (with_reducible repeat (first | refine blk_drewN ?_ _ | refine blk_drew ?_ | refine blk_alloc ?_ _)); refine blk_far ?_ NB222_245.out _; (with_reducible repeat (first | refine blk_drewN ?_ _ | refine blk_drew ?_ | refine blk_alloc ?_ _)); exact BK222.out) hb); have n3_ := Aside0.mk (blk_below (g := gb245) (o := .cells #[.int .i64 t241, .int .i64 t242, .int .u8 t243] 49 (0, 0)) (by (with_reducible repeat (first | refine blk_drewN ?_ _ | refine blk_drew ?_ | refine blk_alloc ?_ _)); refine blk_put (cs := #[.int .i64 t241, .int .i64 t242, .int .u8 0]) ?_ 2 _ rfl; (with_reducible repeat (first | refine blk_drewN ?_ _ | refine blk_drew ?_ | refine blk_alloc ?_ _)); refine blk_put (cs := #[.int .i64 t241, .int .i64 0, .int .u8 0]) ?_ 1 _ rfl; (with_reducible repeat (first | refine blk_drewN ?_ _ | refine blk_drew ?_ | refine blk_alloc ?_ _)); refine blk_put (cs := #[.int .i64 0, .int .i64 0, .int .u8 0]) ?_ 0 _ rfl; (with_reducible repeat (first | refine blk_drewN ?_ _ | refine blk_drew ?_ | refine blk_alloc ?_ _)); exact BK245.out) hb); have n4_ := Aside0.mk (below_step (by repeat (first | (with_reducible first | exact HB.out | apply below_alloc | apply pw_below_drewN | apply below_drew1 | refine below_set ?_ GE222.out | refine below_set ?_ GE245.out) | exact HB.out)) hb); clear HO_5; clear HO_12; clear BK222; clear BK245; clear HB; have HO_5 := n0_; have HO_12 := n1_; have BK222 := n2_; have BK245 := n3_; have HB := n4_; clear n0_ n1_ n2_ n3_ n4_; (try clear hb); (try clear hb2); (try clear hk); (try clear hi); (try simp only [errW_none, errW_some])))
                                    go_ret
                                    exact ⟨by first | rfl | (simp [errW_none, errW_some] <;> rfl) | (simp [*, errW_none, errW_some] <;> rfl), by repeat (first | (with_reducible first | exact HB.out | apply below_alloc | apply pw_below_drewN | apply below_drew1 | refine below_set ?_ GE222.out | refine below_set ?_ GE245.out) | exact HB.out)⟩
                                · rw [if_neg c54] at H
                                  have c54b0 : (t244 != x8_21) = false := by simpa using c54
                                  (try (have c54b1 : decide (t244 = x8_21) = true := by simpa using c54))
                                  (try (have c54b2 : (t244 == x8_21) = true := by simpa using c54))
                                  clear c54
                                  by_cases c61 : x8_21 = true
                                  · subst c61
                                    have H1 : (if t243 = x7_21 then (halterlaw13_RegionKeeps.l0 kj21 l0 x12_21 (wrap64 (Int.tmod (IntKind.u64.wrap (a1)) 64)) x7_21 true (wrap64 (x9_1 + 1))) else (some false)) = some r := by rw [if_pos rfl] at H; exact H
                                    clear H
                                    have H := H1
                                    clear H1
                                    by_cases c62 : t243 = x7_21
                                    · rw [if_pos c62] at H
                                      have c62b0 : (t243 == x7_21) = true := beq_iff_eq.mpr c62
                                      have c62b1 : (t243 != x7_21) = false := bne_eq_false_iff_eq.mpr c62
                                      clear c62
                                      as_aux_lemma =>
                                        have H' := Aside0.mk H
                                        clear H
                                        obtain ⟨Ao63, co63, eo63⟩ := Kd.R_slice HO_12.out
                                        subst eo63
                                        go_wp2_with (first | ((with_reducible refine gate_callee (f := 17) rfl ?_); refine goesL_ (some 139) rfl rfl Try.func17 (by kernel_rfl) rfl #[.slice Ao63 x12_21.length co63, .int .i64 (wrap64 (Int.tmod (IntKind.u64.wrap (a1)) 64))] rfl (by (try simp only [List.map_toArray, List.map_cons, List.map_nil]); first | done | rfl | (simp only [List.length_drop, List.length_take]; rfl)) ?_; (with_reducible refine (region_At.calls kj21 _ _ x12_21 (wrap64 (Int.tmod (IntKind.u64.wrap (a1)) 64)) t241 t242 t243 t244 _ ?side1 ?side2 A52.out).mono ?_); (case side1 => repeat (first | exact (Kd.R_reads' HO_12.out).2.2 | (with_reducible refine Kd.C_alloc ?_ _) | (with_reducible refine Kd.C_drewN ?_ _) | (with_reducible refine Kd.C_drew ?_))); (case side2 => exact (Kd.R_reads' HO_12.out).2.1); rintro e w64 ⟨rfl, hb⟩; refine ⟨_, rfl, ?_⟩; have n0_ := Aside0.mk (Kd.R_below (by (with_reducible repeat (first | apply Kd.R_alloc | apply Kd.R_drewN | apply Kd.R_drew)); exact HO_5.out) hb); have n1_ := Aside0.mk (Kd.R_below (by (with_reducible repeat (first | apply Kd.R_alloc | apply Kd.R_drewN | apply Kd.R_drew)); exact HO_12.out) hb); have n2_ := Aside0.mk (blk_below (g := gb222) (o := .cells #[.int .i64 (wrap64 (Int.tmod (IntKind.u64.wrap ((rd_T48 l0 x9_1).f1.f0)) 64)), .int .i64 (wrap64 ((wrap64 ((wrap64 (Int.tmod (IntKind.u64.wrap ((rd_T48 l0 x9_1).f1.f0)) 64)) + 1)) + (wrap64 (Int.tmod (IntKind.u64.wrap ((rd_T48 l0 x9_1).f1.f1)) 20)))), .int .u8 (Int.tmod ((rd_T48 l0 x9_1).f1.f2) 8)] 49 (0, 0)) (by (with_reducible repeat (first | refine blk_drewN ?_ _ | refine blk_drew ?_ | refine blk_alloc ?_ _)); exact BK222.out) hb); have n3_ := Aside0.mk (below_step (by repeat (first | (with_reducible first | exact HB.out | apply below_alloc | apply pw_below_drewN | apply below_drew1 | refine below_set ?_ GE222.out) | exact HB.out)) hb); clear HO_5; clear HO_12; clear BK222; clear HB; have HO_5 := n0_; have HO_12 := n1_; have BK222 := n2_; have HB := n3_; clear n0_ n1_ n2_ n3_; (try clear hb); (try clear hb2); (try clear hk); (try clear hi)) | ((with_reducible refine gate_dst (N := 14) rfl ?_); refine box_event ?hg (N := 14) ?hd (cs := #[.int .i64 0, .int .i64 0, .int .u8 0]) (t := 49) ?hr ?_; (case hd => rfl); (case hg => rfl); (case hr => first | (go_simp; done) | (go_simp; rfl)); intro gb245 hg w65 hbox hb; have n0_ := Aside0.mk (Kd.R_below (Kd.R_elderB (by (with_reducible repeat (first | apply Kd.R_alloc | apply Kd.R_drewN | apply Kd.R_drew)); exact HO_5.out) gb245 (Nat.le_of_eq hg.symm)) hb); have n1_ := Aside0.mk (Kd.R_below (Kd.R_elderB (by (with_reducible repeat (first | apply Kd.R_alloc | apply Kd.R_drewN | apply Kd.R_drew)); exact HO_12.out) gb245 (Nat.le_of_eq hg.symm)) hb); have n2_ := Aside0.mk (blk_below (g := gb222) (o := .cells #[.int .i64 (wrap64 (Int.tmod (IntKind.u64.wrap ((rd_T48 l0 x9_1).f1.f0)) 64)), .int .i64 (wrap64 ((wrap64 ((wrap64 (Int.tmod (IntKind.u64.wrap ((rd_T48 l0 x9_1).f1.f0)) 64)) + 1)) + (wrap64 (Int.tmod (IntKind.u64.wrap ((rd_T48 l0 x9_1).f1.f1)) 20)))), .int .u8 (Int.tmod ((rd_T48 l0 x9_1).f1.f2) 8)] 49 (0, 0)) (by (with_reducible repeat (first | refine blk_drewN ?_ _ | refine blk_drew ?_ | refine blk_alloc ?_ _)); exact BK222.out) hb); have n3_ := Aside0.mk (below_step (by repeat (first | (with_reducible first | exact HB.out | apply below_alloc | apply pw_below_drewN | apply below_drew1 | refine below_set ?_ GE222.out) | exact HB.out)) hb); have n4_ := Aside0.mk (hbox); have n5_ := Aside0.mk ((by rw [hg]; exact (below_size (by repeat (first | (with_reducible first | exact HB.out | apply below_alloc | apply pw_below_drewN | apply below_drew1 | refine below_set ?_ GE222.out) | exact HB.out))) : w.heap.size ≤ gb245)); have n6_ := Aside0.mk ((by rw [hg]; exact (below_size (by repeat (first | (with_reducible first | exact HB.out | apply below_alloc | apply pw_below_drewN | apply below_drew1 | refine below_set ?_ GE222.out) | exact HB.out))) : w.heap.size ≤ gb245)); have n7_ := Aside0.mk ((by rw [hg]; exact Nat.ne_of_lt (blk_lt (g := gb222) (o := .cells #[.int .i64 (wrap64 (Int.tmod (IntKind.u64.wrap ((rd_T48 l0 x9_1).f1.f0)) 64)), .int .i64 (wrap64 ((wrap64 ((wrap64 (Int.tmod (IntKind.u64.wrap ((rd_T48 l0 x9_1).f1.f0)) 64)) + 1)) + (wrap64 (Int.tmod (IntKind.u64.wrap ((rd_T48 l0 x9_1).f1.f1)) 20)))), .int .u8 (Int.tmod ((rd_T48 l0 x9_1).f1.f2) 8)] 49 (0, 0)) (by (with_reducible repeat (first | refine blk_drewN ?_ _ | refine blk_drew ?_ | refine blk_alloc ?_ _)); exact BK222.out)) : gb222 ≠ gb245)); have n8_ := Aside0.mk ((by rw [hg]; exact Nat.ne_of_gt (blk_lt (g := gb222) (o := .cells #[.int .i64 (wrap64 (Int.tmod (IntKind.u64.wrap ((rd_T48 l0 x9_1).f1.f0)) 64)), .int .i64 (wrap64 ((wrap64 ((wrap64 (Int.tmod (IntKind.u64.wrap ((rd_T48 l0 x9_1).f1.f0)) 64)) + 1)) + (wrap64 (Int.tmod (IntKind.u64.wrap ((rd_T48 l0 x9_1).f1.f1)) 20)))), .int .u8 (Int.tmod ((rd_T48 l0 x9_1).f1.f2) 8)] 49 (0, 0)) (by (with_reducible repeat (first | refine blk_drewN ?_ _ | refine blk_drew ?_ | refine blk_alloc ?_ _)); exact BK222.out)) : gb245 ≠ gb222)); clear HO_5; clear HO_12; clear BK222; clear HB; have HO_5 := n0_; have HO_12 := n1_; have BK222 := n2_; have HB := n3_; have BK245 := n4_; have GW245 := n5_; have GE245 := n6_; have NB222_245 := n7_; have NB245_222 := n8_; clear n0_ n1_ n2_ n3_ n4_ n5_ n6_ n7_ n8_; clear hb hbox hg; have hnb66 := NB245_222.out; have hnc66 := NB222_245.out; have hcz67_0 : w65.cell? ⟨gb245, 0, none⟩ = some (.int .i64 0) := (blk_cell BK245.out 0).trans rfl; have hcz67_1 : w65.cell? ⟨gb245, 1, none⟩ = some (.int .i64 0) := (blk_cell BK245.out 1).trans rfl; have hcz67_2 : w65.cell? ⟨gb245, 2, none⟩ = some (.int .u8 0) := (blk_cell BK245.out 2).trans rfl; have hfz67_0 := blk_frozen BK245.out 0; have hfz67_1 := blk_frozen BK245.out 1; have hfz67_2 := blk_frozen BK245.out 2) | ((with_reducible refine gate_callee (f := 18) rfl ?_); refine goesL_ (some 143) rfl rfl Try.func18 (by kernel_rfl) rfl #[.slice Ao63 x12_21.length co63] rfl (by (try simp only [List.map_toArray, List.map_cons, List.map_nil]); first | done | rfl | (simp only [List.length_drop, List.length_take]; rfl)) ?_; (with_reducible refine (region_Check.calls kj21 _ _ x12_21 none _ ?side1 ?side2 A53.out).mono ?_); (case side1 => refine (Kd.R_reads' (e := 49) (base := w.heap.size) (ok := fun k_ => ((some k_ ≠ (u5 : Value).ownBlock ∧ k_ ≠ gb222) ∧ k_ ≠ gb245)) (n := x12_21.length) (c := co63) ?_).2.2; exact (by (with_reducible repeat (first | apply Kd.R_alloc | apply Kd.R_drewN | apply Kd.R_drew)); exact (Kd.R_mono (Kd.R_far (p := ⟨gb245, 2, none⟩) (Kd.R_far (p := ⟨gb245, 1, none⟩) (Kd.R_far (p := ⟨gb245, 0, none⟩) (Kd.R_mono HO_12.out (fun k_ hk => (⟨hk, hk.2⟩ : _ ∧ k_ ≠ gb245))) (fun _ hk => hk.2) (.int .i64 t241)) (fun _ hk => hk.2) (.int .i64 t242)) (fun _ hk => hk.2) (.int .u8 t243)) (fun _ h_ => h_.1)))); (case side2 => exact (Kd.R_reads' HO_12.out).2.1); rintro e w68 ⟨rfl, hb⟩; refine ⟨_, rfl, ?_⟩; have n0_ := Aside0.mk (Kd.R_below (by (with_reducible repeat (first | apply Kd.R_alloc | apply Kd.R_drewN | apply Kd.R_drew)); exact (Kd.R_mono (Kd.R_far (p := ⟨gb245, 2, none⟩) (Kd.R_far (p := ⟨gb245, 1, none⟩) (Kd.R_far (p := ⟨gb245, 0, none⟩) (Kd.R_mono HO_5.out (fun k_ hk => (⟨hk, hk.2⟩ : _ ∧ k_ ≠ gb245))) (fun _ hk => hk.2) (.int .i64 t241)) (fun _ hk => hk.2) (.int .i64 t242)) (fun _ hk => hk.2) (.int .u8 t243)) (fun _ h_ => h_.1))) hb); have n1_ := Aside0.mk (Kd.R_below (by (with_reducible repeat (first | apply Kd.R_alloc | apply Kd.R_drewN | apply Kd.R_drew)); exact (Kd.R_mono (Kd.R_far (p := ⟨gb245, 2, none⟩) (Kd.R_far (p := ⟨gb245, 1, none⟩) (Kd.R_far (p := ⟨gb245, 0, none⟩) (Kd.R_mono HO_12.out (fun k_ hk => (⟨hk, hk.2⟩ : _ ∧ k_ ≠ gb245))) (fun _ hk => hk.2) (.int .i64 t241)) (fun _ hk => hk.2) (.int .i64 t242)) (fun _ hk => hk.2) (.int .u8 t243)) (fun _ h_ => h_.1))) hb); have n2_ := Aside0.mk (blk_below (g := gb222) (o := .cells #[.int .i64 (wrap64 (Int.tmod (IntKind.u64.wrap ((rd_T48 l0 x9_1).f1.f0)) 64)), .int .i64 (wrap64 ((wrap64 ((wrap64 (Int.tmod (IntKind.u64.wrap ((rd_T48 l0 x9_1).f1.f0)) 64)) + 1)) + (wrap64 (Int.tmod (IntKind.u64.wrap ((rd_T48 l0 x9_1).f1.f1)) 20)))), .int .u8 (Int.tmod ((rd_T48 l0 x9_1).f1.f2) 8)] 49 (0, 0)) (by (with_reducible repeat (first | refine blk_drewN ?_ _ | refine blk_drew ?_ | refine blk_alloc ?_ _)); refine blk_far ?_ NB222_245.out _; (with_reducible repeat (first | refine blk_drewN ?_ _ | refine blk_drew ?_ | refine blk_alloc ?_ _)); refine blk_far ?_ NB222_245.out _; (with_reducible repeat (first | refine blk_drewN ?_ _ | refine blk_drew ?_ | refine blk_alloc ?_ _)); refine blk_far ?_ NB222_245.out _; (with_reducible repeat (first | refine blk_drewN ?_ _ | refine blk_drew ?_ | refine blk_alloc ?_ _)); exact BK222.out) hb); have n3_ := Aside0.mk (blk_below (g := gb245) (o := .cells #[.int .i64 t241, .int .i64 t242, .int .u8 t243] 49 (0, 0)) (by (with_reducible repeat (first | refine blk_drewN ?_ _ | refine blk_drew ?_ | refine blk_alloc ?_ _)); refine blk_put (cs := #[.int .i64 t241, .int .i64 t242, .int .u8 0]) ?_ 2 _ rfl; (with_reducible repeat (first | refine blk_drewN ?_ _ | refine blk_drew ?_ | refine blk_alloc ?_ _)); refine blk_put (cs := #[.int .i64 t241, .int .i64 0, .int .u8 0]) ?_ 1 _ rfl; (with_reducible repeat (first | refine blk_drewN ?_ _ | refine blk_drew ?_ | refine blk_alloc ?_ _)); refine blk_put (cs := #[.int .i64 0, .int .i64 0, .int .u8 0]) ?_ 0 _ rfl; (with_reducible repeat (first | refine blk_drewN ?_ _ | refine blk_drew ?_ | refine blk_alloc ?_ _)); exact BK245.out) hb); have n4_ := Aside0.mk (below_step (by repeat (first | (with_reducible first | exact HB.out | apply below_alloc | apply pw_below_drewN | apply below_drew1 | refine below_set ?_ GE222.out | refine below_set ?_ GE245.out) | exact HB.out)) hb); clear HO_5; clear HO_12; clear BK222; clear BK245; clear HB; have HO_5 := n0_; have HO_12 := n1_; have BK222 := n2_; have BK245 := n3_; have HB := n4_; clear n0_ n1_ n2_ n3_ n4_; (try clear hb); (try clear hb2); (try clear hk); (try clear hi); (try simp only [errW_none, errW_some]); have hcz69_0 : w68.cell? ⟨gb245, 0, none⟩ = some (.int .i64 t241) := (blk_cell BK245.out 0).trans rfl; have hcz69_1 : w68.cell? ⟨gb245, 1, none⟩ = some (.int .i64 t242) := (blk_cell BK245.out 1).trans rfl; have hcz69_2 : w68.cell? ⟨gb245, 2, none⟩ = some (.int .u8 t243) := (blk_cell BK245.out 2).trans rfl; have hfz69_0 := blk_frozen BK245.out 0; have hfz69_1 := blk_frozen BK245.out 1; have hfz69_2 := blk_frozen BK245.out 2))
                                        go_roundg kj21
                                        case measure => have := HK1.out; have := HJ2.out; have := HJ7.out; have := HJ21.out; omega
                                        case rel => exact ⟨(x12_21), (x7_21), (true), (wrap64 (x9_1 + 1)), (by first | rfl | (simp; done) | (simp [*]; done)), (by first | rfl | (simp; done) | (simp [*]; done)), (by first | rfl | (simp; done) | (simp [*]; done)), H', ⟨by have := HK1.out; have := HJ2.out; have := HJ7.out; have := HJ21.out; omega⟩, ⟨by (with_reducible repeat (first | apply Kd.R_alloc | apply Kd.R_drewN | apply Kd.R_drew)); exact Kd.R_mono HO_12.out (fun _ hk => trivial)⟩, ⟨by repeat (first | (with_reducible first | exact HB.out | apply below_alloc | apply pw_below_drewN | apply below_drew1 | refine below_set ?_ GE222.out | refine below_set ?_ GE245.out) | exact HB.out)⟩⟩
                                    · rw [if_neg c62] at H
                                      have c62b0 : (t243 == x7_21) = false := beq_eq_false_iff_ne.mpr c62
                                      have c62b1 : (t243 != x7_21) = true := bne_iff_ne.mpr c62
                                      as_aux_lemma =>
                                        obtain rfl := Option.some.inj H
                                        obtain ⟨Ao70, co70, eo70⟩ := Kd.R_slice HO_12.out
                                        subst eo70
                                        go_wp2_with (first | ((with_reducible refine gate_callee (f := 17) rfl ?_); refine goesL_ (some 139) rfl rfl Try.func17 (by kernel_rfl) rfl #[.slice Ao70 x12_21.length co70, .int .i64 (wrap64 (Int.tmod (IntKind.u64.wrap (a1)) 64))] rfl (by (try simp only [List.map_toArray, List.map_cons, List.map_nil]); first | done | rfl | (simp only [List.length_drop, List.length_take]; rfl)) ?_; (with_reducible refine (region_At.calls kj21 _ _ x12_21 (wrap64 (Int.tmod (IntKind.u64.wrap (a1)) 64)) t241 t242 t243 t244 _ ?side1 ?side2 A52.out).mono ?_); (case side1 => repeat (first | exact (Kd.R_reads' HO_12.out).2.2 | (with_reducible refine Kd.C_alloc ?_ _) | (with_reducible refine Kd.C_drewN ?_ _) | (with_reducible refine Kd.C_drew ?_))); (case side2 => exact (Kd.R_reads' HO_12.out).2.1); rintro e w71 ⟨rfl, hb⟩; refine ⟨_, rfl, ?_⟩; have n0_ := Aside0.mk (Kd.R_below (by (with_reducible repeat (first | apply Kd.R_alloc | apply Kd.R_drewN | apply Kd.R_drew)); exact HO_5.out) hb); have n1_ := Aside0.mk (Kd.R_below (by (with_reducible repeat (first | apply Kd.R_alloc | apply Kd.R_drewN | apply Kd.R_drew)); exact HO_12.out) hb); have n2_ := Aside0.mk (blk_below (g := gb222) (o := .cells #[.int .i64 (wrap64 (Int.tmod (IntKind.u64.wrap ((rd_T48 l0 x9_1).f1.f0)) 64)), .int .i64 (wrap64 ((wrap64 ((wrap64 (Int.tmod (IntKind.u64.wrap ((rd_T48 l0 x9_1).f1.f0)) 64)) + 1)) + (wrap64 (Int.tmod (IntKind.u64.wrap ((rd_T48 l0 x9_1).f1.f1)) 20)))), .int .u8 (Int.tmod ((rd_T48 l0 x9_1).f1.f2) 8)] 49 (0, 0)) (by (with_reducible repeat (first | refine blk_drewN ?_ _ | refine blk_drew ?_ | refine blk_alloc ?_ _)); exact BK222.out) hb); have n3_ := Aside0.mk (below_step (by repeat (first | (with_reducible first | exact HB.out | apply below_alloc | apply pw_below_drewN | apply below_drew1 | refine below_set ?_ GE222.out) | exact HB.out)) hb); clear HO_5; clear HO_12; clear BK222; clear HB; have HO_5 := n0_; have HO_12 := n1_; have BK222 := n2_; have HB := n3_; clear n0_ n1_ n2_ n3_; (try clear hb); (try clear hb2); (try clear hk); (try clear hi)) | ((with_reducible refine gate_dst (N := 14) rfl ?_); refine box_event ?hg (N := 14) ?hd (cs := #[.int .i64 0, .int .i64 0, .int .u8 0]) (t := 49) ?hr ?_; (case hd => rfl); (case hg => rfl); (case hr => first | (go_simp; done) | (go_simp; rfl)); intro gb245 hg w72 hbox hb; have n0_ := Aside0.mk (Kd.R_below (Kd.R_elderB (by (with_reducible repeat (first | apply Kd.R_alloc | apply Kd.R_drewN | apply Kd.R_drew)); exact HO_5.out) gb245 (Nat.le_of_eq hg.symm)) hb); have n1_ := Aside0.mk (Kd.R_below (Kd.R_elderB (by (with_reducible repeat (first | apply Kd.R_alloc | apply Kd.R_drewN | apply Kd.R_drew)); exact HO_12.out) gb245 (Nat.le_of_eq hg.symm)) hb); have n2_ := Aside0.mk (blk_below (g := gb222) (o := .cells #[.int .i64 (wrap64 (Int.tmod (IntKind.u64.wrap ((rd_T48 l0 x9_1).f1.f0)) 64)), .int .i64 (wrap64 ((wrap64 ((wrap64 (Int.tmod (IntKind.u64.wrap ((rd_T48 l0 x9_1).f1.f0)) 64)) + 1)) + (wrap64 (Int.tmod (IntKind.u64.wrap ((rd_T48 l0 x9_1).f1.f1)) 20)))), .int .u8 (Int.tmod ((rd_T48 l0 x9_1).f1.f2) 8)] 49 (0, 0)) (by (with_reducible repeat (first | refine blk_drewN ?_ _ | refine blk_drew ?_ | refine blk_alloc ?_ _)); exact BK222.out) hb); have n3_ := Aside0.mk (below_step (by repeat (first | (with_reducible first | exact HB.out | apply below_alloc | apply pw_below_drewN | apply below_drew1 | refine below_set ?_ GE222.out) | exact HB.out)) hb); have n4_ := Aside0.mk (hbox); have n5_ := Aside0.mk ((by rw [hg]; exact (below_size (by repeat (first | (with_reducible first | exact HB.out | apply below_alloc | apply pw_below_drewN | apply below_drew1 | refine below_set ?_ GE222.out) | exact HB.out))) : w.heap.size ≤ gb245)); have n6_ := Aside0.mk ((by rw [hg]; exact (below_size (by repeat (first | (with_reducible first | exact HB.out | apply below_alloc | apply pw_below_drewN | apply below_drew1 | refine below_set ?_ GE222.out) | exact HB.out))) : w.heap.size ≤ gb245)); have n7_ := Aside0.mk ((by rw [hg]; exact Nat.ne_of_lt (blk_lt (g := gb222) (o := .cells #[.int .i64 (wrap64 (Int.tmod (IntKind.u64.wrap ((rd_T48 l0 x9_1).f1.f0)) 64)), .int .i64 (wrap64 ((wrap64 ((wrap64 (Int.tmod (IntKind.u64.wrap ((rd_T48 l0 x9_1).f1.f0)) 64)) + 1)) + (wrap64 (Int.tmod (IntKind.u64.wrap ((rd_T48 l0 x9_1).f1.f1)) 20)))), .int .u8 (Int.tmod ((rd_T48 l0 x9_1).f1.f2) 8)] 49 (0, 0)) (by (with_reducible repeat (first | refine blk_drewN ?_ _ | refine blk_drew ?_ | refine blk_alloc ?_ _)); exact BK222.out)) : gb222 ≠ gb245)); have n8_ := Aside0.mk ((by rw [hg]; exact Nat.ne_of_gt (blk_lt (g := gb222) (o := .cells #[.int .i64 (wrap64 (Int.tmod (IntKind.u64.wrap ((rd_T48 l0 x9_1).f1.f0)) 64)), .int .i64 (wrap64 ((wrap64 ((wrap64 (Int.tmod (IntKind.u64.wrap ((rd_T48 l0 x9_1).f1.f0)) 64)) + 1)) + (wrap64 (Int.tmod (IntKind.u64.wrap ((rd_T48 l0 x9_1).f1.f1)) 20)))), .int .u8 (Int.tmod ((rd_T48 l0 x9_1).f1.f2) 8)] 49 (0, 0)) (by (with_reducible repeat (first | refine blk_drewN ?_ _ | refine blk_drew ?_ | refine blk_alloc ?_ _)); exact BK222.out)) : gb245 ≠ gb222)); clear HO_5; clear HO_12; clear BK222; clear HB; have HO_5 := n0_; have HO_12 := n1_; have BK222 := n2_; have HB := n3_; have BK245 := n4_; have GW245 := n5_; have GE245 := n6_; have NB222_245 := n7_; have NB245_222 := n8_; clear n0_ n1_ n2_ n3_ n4_ n5_ n6_ n7_ n8_; clear hb hbox hg; have hnb73 := NB245_222.out; have hnc73 := NB222_245.out; have hcz74_0 : w72.cell? ⟨gb245, 0, none⟩ = some (.int .i64 0) := (blk_cell BK245.out 0).trans rfl; have hcz74_1 : w72.cell? ⟨gb245, 1, none⟩ = some (.int .i64 0) := (blk_cell BK245.out 1).trans rfl; have hcz74_2 : w72.cell? ⟨gb245, 2, none⟩ = some (.int .u8 0) := (blk_cell BK245.out 2).trans rfl; have hfz74_0 := blk_frozen BK245.out 0; have hfz74_1 := blk_frozen BK245.out 1; have hfz74_2 := blk_frozen BK245.out 2) | ((with_reducible refine gate_callee (f := 18) rfl ?_); refine goesL_ (some 143) rfl rfl Try.func18 (by kernel_rfl) rfl #[.slice Ao70 x12_21.length co70] rfl (by (try simp only [List.map_toArray, List.map_cons, List.map_nil]); first | done | rfl | (simp only [List.length_drop, List.length_take]; rfl)) ?_; (with_reducible refine (region_Check.calls kj21 _ _ x12_21 none _ ?side1 ?side2 A53.out).mono ?_); (case side1 => refine (Kd.R_reads' (e := 49) (base := w.heap.size) (ok := fun k_ => ((some k_ ≠ (u5 : Value).ownBlock ∧ k_ ≠ gb222) ∧ k_ ≠ gb245)) (n := x12_21.length) (c := co70) ?_).2.2; exact (by (with_reducible repeat (first | apply Kd.R_alloc | apply Kd.R_drewN | apply Kd.R_drew)); exact (Kd.R_mono (Kd.R_far (p := ⟨gb245, 2, none⟩) (Kd.R_far (p := ⟨gb245, 1, none⟩) (Kd.R_far (p := ⟨gb245, 0, none⟩) (Kd.R_mono HO_12.out (fun k_ hk => (⟨hk, hk.2⟩ : _ ∧ k_ ≠ gb245))) (fun _ hk => hk.2) (.int .i64 t241)) (fun _ hk => hk.2) (.int .i64 t242)) (fun _ hk => hk.2) (.int .u8 t243)) (fun _ h_ => h_.1)))); (case side2 => exact (Kd.R_reads' HO_12.out).2.1); rintro e w75 ⟨rfl, hb⟩; refine ⟨_, rfl, ?_⟩; have n0_ := Aside0.mk (Kd.R_below (by (with_reducible repeat (first | apply Kd.R_alloc | apply Kd.R_drewN | apply Kd.R_drew)); exact (Kd.R_mono (Kd.R_far (p := ⟨gb245, 2, none⟩) (Kd.R_far (p := ⟨gb245, 1, none⟩) (Kd.R_far (p := ⟨gb245, 0, none⟩) (Kd.R_mono HO_5.out (fun k_ hk => (⟨hk, hk.2⟩ : _ ∧ k_ ≠ gb245))) (fun _ hk => hk.2) (.int .i64 t241)) (fun _ hk => hk.2) (.int .i64 t242)) (fun _ hk => hk.2) (.int .u8 t243)) (fun _ h_ => h_.1))) hb); have n1_ := Aside0.mk (Kd.R_below (by (with_reducible repeat (first | apply Kd.R_alloc | apply Kd.R_drewN | apply Kd.R_drew)); exact (Kd.R_mono (Kd.R_far (p := ⟨gb245, 2, none⟩) (Kd.R_far (p := ⟨gb245, 1, none⟩) (Kd.R_far (p := ⟨gb245, 0, none⟩) (Kd.R_mono HO_12.out (fun k_ hk => (⟨hk, hk.2⟩ : _ ∧ k_ ≠ gb245))) (fun _ hk => hk.2) (.int .i64 t241)) (fun _ hk => hk.2) (.int .i64 t242)) (fun _ hk => hk.2) (.int .u8 t243)) (fun _ h_ => h_.1))) hb); have n2_ := Aside0.mk (blk_below (g := gb222) (o := .cells #[.int .i64 (wrap64 (Int.tmod (IntKind.u64.wrap ((rd_T48 l0 x9_1).f1.f0)) 64)), .int .i64 (wrap64 ((wrap64 ((wrap64 (Int.tmod (IntKind.u64.wrap ((rd_T48 l0 x9_1).f1.f0)) 64)) + 1)) + (wrap64 (Int.tmod (IntKind.u64.wrap ((rd_T48 l0 x9_1).f1.f1)) 20)))), .int .u8 (Int.tmod ((rd_T48 l0 x9_1).f1.f2) 8)] 49 (0, 0)) (by (with_reducible repeat (first | refine blk_drewN ?_ _ | refine blk_drew ?_ | refine blk_alloc ?_ _)); refine blk_far ?_ NB222_245.out _; (with_reducible repeat (first | refine blk_drewN ?_ _ | refine blk_drew ?_ | refine blk_alloc ?_ _)); refine blk_far ?_ NB222_245.out _; (with_reducible repeat (first | refine blk_drewN ?_ _ | refine blk_drew ?_ | refine blk_alloc ?_ _)); refine blk_far ?_ NB222_245.out _; (with_reducible repeat (first | refine blk_drewN ?_ _ | refine blk_drew ?_ | refine blk_alloc ?_ _)); exact BK222.out) hb); have n3_ := Aside0.mk (blk_below (g := gb245) (o := .cells #[.int .i64 t241, .int .i64 t242, .int .u8 t243] 49 (0, 0)) (by (with_reducible repeat (first | refine blk_drewN ?_ _ | refine blk_drew ?_ | refine blk_alloc ?_ _)); refine blk_put (cs := #[.int .i64 t241, .int .i64 t242, .int .u8 0]) ?_ 2 _ rfl; (with_reducible repeat (first | refine blk_drewN ?_ _ | refine blk_drew ?_ | refine blk_alloc ?_ _)); refine blk_put (cs := #[.int .i64 t241, .int .i64 0, .int .u8 0]) ?_ 1 _ rfl; (with_reducible repeat (first | refine blk_drewN ?_ _ | refine blk_drew ?_ | refine blk_alloc ?_ _)); refine blk_put (cs := #[.int .i64 0, .int .i64 0, .int .u8 0]) ?_ 0 _ rfl; (with_reducible repeat (first | refine blk_drewN ?_ _ | refine blk_drew ?_ | refine blk_alloc ?_ _)); exact BK245.out) hb); have n4_ := Aside0.mk (below_step (by repeat (first | (with_reducible first | exact HB.out | apply below_alloc | apply pw_below_drewN | apply below_drew1 | refine below_set ?_ GE222.out | refine below_set ?_ GE245.out) | exact HB.out)) hb); clear HO_5; clear HO_12; clear BK222; clear BK245; clear HB; have HO_5 := n0_; have HO_12 := n1_; have BK222 := n2_; have BK245 := n3_; have HB := n4_; clear n0_ n1_ n2_ n3_ n4_; (try clear hb); (try clear hb2); (try clear hk); (try clear hi); (try simp only [errW_none, errW_some]); have hcz76_0 : w75.cell? ⟨gb245, 0, none⟩ = some (.int .i64 t241) := (blk_cell BK245.out 0).trans rfl; have hcz76_1 : w75.cell? ⟨gb245, 1, none⟩ = some (.int .i64 t242) := (blk_cell BK245.out 1).trans rfl; have hcz76_2 : w75.cell? ⟨gb245, 2, none⟩ = some (.int .u8 t243) := (blk_cell BK245.out 2).trans rfl; have hfz76_0 := blk_frozen BK245.out 0; have hfz76_1 := blk_frozen BK245.out 1; have hfz76_2 := blk_frozen BK245.out 2))
                                        go_ret
                                        exact ⟨by first | rfl | (simp [errW_none, errW_some] <;> rfl) | (simp [*, errW_none, errW_some] <;> rfl), by repeat (first | (with_reducible first | exact HB.out | apply below_alloc | apply pw_below_drewN | apply below_drew1 | refine below_set ?_ GE222.out | refine below_set ?_ GE245.out) | exact HB.out)⟩
                                  · replace c61 := Bool.eq_false_iff.mpr c61
                                    subst c61
                                    have H1 : (halterlaw13_RegionKeeps.l0 kj21 l0 x12_21 (wrap64 (Int.tmod (IntKind.u64.wrap (a1)) 64)) x7_21 false (wrap64 (x9_1 + 1))) = some r := by rw [if_neg (show ¬ (false = true) by decide)] at H; exact H
                                    clear H
                                    have H := H1
                                    clear H1
                                    as_aux_lemma =>
                                      have H' := Aside0.mk H
                                      clear H
                                      obtain ⟨Ao77, co77, eo77⟩ := Kd.R_slice HO_12.out
                                      subst eo77
                                      go_wp2_with (first | ((with_reducible refine gate_callee (f := 17) rfl ?_); refine goesL_ (some 139) rfl rfl Try.func17 (by kernel_rfl) rfl #[.slice Ao77 x12_21.length co77, .int .i64 (wrap64 (Int.tmod (IntKind.u64.wrap (a1)) 64))] rfl (by (try simp only [List.map_toArray, List.map_cons, List.map_nil]); first | done | rfl | (simp only [List.length_drop, List.length_take]; rfl)) ?_; (with_reducible refine (region_At.calls kj21 _ _ x12_21 (wrap64 (Int.tmod (IntKind.u64.wrap (a1)) 64)) t241 t242 t243 t244 _ ?side1 ?side2 A52.out).mono ?_); (case side1 => repeat (first | exact (Kd.R_reads' HO_12.out).2.2 | (with_reducible refine Kd.C_alloc ?_ _) | (with_reducible refine Kd.C_drewN ?_ _) | (with_reducible refine Kd.C_drew ?_))); (case side2 => exact (Kd.R_reads' HO_12.out).2.1); rintro e w78 ⟨rfl, hb⟩; refine ⟨_, rfl, ?_⟩; have n0_ := Aside0.mk (Kd.R_below (by (with_reducible repeat (first | apply Kd.R_alloc | apply Kd.R_drewN | apply Kd.R_drew)); exact HO_5.out) hb); have n1_ := Aside0.mk (Kd.R_below (by (with_reducible repeat (first | apply Kd.R_alloc | apply Kd.R_drewN | apply Kd.R_drew)); exact HO_12.out) hb); have n2_ := Aside0.mk (blk_below (g := gb222) (o := .cells #[.int .i64 (wrap64 (Int.tmod (IntKind.u64.wrap ((rd_T48 l0 x9_1).f1.f0)) 64)), .int .i64 (wrap64 ((wrap64 ((wrap64 (Int.tmod (IntKind.u64.wrap ((rd_T48 l0 x9_1).f1.f0)) 64)) + 1)) + (wrap64 (Int.tmod (IntKind.u64.wrap ((rd_T48 l0 x9_1).f1.f1)) 20)))), .int .u8 (Int.tmod ((rd_T48 l0 x9_1).f1.f2) 8)] 49 (0, 0)) (by (with_reducible repeat (first | refine blk_drewN ?_ _ | refine blk_drew ?_ | refine blk_alloc ?_ _)); exact BK222.out) hb); have n3_ := Aside0.mk (below_step (by repeat (first | (with_reducible first | exact HB.out | apply below_alloc | apply pw_below_drewN | apply below_drew1 | refine below_set ?_ GE222.out) | exact HB.out)) hb); clear HO_5; clear HO_12; clear BK222; clear HB; have HO_5 := n0_; have HO_12 := n1_; have BK222 := n2_; have HB := n3_; clear n0_ n1_ n2_ n3_; (try clear hb); (try clear hb2); (try clear hk); (try clear hi)) | ((with_reducible refine gate_dst (N := 14) rfl ?_); refine box_event ?hg (N := 14) ?hd (cs := #[.int .i64 0, .int .i64 0, .int .u8 0]) (t := 49) ?hr ?_; (case hd => rfl); (case hg => rfl); (case hr => first | (go_simp; done) | (go_simp; rfl)); intro gb245 hg w79 hbox hb; have n0_ := Aside0.mk (Kd.R_below (Kd.R_elderB (by (with_reducible repeat (first | apply Kd.R_alloc | apply Kd.R_drewN | apply Kd.R_drew)); exact HO_5.out) gb245 (Nat.le_of_eq hg.symm)) hb); have n1_ := Aside0.mk (Kd.R_below (Kd.R_elderB (by (with_reducible repeat (first | apply Kd.R_alloc | apply Kd.R_drewN | apply Kd.R_drew)); exact HO_12.out) gb245 (Nat.le_of_eq hg.symm)) hb); have n2_ := Aside0.mk (blk_below (g := gb222) (o := .cells #[.int .i64 (wrap64 (Int.tmod (IntKind.u64.wrap ((rd_T48 l0 x9_1).f1.f0)) 64)), .int .i64 (wrap64 ((wrap64 ((wrap64 (Int.tmod (IntKind.u64.wrap ((rd_T48 l0 x9_1).f1.f0)) 64)) + 1)) + (wrap64 (Int.tmod (IntKind.u64.wrap ((rd_T48 l0 x9_1).f1.f1)) 20)))), .int .u8 (Int.tmod ((rd_T48 l0 x9_1).f1.f2) 8)] 49 (0, 0)) (by (with_reducible repeat (first | refine blk_drewN ?_ _ | refine blk_drew ?_ | refine blk_alloc ?_ _)); exact BK222.out) hb); have n3_ := Aside0.mk (below_step (by repeat (first | (with_reducible first | exact HB.out | apply below_alloc | apply pw_below_drewN | apply below_drew1 | refine below_set ?_ GE222.out) | exact HB.out)) hb); have n4_ := Aside0.mk (hbox); have n5_ := Aside0.mk ((by rw [hg]; exact (below_size (by repeat (first | (with_reducible first | exact HB.out | apply below_alloc | apply pw_below_drewN | apply below_drew1 | refine below_set ?_ GE222.out) | exact HB.out))) : w.heap.size ≤ gb245)); have n6_ := Aside0.mk ((by rw [hg]; exact (below_size (by repeat (first | (with_reducible first | exact HB.out | apply below_alloc | apply pw_below_drewN | apply below_drew1 | refine below_set ?_ GE222.out) | exact HB.out))) : w.heap.size ≤ gb245)); have n7_ := Aside0.mk ((by rw [hg]; exact Nat.ne_of_lt (blk_lt (g := gb222) (o := .cells #[.int .i64 (wrap64 (Int.tmod (IntKind.u64.wrap ((rd_T48 l0 x9_1).f1.f0)) 64)), .int .i64 (wrap64 ((wrap64 ((wrap64 (Int.tmod (IntKind.u64.wrap ((rd_T48 l0 x9_1).f1.f0)) 64)) + 1)) + (wrap64 (Int.tmod (IntKind.u64.wrap ((rd_T48 l0 x9_1).f1.f1)) 20)))), .int .u8 (Int.tmod ((rd_T48 l0 x9_1).f1.f2) 8)] 49 (0, 0)) (by (with_reducible repeat (first | refine blk_drewN ?_ _ | refine blk_drew ?_ | refine blk_alloc ?_ _)); exact BK222.out)) : gb222 ≠ gb245)); have n8_ := Aside0.mk ((by rw [hg]; exact Nat.ne_of_gt (blk_lt (g := gb222) (o := .cells #[.int .i64 (wrap64 (Int.tmod (IntKind.u64.wrap ((rd_T48 l0 x9_1).f1.f0)) 64)), .int .i64 (wrap64 ((wrap64 ((wrap64 (Int.tmod (IntKind.u64.wrap ((rd_T48 l0 x9_1).f1.f0)) 64)) + 1)) + (wrap64 (Int.tmod (IntKind.u64.wrap ((rd_T48 l0 x9_1).f1.f1)) 20)))), .int .u8 (Int.tmod ((rd_T48 l0 x9_1).f1.f2) 8)] 49 (0, 0)) (by (with_reducible repeat (first | refine blk_drewN ?_ _ | refine blk_drew ?_ | refine blk_alloc ?_ _)); exact BK222.out)) : gb245 ≠ gb222)); clear HO_5; clear HO_12; clear BK222; clear HB; have HO_5 := n0_; have HO_12 := n1_; have BK222 := n2_; have HB := n3_; have BK245 := n4_; have GW245 := n5_; have GE245 := n6_; have NB222_245 := n7_; have NB245_222 := n8_; clear n0_ n1_ n2_ n3_ n4_ n5_ n6_ n7_ n8_; clear hb hbox hg; have hnb80 := NB245_222.out; have hnc80 := NB222_245.out; have hcz81_0 : w79.cell? ⟨gb245, 0, none⟩ = some (.int .i64 0) := (blk_cell BK245.out 0).trans rfl; have hcz81_1 : w79.cell? ⟨gb245, 1, none⟩ = some (.int .i64 0) := (blk_cell BK245.out 1).trans rfl; have hcz81_2 : w79.cell? ⟨gb245, 2, none⟩ = some (.int .u8 0) := (blk_cell BK245.out 2).trans rfl; have hfz81_0 := blk_frozen BK245.out 0; have hfz81_1 := blk_frozen BK245.out 1; have hfz81_2 := blk_frozen BK245.out 2) | ((with_reducible refine gate_callee (f := 18) rfl ?_); refine goesL_ (some 143) rfl rfl Try.func18 (by kernel_rfl) rfl #[.slice Ao77 x12_21.length co77] rfl (by (try simp only [List.map_toArray, List.map_cons, List.map_nil]); first | done | rfl | (simp only [List.length_drop, List.length_take]; rfl)) ?_; (with_reducible refine (region_Check.calls kj21 _ _ x12_21 none _ ?side1 ?side2 A53.out).mono ?_); (case side1 => refine (Kd.R_reads' (e := 49) (base := w.heap.size) (ok := fun k_ => ((some k_ ≠ (u5 : Value).ownBlock ∧ k_ ≠ gb222) ∧ k_ ≠ gb245)) (n := x12_21.length) (c := co77) ?_).2.2; exact (by (with_reducible repeat (first | apply Kd.R_alloc | apply Kd.R_drewN | apply Kd.R_drew)); exact (Kd.R_mono (Kd.R_far (p := ⟨gb245, 2, none⟩) (Kd.R_far (p := ⟨gb245, 1, none⟩) (Kd.R_far (p := ⟨gb245, 0, none⟩) (Kd.R_mono HO_12.out (fun k_ hk => (⟨hk, hk.2⟩ : _ ∧ k_ ≠ gb245))) (fun _ hk => hk.2) (.int .i64 t241)) (fun _ hk => hk.2) (.int .i64 t242)) (fun _ hk => hk.2) (.int .u8 t243)) (fun _ h_ => h_.1)))); (case side2 => exact (Kd.R_reads' HO_12.out).2.1); rintro e w82 ⟨rfl, hb⟩; refine ⟨_, rfl, ?_⟩; have n0_ := Aside0.mk (Kd.R_below (by (with_reducible repeat (first | apply Kd.R_alloc | apply Kd.R_drewN | apply Kd.R_drew)); exact (Kd.R_mono (Kd.R_far (p := ⟨gb245, 2, none⟩) (Kd.R_far (p := ⟨gb245, 1, none⟩) (Kd.R_far (p := ⟨gb245, 0, none⟩) (Kd.R_mono HO_5.out (fun k_ hk => (⟨hk, hk.2⟩ : _ ∧ k_ ≠ gb245))) (fun _ hk => hk.2) (.int .i64 t241)) (fun _ hk => hk.2) (.int .i64 t242)) (fun _ hk => hk.2) (.int .u8 t243)) (fun _ h_ => h_.1))) hb); have n1_ := Aside0.mk (Kd.R_below (by (with_reducible repeat (first | apply Kd.R_alloc | apply Kd.R_drewN | apply Kd.R_drew)); exact (Kd.R_mono (Kd.R_far (p := ⟨gb245, 2, none⟩) (Kd.R_far (p := ⟨gb245, 1, none⟩) (Kd.R_far (p := ⟨gb245, 0, none⟩) (Kd.R_mono HO_12.out (fun k_ hk => (⟨hk, hk.2⟩ : _ ∧ k_ ≠ gb245))) (fun _ hk => hk.2) (.int .i64 t241)) (fun _ hk => hk.2) (.int .i64 t242)) (fun _ hk => hk.2) (.int .u8 t243)) (fun _ h_ => h_.1))) hb); have n2_ := Aside0.mk (blk_below (g := gb222) (o := .cells #[.int .i64 (wrap64 (Int.tmod (IntKind.u64.wrap ((rd_T48 l0 x9_1).f1.f0)) 64)), .int .i64 (wrap64 ((wrap64 ((wrap64 (Int.tmod (IntKind.u64.wrap ((rd_T48 l0 x9_1).f1.f0)) 64)) + 1)) + (wrap64 (Int.tmod (IntKind.u64.wrap ((rd_T48 l0 x9_1).f1.f1)) 20)))), .int .u8 (Int.tmod ((rd_T48 l0 x9_1).f1.f2) 8)] 49 (0, 0)) (by (with_reducible repeat (first | refine blk_drewN ?_ _ | refine blk_drew ?_ | refine blk_alloc ?_ _)); refine blk_far ?_ NB222_245.out _; (with_reducible repeat (first | refine blk_drewN ?_ _ | refine blk_drew ?_ | refine blk_alloc ?_ _)); refine blk_far ?_ NB222_245.out _; (with_reducible repeat (first | refine blk_drewN ?_ _ | refine blk_drew ?_ | refine blk_alloc ?_ _)); refine blk_far ?_ NB222_245.out _; (with_reducible repeat (first | refine blk_drewN ?_ _ | refine blk_drew ?_ | refine blk_alloc ?_ _)); exact BK222.out) hb); have n3_ := Aside0.mk (blk_below (g := gb245) (o := .cells #[.int .i64 t241, .int .i64 t242, .int .u8 t243] 49 (0, 0)) (by (with_reducible repeat (first | refine blk_drewN ?_ _ | refine blk_drew ?_ | refine blk_alloc ?_ _)); refine blk_put (cs := #[.int .i64 t241, .int .i64 t242, .int .u8 0]) ?_ 2 _ rfl; (with_reducible repeat (first | refine blk_drewN ?_ _ | refine blk_drew ?_ | refine blk_alloc ?_ _)); refine blk_put (cs := #[.int .i64 t241, .int .i64 0, .int .u8 0]) ?_ 1 _ rfl; (with_reducible repeat (first | refine blk_drewN ?_ _ | refine blk_drew ?_ | refine blk_alloc ?_ _)); refine blk_put (cs := #[.int .i64 0, .int .i64 0, .int .u8 0]) ?_ 0 _ rfl; (with_reducible repeat (first | refine blk_drewN ?_ _ | refine blk_drew ?_ | refine blk_alloc ?_ _)); exact BK245.out) hb); have n4_ := Aside0.mk (below_step (by repeat (first | (with_reducible first | exact HB.out | apply below_alloc | apply pw_below_drewN | apply below_drew1 | refine below_set ?_ GE222.out | refine below_set ?_ GE245.out) | exact HB.out)) hb); clear HO_5; clear HO_12; clear BK222; clear BK245; clear HB; have HO_5 := n0_; have HO_12 := n1_; have BK222 := n2_; have BK245 := n3_; have HB := n4_; clear n0_ n1_ n2_ n3_ n4_; (try clear hb); (try clear hb2); (try clear hk); (try clear hi); (try simp only [errW_none, errW_some])))
                                      go_roundg kj21
                                      case measure => have := HK1.out; have := HJ2.out; have := HJ7.out; have := HJ21.out; omega
                                      case rel => exact ⟨(x12_21), (x7_21), (false), (wrap64 (x9_1 + 1)), (by first | rfl | (simp; done) | (simp [*]; done)), (by first | rfl | (simp; done) | (simp [*]; done)), (by first | rfl | (simp; done) | (simp [*]; done)), H', ⟨by have := HK1.out; have := HJ2.out; have := HJ7.out; have := HJ21.out; omega⟩, ⟨by (with_reducible repeat (first | apply Kd.R_alloc | apply Kd.R_drewN | apply Kd.R_drew)); exact Kd.R_mono HO_12.out (fun _ hk => trivial)⟩, ⟨by repeat (first | (with_reducible first | exact HB.out | apply below_alloc | apply pw_below_drewN | apply below_drew1 | refine below_set ?_ GE222.out | refine below_set ?_ GE245.out) | exact HB.out)⟩⟩
                              · have H1 : (some false) = some r := by rw [if_neg (show ¬ (some q247).isNone = true by simp)] at H; exact H
                                clear H
                                have H := H1
                                clear H1
                                try simp only [errW_none, errW_some]
                                as_aux_lemma =>
                                  obtain rfl := Option.some.inj H
                                  obtain ⟨Ao83, co83, eo83⟩ := Kd.R_slice HO_12.out
                                  subst eo83
                                  go_wp2_with (first | ((with_reducible refine gate_callee (f := 17) rfl ?_); refine goesL_ (some 139) rfl rfl Try.func17 (by kernel_rfl) rfl #[.slice Ao83 x12_21.length co83, .int .i64 (wrap64 (Int.tmod (IntKind.u64.wrap (a1)) 64))] rfl (by (try simp only [List.map_toArray, List.map_cons, List.map_nil]); first | done | rfl | (simp only [List.length_drop, List.length_take]; rfl)) ?_; (with_reducible refine (region_At.calls kj21 _ _ x12_21 (wrap64 (Int.tmod (IntKind.u64.wrap (a1)) 64)) t241 t242 t243 t244 _ ?side1 ?side2 A52.out).mono ?_); (case side1 => repeat (first | exact (Kd.R_reads' HO_12.out).2.2 | (with_reducible refine Kd.C_alloc ?_ _) | (with_reducible refine Kd.C_drewN ?_ _) | (with_reducible refine Kd.C_drew ?_))); (case side2 => exact (Kd.R_reads' HO_12.out).2.1); rintro e w84 ⟨rfl, hb⟩; refine ⟨_, rfl, ?_⟩; have n0_ := Aside0.mk (Kd.R_below (by (with_reducible repeat (first | apply Kd.R_alloc | apply Kd.R_drewN | apply Kd.R_drew)); exact HO_5.out) hb); have n1_ := Aside0.mk (Kd.R_below (by (with_reducible repeat (first | apply Kd.R_alloc | apply Kd.R_drewN | apply Kd.R_drew)); exact HO_12.out) hb); have n2_ := Aside0.mk (blk_below (g := gb222) (o := .cells #[.int .i64 (wrap64 (Int.tmod (IntKind.u64.wrap ((rd_T48 l0 x9_1).f1.f0)) 64)), .int .i64 (wrap64 ((wrap64 ((wrap64 (Int.tmod (IntKind.u64.wrap ((rd_T48 l0 x9_1).f1.f0)) 64)) + 1)) + (wrap64 (Int.tmod (IntKind.u64.wrap ((rd_T48 l0 x9_1).f1.f1)) 20)))), .int .u8 (Int.tmod ((rd_T48 l0 x9_1).f1.f2) 8)] 49 (0, 0)) (by (with_reducible repeat (first | refine blk_drewN ?_ _ | refine blk_drew ?_ | refine blk_alloc ?_ _)); exact BK222.out) hb); have n3_ := Aside0.mk (below_step (by repeat (first | (with_reducible first | exact HB.out | apply below_alloc | apply pw_below_drewN | apply below_drew1 | refine below_set ?_ GE222.out) | exact HB.out)) hb); clear HO_5; clear HO_12; clear BK222; clear HB; have HO_5 := n0_; have HO_12 := n1_; have BK222 := n2_; have HB := n3_; clear n0_ n1_ n2_ n3_; (try clear hb); (try clear hb2); (try clear hk); (try clear hi)) | ((with_reducible refine gate_dst (N := 14) rfl ?_); refine box_event ?hg (N := 14) ?hd (cs := #[.int .i64 0, .int .i64 0, .int .u8 0]) (t := 49) ?hr ?_; (case hd => rfl); (case hg => rfl); (case hr => first | (go_simp; done) | (go_simp; rfl)); intro gb245 hg w85 hbox hb; have n0_ := Aside0.mk (Kd.R_below (Kd.R_elderB (by (with_reducible repeat (first | apply Kd.R_alloc | apply Kd.R_drewN | apply Kd.R_drew)); exact HO_5.out) gb245 (Nat.le_of_eq hg.symm)) hb); have n1_ := Aside0.mk (Kd.R_below (Kd.R_elderB (by (with_reducible repeat (first | apply Kd.R_alloc | apply Kd.R_drewN | apply Kd.R_drew)); exact HO_12.out) gb245 (Nat.le_of_eq hg.symm)) hb); have n2_ := Aside0.mk (blk_below (g := gb222) (o := .cells #[.int .i64 (wrap64 (Int.tmod (IntKind.u64.wrap ((rd_T48 l0 x9_1).f1.f0)) 64)), .int .i64 (wrap64 ((wrap64 ((wrap64 (Int.tmod (IntKind.u64.wrap ((rd_T48 l0 x9_1).f1.f0)) 64)) + 1)) + (wrap64 (Int.tmod (IntKind.u64.wrap ((rd_T48 l0 x9_1).f1.f1)) 20)))), .int .u8 (Int.tmod ((rd_T48 l0 x9_1).f1.f2) 8)] 49 (0, 0)) (by (with_reducible repeat (first | refine blk_drewN ?_ _ | refine blk_drew ?_ | refine blk_alloc ?_ _)); exact BK222.out) hb); have n3_ := Aside0.mk (below_step (by repeat (first | (with_reducible first | exact HB.out | apply below_alloc | apply pw_below_drewN | apply below_drew1 | refine below_set ?_ GE222.out) | exact HB.out)) hb); have n4_ := Aside0.mk (hbox); have n5_ := Aside0.mk ((by rw [hg]; exact (below_size (by repeat (first | (with_reducible first | exact HB.out | apply below_alloc | apply pw_below_drewN | apply below_drew1 | refine below_set ?_ GE222.out) | exact HB.out))) : w.heap.size ≤ gb245)); have n6_ := Aside0.mk ((by rw [hg]; exact (below_size (by repeat (first | (with_reducible first | exact HB.out | apply below_alloc | apply pw_below_drewN | apply below_drew1 | refine below_set ?_ GE222.out) | exact HB.out))) : w.heap.size ≤ gb245)); have n7_ := Aside0.mk ((by rw [hg]; exact Nat.ne_of_lt (blk_lt (g := gb222) (o := .cells #[.int .i64 (wrap64 (Int.tmod (IntKind.u64.wrap ((rd_T48 l0 x9_1).f1.f0)) 64)), .int .i64 (wrap64 ((wrap64 ((wrap64 (Int.tmod (IntKind.u64.wrap ((rd_T48 l0 x9_1).f1.f0)) 64)) + 1)) + (wrap64 (Int.tmod (IntKind.u64.wrap ((rd_T48 l0 x9_1).f1.f1)) 20)))), .int .u8 (Int.tmod ((rd_T48 l0 x9_1).f1.f2) 8)] 49 (0, 0)) (by (with_reducible repeat (first | refine blk_drewN ?_ _ | refine blk_drew ?_ | refine blk_alloc ?_ _)); exact BK222.out)) : gb222 ≠ gb245)); have n8_ := Aside0.mk ((by rw [hg]; exact Nat.ne_of_gt (blk_lt (g := gb222) (o := .cells #[.int .i64 (wrap64 (Int.tmod (IntKind.u64.wrap ((rd_T48 l0 x9_1).f1.f0)) 64)), .int .i64 (wrap64 ((wrap64 ((wrap64 (Int.tmod (IntKind.u64.wrap ((rd_T48 l0 x9_1).f1.f0)) 64)) + 1)) + (wrap64 (Int.tmod (IntKind.u64.wrap ((rd_T48 l0 x9_1).f1.f1)) 20)))), .int .u8 (Int.tmod ((rd_T48 l0 x9_1).f1.f2) 8)] 49 (0, 0)) (by (with_reducible repeat (first | refine blk_drewN ?_ _ | refine blk_drew ?_ | refine blk_alloc ?_ _)); exact BK222.out)) : gb245 ≠ gb222)); clear HO_5; clear HO_12; clear BK222; clear HB; have HO_5 := n0_; have HO_12 := n1_; have BK222 := n2_; have HB := n3_; have BK245 := n4_; have GW245 := n5_; have GE245 := n6_; have NB222_245 := n7_; have NB245_222 := n8_; clear n0_ n1_ n2_ n3_ n4_ n5_ n6_ n7_ n8_; clear hb hbox hg; have hnb86 := NB245_222.out; have hnc86 := NB222_245.out; have hcz87_0 : w85.cell? ⟨gb245, 0, none⟩ = some (.int .i64 0) := (blk_cell BK245.out 0).trans rfl; have hcz87_1 : w85.cell? ⟨gb245, 1, none⟩ = some (.int .i64 0) := (blk_cell BK245.out 1).trans rfl; have hcz87_2 : w85.cell? ⟨gb245, 2, none⟩ = some (.int .u8 0) := (blk_cell BK245.out 2).trans rfl; have hfz87_0 := blk_frozen BK245.out 0; have hfz87_1 := blk_frozen BK245.out 1; have hfz87_2 := blk_frozen BK245.out 2) | ((with_reducible refine gate_callee (f := 18) rfl ?_); refine goesL_ (some 143) rfl rfl Try.func18 (by kernel_rfl) rfl #[.slice Ao83 x12_21.length co83] rfl (by (try simp only [List.map_toArray, List.map_cons, List.map_nil]); first | done | rfl | (simp only [List.length_drop, List.length_take]; rfl)) ?_; (with_reducible refine (region_Check.calls kj21 _ _ x12_21 (some q247) _ ?side1 ?side2 A53.out).mono ?_); (case side1 => refine (Kd.R_reads' (e := 49) (base := w.heap.size) (ok := fun k_ => ((some k_ ≠ (u5 : Value).ownBlock ∧ k_ ≠ gb222) ∧ k_ ≠ gb245)) (n := x12_21.length) (c := co83) ?_).2.2; exact (by (with_reducible repeat (first | apply Kd.R_alloc | apply Kd.R_drewN | apply Kd.R_drew)); exact (Kd.R_mono (Kd.R_far (p := ⟨gb245, 2, none⟩) (Kd.R_far (p := ⟨gb245, 1, none⟩) (Kd.R_far (p := ⟨gb245, 0, none⟩) (Kd.R_mono HO_12.out (fun k_ hk => (⟨hk, hk.2⟩ : _ ∧ k_ ≠ gb245))) (fun _ hk => hk.2) (.int .i64 t241)) (fun _ hk => hk.2) (.int .i64 t242)) (fun _ hk => hk.2) (.int .u8 t243)) (fun _ h_ => h_.1)))); (case side2 => exact (Kd.R_reads' HO_12.out).2.1); rintro e w88 ⟨rfl, hb⟩; refine ⟨_, rfl, ?_⟩; have n0_ := Aside0.mk (Kd.R_below (by (with_reducible repeat (first | apply Kd.R_alloc | apply Kd.R_drewN | apply Kd.R_drew)); exact (Kd.R_mono (Kd.R_far (p := ⟨gb245, 2, none⟩) (Kd.R_far (p := ⟨gb245, 1, none⟩) (Kd.R_far (p := ⟨gb245, 0, none⟩) (Kd.R_mono HO_5.out (fun k_ hk => (⟨hk, hk.2⟩ : _ ∧ k_ ≠ gb245))) (fun _ hk => hk.2) (.int .i64 t241)) (fun _ hk => hk.2) (.int .i64 t242)) (fun _ hk => hk.2) (.int .u8 t243)) (fun _ h_ => h_.1))) hb); have n1_ := Aside0.mk (Kd.R_below (by (with_reducible repeat (first | apply Kd.R_alloc | apply Kd.R_drewN | apply Kd.R_drew)); exact (Kd.R_mono (Kd.R_far (p := ⟨gb245, 2, none⟩) (Kd.R_far (p := ⟨gb245, 1, none⟩) (Kd.R_far (p := ⟨gb245, 0, none⟩) (Kd.R_mono HO_12.out (fun k_ hk => (⟨hk, hk.2⟩ : _ ∧ k_ ≠ gb245))) (fun _ hk => hk.2) (.int .i64 t241)) (fun _ hk => hk.2) (.int .i64 t242)) (fun _ hk => hk.2) (.int .u8 t243)) (fun _ h_ => h_.1))) hb); have n2_ := Aside0.mk (blk_below (g := gb222) (o := .cells #[.int .i64 (wrap64 (Int.tmod (IntKind.u64.wrap ((rd_T48 l0 x9_1).f1.f0)) 64)), .int .i64 (wrap64 ((wrap64 ((wrap64 (Int.tmod (IntKind.u64.wrap ((rd_T48 l0 x9_1).f1.f0)) 64)) + 1)) + (wrap64 (Int.tmod (IntKind.u64.wrap ((rd_T48 l0 x9_1).f1.f1)) 20)))), .int .u8 (Int.tmod ((rd_T48 l0 x9_1).f1.f2) 8)] 49 (0, 0)) (by (with_reducible repeat (first | refine blk_drewN ?_ _ | refine blk_drew ?_ | refine blk_alloc ?_ _)); refine blk_far ?_ NB222_245.out _; (with_reducible repeat (first | refine blk_drewN ?_ _ | refine blk_drew ?_ | refine blk_alloc ?_ _)); refine blk_far ?_ NB222_245.out _; (with_reducible repeat (first | refine blk_drewN ?_ _ | refine blk_drew ?_ | refine blk_alloc ?_ _)); refine blk_far ?_ NB222_245.out _; (with_reducible repeat (first | refine blk_drewN ?_ _ | refine blk_drew ?_ | refine blk_alloc ?_ _)); exact BK222.out) hb); have n3_ := Aside0.mk (blk_below (g := gb245) (o := .cells #[.int .i64 t241, .int .i64 t242, .int .u8 t243] 49 (0, 0)) (by (with_reducible repeat (first | refine blk_drewN ?_ _ | refine blk_drew ?_ | refine blk_alloc ?_ _)); refine blk_put (cs := #[.int .i64 t241, .int .i64 t242, .int .u8 0]) ?_ 2 _ rfl; (with_reducible repeat (first | refine blk_drewN ?_ _ | refine blk_drew ?_ | refine blk_alloc ?_ _)); refine blk_put (cs := #[.int .i64 t241, .int .i64 0, .int .u8 0]) ?_ 1 _ rfl; (with_reducible repeat (first | refine blk_drewN ?_ _ | refine blk_drew ?_ | refine blk_alloc ?_ _)); refine blk_put (cs := #[.int .i64 0, .int .i64 0, .int .u8 0]) ?_ 0 _ rfl; (with_reducible repeat (first | refine blk_drewN ?_ _ | refine blk_drew ?_ | refine blk_alloc ?_ _)); exact BK245.out) hb); have n4_ := Aside0.mk (below_step (by repeat (first | (with_reducible first | exact HB.out | apply below_alloc | apply pw_below_drewN | apply below_drew1 | refine below_set ?_ GE222.out | refine below_set ?_ GE245.out) | exact HB.out)) hb); clear HO_5; clear HO_12; clear BK222; clear BK245; clear HB; have HO_5 := n0_; have HO_12 := n1_; have BK222 := n2_; have BK245 := n3_; have HB := n4_; clear n0_ n1_ n2_ n3_ n4_; (try clear hb); (try clear hb2); (try clear hk); (try clear hi); (try simp only [errW_none, errW_some])))
                                  go_ret
                                  exact ⟨by first | rfl | (simp [errW_none, errW_some] <;> rfl) | (simp [*, errW_none, errW_some] <;> rfl), by repeat (first | (with_reducible first | exact HB.out | apply below_alloc | apply pw_below_drewN | apply below_drew1 | refine below_set ?_ GE222.out | refine below_set ?_ GE245.out) | exact HB.out)⟩
                            · have H1 : ((region_At.f kj21 x5_1 (wrap64 (Int.tmod (IntKind.u64.wrap (a1)) 64))).bind fun bt248 => ((region_Check.f kj21 x5_1).bind fun t253 => (if t253.isNone = true then (if (bt248.2.2.2 != x8_21) = true then (some false) else (if x8_21 = true then (if bt248.2.2.1 = x7_21 then (halterlaw13_RegionKeeps.l0 kj21 l0 x5_1 (wrap64 (Int.tmod (IntKind.u64.wrap (a1)) 64)) x7_21 x8_21 (wrap64 (x9_1 + 1))) else (some false)) else (halterlaw13_RegionKeeps.l0 kj21 l0 x5_1 (wrap64 (Int.tmod (IntKind.u64.wrap (a1)) 64)) x7_21 x8_21 (wrap64 (x9_1 + 1))))) else (some false)))) = some r := by rw [if_neg (show ¬ (some q240).isNone = true by simp)] at H; exact H
                              clear H
                              have H := H1
                              clear H1
                              try simp only [errW_none, errW_some]
                              replace H := Option.bind_eq_some_iff.mp H
                              obtain ⟨⟨t248, t249, t250, t251⟩, A890, H⟩ := H
                              replace H : ((region_Check.f kj21 x5_1).bind fun t253 => (if t253.isNone = true then (if (t251 != x8_21) = true then (some false) else (if x8_21 = true then (if t250 = x7_21 then (halterlaw13_RegionKeeps.l0 kj21 l0 x5_1 (wrap64 (Int.tmod (IntKind.u64.wrap (a1)) 64)) x7_21 x8_21 (wrap64 (x9_1 + 1))) else (some false)) else (halterlaw13_RegionKeeps.l0 kj21 l0 x5_1 (wrap64 (Int.tmod (IntKind.u64.wrap (a1)) 64)) x7_21 x8_21 (wrap64 (x9_1 + 1))))) else (some false))) = some r := H
                              have A89 := Aside0.mk A890
                              clear A890
                              replace H := Option.bind_eq_some_iff.mp H
                              obtain ⟨t253, A900, H⟩ := H
                              replace H : (if t253.isNone = true then (if (t251 != x8_21) = true then (some false) else (if x8_21 = true then (if t250 = x7_21 then (halterlaw13_RegionKeeps.l0 kj21 l0 x5_1 (wrap64 (Int.tmod (IntKind.u64.wrap (a1)) 64)) x7_21 x8_21 (wrap64 (x9_1 + 1))) else (some false)) else (halterlaw13_RegionKeeps.l0 kj21 l0 x5_1 (wrap64 (Int.tmod (IntKind.u64.wrap (a1)) 64)) x7_21 x8_21 (wrap64 (x9_1 + 1))))) else (some false)) = some r := H
                              have A90 := Aside0.mk A900
                              clear A900
                              rcases t253 with _ | q254
                              · have H1 : (if (t251 != x8_21) = true then (some false) else (if x8_21 = true then (if t250 = x7_21 then (halterlaw13_RegionKeeps.l0 kj21 l0 x5_1 (wrap64 (Int.tmod (IntKind.u64.wrap (a1)) 64)) x7_21 x8_21 (wrap64 (x9_1 + 1))) else (some false)) else (halterlaw13_RegionKeeps.l0 kj21 l0 x5_1 (wrap64 (Int.tmod (IntKind.u64.wrap (a1)) 64)) x7_21 x8_21 (wrap64 (x9_1 + 1))))) = some r := by rw [if_pos (show (none : Option Int).isNone = true by rfl)] at H; exact H
                                clear H
                                have H := H1
                                clear H1
                                try simp only [errW_none, errW_some]
                                by_cases c91 : (t251 != x8_21) = true
                                · rw [if_pos c91] at H
                                  have c91b0 : (t251 != x8_21) = true := c91
                                  (try (have c91b1 : decide (t251 = x8_21) = false := by simpa using c91))
                                  (try (have c91b2 : (t251 == x8_21) = false := by simpa using c91))
                                  (try (have c91b3 : ¬ (t251 = x8_21) := by simpa using c91))
                                  clear c91
                                  as_aux_lemma =>
                                    obtain rfl := Option.some.inj H
                                    obtain ⟨Ao92, co92, eo92⟩ := Kd.R_slice HO_5.out
                                    subst eo92
                                    go_wp2_with (first | ((with_reducible refine gate_callee (f := 17) rfl ?_); refine goesL_ (some 139) rfl rfl Try.func17 (by kernel_rfl) rfl #[.slice Ao92 x5_1.length co92, .int .i64 (wrap64 (Int.tmod (IntKind.u64.wrap (a1)) 64))] rfl (by (try simp only [List.map_toArray, List.map_cons, List.map_nil]); first | done | rfl | (simp only [List.length_drop, List.length_take]; rfl)) ?_; (with_reducible refine (region_At.calls kj21 _ _ x5_1 (wrap64 (Int.tmod (IntKind.u64.wrap (a1)) 64)) t248 t249 t250 t251 _ ?side1 ?side2 A89.out).mono ?_); (case side1 => repeat (first | exact (Kd.R_reads' HO_5.out).2.2 | (with_reducible refine Kd.C_alloc ?_ _) | (with_reducible refine Kd.C_drewN ?_ _) | (with_reducible refine Kd.C_drew ?_))); (case side2 => exact (Kd.R_reads' HO_5.out).2.1); rintro e w93 ⟨rfl, hb⟩; refine ⟨_, rfl, ?_⟩; have n0_ := Aside0.mk (Kd.R_below (by (with_reducible repeat (first | apply Kd.R_alloc | apply Kd.R_drewN | apply Kd.R_drew)); exact HO_5.out) hb); have n1_ := Aside0.mk (Kd.R_below (by (with_reducible repeat (first | apply Kd.R_alloc | apply Kd.R_drewN | apply Kd.R_drew)); exact HO_12.out) hb); have n2_ := Aside0.mk (blk_below (g := gb222) (o := .cells #[.int .i64 (wrap64 (Int.tmod (IntKind.u64.wrap ((rd_T48 l0 x9_1).f1.f0)) 64)), .int .i64 (wrap64 ((wrap64 ((wrap64 (Int.tmod (IntKind.u64.wrap ((rd_T48 l0 x9_1).f1.f0)) 64)) + 1)) + (wrap64 (Int.tmod (IntKind.u64.wrap ((rd_T48 l0 x9_1).f1.f1)) 20)))), .int .u8 (Int.tmod ((rd_T48 l0 x9_1).f1.f2) 8)] 49 (0, 0)) (by (with_reducible repeat (first | refine blk_drewN ?_ _ | refine blk_drew ?_ | refine blk_alloc ?_ _)); exact BK222.out) hb); have n3_ := Aside0.mk (below_step (by repeat (first | (with_reducible first | exact HB.out | apply below_alloc | apply pw_below_drewN | apply below_drew1 | refine below_set ?_ GE222.out) | exact HB.out)) hb); clear HO_5; clear HO_12; clear BK222; clear HB; have HO_5 := n0_; have HO_12 := n1_; have BK222 := n2_; have HB := n3_; clear n0_ n1_ n2_ n3_; (try clear hb); (try clear hb2); (try clear hk); (try clear hi)) | ((with_reducible refine gate_dst (N := 14) rfl ?_); refine box_event ?hg (N := 14) ?hd (cs := #[.int .i64 0, .int .i64 0, .int .u8 0]) (t := 49) ?hr ?_; (case hd => rfl); (case hg => rfl); (case hr => first | (go_simp; done) | (go_simp; rfl)); intro gb252 hg w94 hbox hb; have n0_ := Aside0.mk (Kd.R_below (Kd.R_elderB (by (with_reducible repeat (first | apply Kd.R_alloc | apply Kd.R_drewN | apply Kd.R_drew)); exact HO_5.out) gb252 (Nat.le_of_eq hg.symm)) hb); have n1_ := Aside0.mk (Kd.R_below (Kd.R_elderB (by (with_reducible repeat (first | apply Kd.R_alloc | apply Kd.R_drewN | apply Kd.R_drew)); exact HO_12.out) gb252 (Nat.le_of_eq hg.symm)) hb); have n2_ := Aside0.mk (blk_below (g := gb222) (o := .cells #[.int .i64 (wrap64 (Int.tmod (IntKind.u64.wrap ((rd_T48 l0 x9_1).f1.f0)) 64)), .int .i64 (wrap64 ((wrap64 ((wrap64 (Int.tmod (IntKind.u64.wrap ((rd_T48 l0 x9_1).f1.f0)) 64)) + 1)) + (wrap64 (Int.tmod (IntKind.u64.wrap ((rd_T48 l0 x9_1).f1.f1)) 20)))), .int .u8 (Int.tmod ((rd_T48 l0 x9_1).f1.f2) 8)] 49 (0, 0)) (by (with_reducible repeat (first | refine blk_drewN ?_ _ | refine blk_drew ?_ | refine blk_alloc ?_ _)); exact BK222.out) hb); have n3_ := Aside0.mk (below_step (by repeat (first | (with_reducible first | exact HB.out | apply below_alloc | apply pw_below_drewN | apply below_drew1 | refine below_set ?_ GE222.out) | exact HB.out)) hb); have n4_ := Aside0.mk (hbox); have n5_ := Aside0.mk ((by rw [hg]; exact (below_size (by repeat (first | (with_reducible first | exact HB.out | apply below_alloc | apply pw_below_drewN | apply below_drew1 | refine below_set ?_ GE222.out) | exact HB.out))) : w.heap.size ≤ gb252)); have n6_ := Aside0.mk ((by rw [hg]; exact (below_size (by repeat (first | (with_reducible first | exact HB.out | apply below_alloc | apply pw_below_drewN | apply below_drew1 | refine below_set ?_ GE222.out) | exact HB.out))) : w.heap.size ≤ gb252)); have n7_ := Aside0.mk ((by rw [hg]; exact Nat.ne_of_lt (blk_lt (g := gb222) (o := .cells #[.int .i64 (wrap64 (Int.tmod (IntKind.u64.wrap ((rd_T48 l0 x9_1).f1.f0)) 64)), .int .i64 (wrap64 ((wrap64 ((wrap64 (Int.tmod (IntKind.u64.wrap ((rd_T48 l0 x9_1).f1.f0)) 64)) + 1)) + (wrap64 (Int.tmod (IntKind.u64.wrap ((rd_T48 l0 x9_1).f1.f1)) 20)))), .int .u8 (Int.tmod ((rd_T48 l0 x9_1).f1.f2) 8)] 49 (0, 0)) (by (with_reducible repeat (first | refine blk_drewN ?_ _ | refine blk_drew ?_ | refine blk_alloc ?_ _)); exact BK222.out)) : gb222 ≠ gb252)); have n8_ := Aside0.mk ((by rw [hg]; exact Nat.ne_of_gt (blk_lt (g := gb222) (o := .cells #[.int .i64 (wrap64 (Int.tmod (IntKind.u64.wrap ((rd_T48 l0 x9_1).f1.f0)) 64)), .int .i64 (wrap64 ((wrap64 ((wrap64 (Int.tmod (IntKind.u64.wrap ((rd_T48 l0 x9_1).f1.f0)) 64)) + 1)) + (wrap64 (Int.tmod (IntKind.u64.wrap ((rd_T48 l0 x9_1).f1.f1)) 20)))), .int .u8 (Int.tmod ((rd_T48 l0 x9_1).f1.f2) 8)] 49 (0, 0)) (by (with_reducible repeat (first | refine blk_drewN ?_ _ | refine blk_drew ?_ | refine blk_alloc ?_ _)); exact BK222.out)) : gb252 ≠ gb222)); clear HO_5; clear HO_12; clear BK222; clear HB; have HO_5 := n0_; have HO_12 := n1_; have BK222 := n2_; have HB := n3_; have BK252 := n4_; have GW252 := n5_; have GE252 := n6_; have NB222_252 := n7_; have NB252_222 := n8_; clear n0_ n1_ n2_ n3_ n4_ n5_ n6_ n7_ n8_; clear hb hbox hg; have hnb95 := NB252_222.out; have hnc95 := NB222_252.out; have hcz96_0 : w94.cell? ⟨gb252, 0, none⟩ = some (.int .i64 0) := (blk_cell BK252.out 0).trans rfl; have hcz96_1 : w94.cell? ⟨gb252, 1, none⟩ = some (.int .i64 0) := (blk_cell BK252.out 1).trans rfl; have hcz96_2 : w94.cell? ⟨gb252, 2, none⟩ = some (.int .u8 0) := (blk_cell BK252.out 2).trans rfl; have hfz96_0 := blk_frozen BK252.out 0; have hfz96_1 := blk_frozen BK252.out 1; have hfz96_2 := blk_frozen BK252.out 2) | ((with_reducible refine gate_callee (f := 18) rfl ?_); refine goesL_ (some 143) rfl rfl Try.func18 (by kernel_rfl) rfl #[.slice Ao92 x5_1.length co92] rfl (by (try simp only [List.map_toArray, List.map_cons, List.map_nil]); first | done | rfl | (simp only [List.length_drop, List.length_take]; rfl)) ?_; (with_reducible refine (region_Check.calls kj21 _ _ x5_1 none _ ?side1 ?side2 A90.out).mono ?_); (case side1 => refine (Kd.R_reads' (e := 49) (base := w.heap.size) (ok := fun k_ => ((some k_ ≠ (u12 : Value).ownBlock ∧ k_ ≠ gb222) ∧ k_ ≠ gb252)) (n := x5_1.length) (c := co92) ?_).2.2; exact (by (with_reducible repeat (first | apply Kd.R_alloc | apply Kd.R_drewN | apply Kd.R_drew)); exact (Kd.R_mono (Kd.R_far (p := ⟨gb252, 2, none⟩) (Kd.R_far (p := ⟨gb252, 1, none⟩) (Kd.R_far (p := ⟨gb252, 0, none⟩) (Kd.R_mono HO_5.out (fun k_ hk => (⟨hk, hk.2⟩ : _ ∧ k_ ≠ gb252))) (fun _ hk => hk.2) (.int .i64 t248)) (fun _ hk => hk.2) (.int .i64 t249)) (fun _ hk => hk.2) (.int .u8 t250)) (fun _ h_ => h_.1)))); (case side2 => exact (Kd.R_reads' HO_5.out).2.1); rintro e w97 ⟨rfl, hb⟩; refine ⟨_, rfl, ?_⟩; have n0_ := Aside0.mk (Kd.R_below (by (with_reducible repeat (first | apply Kd.R_alloc | apply Kd.R_drewN | apply Kd.R_drew)); exact (Kd.R_mono (Kd.R_far (p := ⟨gb252, 2, none⟩) (Kd.R_far (p := ⟨gb252, 1, none⟩) (Kd.R_far (p := ⟨gb252, 0, none⟩) (Kd.R_mono HO_5.out (fun k_ hk => (⟨hk, hk.2⟩ : _ ∧ k_ ≠ gb252))) (fun _ hk => hk.2) (.int .i64 t248)) (fun _ hk => hk.2) (.int .i64 t249)) (fun _ hk => hk.2) (.int .u8 t250)) (fun _ h_ => h_.1))) hb); have n1_ := Aside0.mk (Kd.R_below (by (with_reducible repeat (first | apply Kd.R_alloc | apply Kd.R_drewN | apply Kd.R_drew)); exact (Kd.R_mono (Kd.R_far (p := ⟨gb252, 2, none⟩) (Kd.R_far (p := ⟨gb252, 1, none⟩) (Kd.R_far (p := ⟨gb252, 0, none⟩) (Kd.R_mono HO_12.out (fun k_ hk => (⟨hk, hk.2⟩ : _ ∧ k_ ≠ gb252))) (fun _ hk => hk.2) (.int .i64 t248)) (fun _ hk => hk.2) (.int .i64 t249)) (fun _ hk => hk.2) (.int .u8 t250)) (fun _ h_ => h_.1))) hb); have n2_ := Aside0.mk (blk_below (g := gb222) (o := .cells #[.int .i64 (wrap64 (Int.tmod (IntKind.u64.wrap ((rd_T48 l0 x9_1).f1.f0)) 64)), .int .i64 (wrap64 ((wrap64 ((wrap64 (Int.tmod (IntKind.u64.wrap ((rd_T48 l0 x9_1).f1.f0)) 64)) + 1)) + (wrap64 (Int.tmod (IntKind.u64.wrap ((rd_T48 l0 x9_1).f1.f1)) 20)))), .int .u8 (Int.tmod ((rd_T48 l0 x9_1).f1.f2) 8)] 49 (0, 0)) (by (with_reducible repeat (first | refine blk_drewN ?_ _ | refine blk_drew ?_ | refine blk_alloc ?_ _)); refine blk_far ?_ NB222_252.out _; (with_reducible repeat (first | refine blk_drewN ?_ _ | refine blk_drew ?_ | refine blk_alloc ?_ _)); refine blk_far ?_ NB222_252.out _; (with_reducible repeat (first | refine blk_drewN ?_ _ | refine blk_drew ?_ | refine blk_alloc ?_ _)); refine blk_far ?_ NB222_252.out _; (with_reducible repeat (first | refine blk_drewN ?_ _ | refine blk_drew ?_ | refine blk_alloc ?_ _)); exact BK222.out) hb); have n3_ := Aside0.mk (blk_below (g := gb252) (o := .cells #[.int .i64 t248, .int .i64 t249, .int .u8 t250] 49 (0, 0)) (by (with_reducible repeat (first | refine blk_drewN ?_ _ | refine blk_drew ?_ | refine blk_alloc ?_ _)); refine blk_put (cs := #[.int .i64 t248, .int .i64 t249, .int .u8 0]) ?_ 2 _ rfl; (with_reducible repeat (first | refine blk_drewN ?_ _ | refine blk_drew ?_ | refine blk_alloc ?_ _)); refine blk_put (cs := #[.int .i64 t248, .int .i64 0, .int .u8 0]) ?_ 1 _ rfl; (with_reducible repeat (first | refine blk_drewN ?_ _ | refine blk_drew ?_ | refine blk_alloc ?_ _)); refine blk_put (cs := #[.int .i64 0, .int .i64 0, .int .u8 0]) ?_ 0 _ rfl; (with_reducible repeat (first | refine blk_drewN ?_ _ | refine blk_drew ?_ | refine blk_alloc ?_ _)); exact BK252.out) hb); have n4_ := Aside0.mk (below_step (by repeat (first | (with_reducible first | exact HB.out | apply below_alloc | apply pw_below_drewN | apply below_drew1 | refine below_set ?_ GE222.out | refine below_set ?_ GE252.out) | exact HB.out)) hb); clear HO_5; clear HO_12; clear BK222; clear BK252; clear HB; have HO_5 := n0_; have HO_12 := n1_; have BK222 := n2_; have BK252 := n3_; have HB := n4_; clear n0_ n1_ n2_ n3_ n4_; (try clear hb); (try clear hb2); (try clear hk); (try clear hi); (try simp only [errW_none, errW_some])))
                                    go_ret
                                    exact ⟨by first | rfl | (simp [errW_none, errW_some] <;> rfl) | (simp [*, errW_none, errW_some] <;> rfl), by repeat (first | (with_reducible first | exact HB.out | apply below_alloc | apply pw_below_drewN | apply below_drew1 | refine below_set ?_ GE222.out | refine below_set ?_ GE252.out) | exact HB.out)⟩
                                · rw [if_neg c91] at H
                                  have c91b0 : (t251 != x8_21) = false := by simpa using c91
                                  (try (have c91b1 : decide (t251 = x8_21) = true := by simpa using c91))
                                  (try (have c91b2 : (t251 == x8_21) = true := by simpa using c91))
                                  clear c91
                                  by_cases c98 : x8_21 = true
                                  · subst c98
                                    have H1 : (if t250 = x7_21 then (halterlaw13_RegionKeeps.l0 kj21 l0 x5_1 (wrap64 (Int.tmod (IntKind.u64.wrap (a1)) 64)) x7_21 true (wrap64 (x9_1 + 1))) else (some false)) = some r := by rw [if_pos rfl] at H; exact H
                                    clear H
                                    have H := H1
                                    clear H1
                                    by_cases c99 : t250 = x7_21
                                    · rw [if_pos c99] at H
                                      have c99b0 : (t250 == x7_21) = true := beq_iff_eq.mpr c99
                                      have c99b1 : (t250 != x7_21) = false := bne_eq_false_iff_eq.mpr c99
                                      clear c99
                                      as_aux_lemma =>
                                        have H' := Aside0.mk H
                                        clear H
                                        obtain ⟨Ao100, co100, eo100⟩ := Kd.R_slice HO_5.out
                                        subst eo100
                                        go_wp2_with (first | ((with_reducible refine gate_callee (f := 17) rfl ?_); refine goesL_ (some 139) rfl rfl Try.func17 (by kernel_rfl) rfl #[.slice Ao100 x5_1.length co100, .int .i64 (wrap64 (Int.tmod (IntKind.u64.wrap (a1)) 64))] rfl (by (try simp only [List.map_toArray, List.map_cons, List.map_nil]); first | done | rfl | (simp only [List.length_drop, List.length_take]; rfl)) ?_; (with_reducible refine (region_At.calls kj21 _ _ x5_1 (wrap64 (Int.tmod (IntKind.u64.wrap (a1)) 64)) t248 t249 t250 t251 _ ?side1 ?side2 A89.out).mono ?_); (case side1 => repeat (first | exact (Kd.R_reads' HO_5.out).2.2 | (with_reducible refine Kd.C_alloc ?_ _) | (with_reducible refine Kd.C_drewN ?_ _) | (with_reducible refine Kd.C_drew ?_))); (case side2 => exact (Kd.R_reads' HO_5.out).2.1); rintro e w101 ⟨rfl, hb⟩; refine ⟨_, rfl, ?_⟩; have n0_ := Aside0.mk (Kd.R_below (by (with_reducible repeat (first | apply Kd.R_alloc | apply Kd.R_drewN | apply Kd.R_drew)); exact HO_5.out) hb); have n1_ := Aside0.mk (Kd.R_below (by (with_reducible repeat (first | apply Kd.R_alloc | apply Kd.R_drewN | apply Kd.R_drew)); exact HO_12.out) hb); have n2_ := Aside0.mk (blk_below (g := gb222) (o := .cells #[.int .i64 (wrap64 (Int.tmod (IntKind.u64.wrap ((rd_T48 l0 x9_1).f1.f0)) 64)), .int .i64 (wrap64 ((wrap64 ((wrap64 (Int.tmod (IntKind.u64.wrap ((rd_T48 l0 x9_1).f1.f0)) 64)) + 1)) + (wrap64 (Int.tmod (IntKind.u64.wrap ((rd_T48 l0 x9_1).f1.f1)) 20)))), .int .u8 (Int.tmod ((rd_T48 l0 x9_1).f1.f2) 8)] 49 (0, 0)) (by (with_reducible repeat (first | refine blk_drewN ?_ _ | refine blk_drew ?_ | refine blk_alloc ?_ _)); exact BK222.out) hb); have n3_ := Aside0.mk (below_step (by repeat (first | (with_reducible first | exact HB.out | apply below_alloc | apply pw_below_drewN | apply below_drew1 | refine below_set ?_ GE222.out) | exact HB.out)) hb); clear HO_5; clear HO_12; clear BK222; clear HB; have HO_5 := n0_; have HO_12 := n1_; have BK222 := n2_; have HB := n3_; clear n0_ n1_ n2_ n3_; (try clear hb); (try clear hb2); (try clear hk); (try clear hi)) | ((with_reducible refine gate_dst (N := 14) rfl ?_); refine box_event ?hg (N := 14) ?hd (cs := #[.int .i64 0, .int .i64 0, .int .u8 0]) (t := 49) ?hr ?_; (case hd => rfl); (case hg => rfl); (case hr => first | (go_simp; done) | (go_simp; rfl)); intro gb252 hg w102 hbox hb; have n0_ := Aside0.mk (Kd.R_below (Kd.R_elderB (by (with_reducible repeat (first | apply Kd.R_alloc | apply Kd.R_drewN | apply Kd.R_drew)); exact HO_5.out) gb252 (Nat.le_of_eq hg.symm)) hb); have n1_ := Aside0.mk (Kd.R_below (Kd.R_elderB (by (with_reducible repeat (first | apply Kd.R_alloc | apply Kd.R_drewN | apply Kd.R_drew)); exact HO_12.out) gb252 (Nat.le_of_eq hg.symm)) hb); have n2_ := Aside0.mk (blk_below (g := gb222) (o := .cells #[.int .i64 (wrap64 (Int.tmod (IntKind.u64.wrap ((rd_T48 l0 x9_1).f1.f0)) 64)), .int .i64 (wrap64 ((wrap64 ((wrap64 (Int.tmod (IntKind.u64.wrap ((rd_T48 l0 x9_1).f1.f0)) 64)) + 1)) + (wrap64 (Int.tmod (IntKind.u64.wrap ((rd_T48 l0 x9_1).f1.f1)) 20)))), .int .u8 (Int.tmod ((rd_T48 l0 x9_1).f1.f2) 8)] 49 (0, 0)) (by (with_reducible repeat (first | refine blk_drewN ?_ _ | refine blk_drew ?_ | refine blk_alloc ?_ _)); exact BK222.out) hb); have n3_ := Aside0.mk (below_step (by repeat (first | (with_reducible first | exact HB.out | apply below_alloc | apply pw_below_drewN | apply below_drew1 | refine below_set ?_ GE222.out) | exact HB.out)) hb); have n4_ := Aside0.mk (hbox); have n5_ := Aside0.mk ((by rw [hg]; exact (below_size (by repeat (first | (with_reducible first | exact HB.out | apply below_alloc | apply pw_below_drewN | apply below_drew1 | refine below_set ?_ GE222.out) | exact HB.out))) : w.heap.size ≤ gb252)); have n6_ := Aside0.mk ((by rw [hg]; exact (below_size (by repeat (first | (with_reducible first | exact HB.out | apply below_alloc | apply pw_below_drewN | apply below_drew1 | refine below_set ?_ GE222.out) | exact HB.out))) : w.heap.size ≤ gb252)); have n7_ := Aside0.mk ((by rw [hg]; exact Nat.ne_of_lt (blk_lt (g := gb222) (o := .cells #[.int .i64 (wrap64 (Int.tmod (IntKind.u64.wrap ((rd_T48 l0 x9_1).f1.f0)) 64)), .int .i64 (wrap64 ((wrap64 ((wrap64 (Int.tmod (IntKind.u64.wrap ((rd_T48 l0 x9_1).f1.f0)) 64)) + 1)) + (wrap64 (Int.tmod (IntKind.u64.wrap ((rd_T48 l0 x9_1).f1.f1)) 20)))), .int .u8 (Int.tmod ((rd_T48 l0 x9_1).f1.f2) 8)] 49 (0, 0)) (by (with_reducible repeat (first | refine blk_drewN ?_ _ | refine blk_drew ?_ | refine blk_alloc ?_ _)); exact BK222.out)) : gb222 ≠ gb252)); have n8_ := Aside0.mk ((by rw [hg]; exact Nat.ne_of_gt (blk_lt (g := gb222) (o := .cells #[.int .i64 (wrap64 (Int.tmod (IntKind.u64.wrap ((rd_T48 l0 x9_1).f1.f0)) 64)), .int .i64 (wrap64 ((wrap64 ((wrap64 (Int.tmod (IntKind.u64.wrap ((rd_T48 l0 x9_1).f1.f0)) 64)) + 1)) + (wrap64 (Int.tmod (IntKind.u64.wrap ((rd_T48 l0 x9_1).f1.f1)) 20)))), .int .u8 (Int.tmod ((rd_T48 l0 x9_1).f1.f2) 8)] 49 (0, 0)) (by (with_reducible repeat (first | refine blk_drewN ?_ _ | refine blk_drew ?_ | refine blk_alloc ?_ _)); exact BK222.out)) : gb252 ≠ gb222)); clear HO_5; clear HO_12; clear BK222; clear HB; have HO_5 := n0_; have HO_12 := n1_; have BK222 := n2_; have HB := n3_; have BK252 := n4_; have GW252 := n5_; have GE252 := n6_; have NB222_252 := n7_; have NB252_222 := n8_; clear n0_ n1_ n2_ n3_ n4_ n5_ n6_ n7_ n8_; clear hb hbox hg; have hnb103 := NB252_222.out; have hnc103 := NB222_252.out; have hcz104_0 : w102.cell? ⟨gb252, 0, none⟩ = some (.int .i64 0) := (blk_cell BK252.out 0).trans rfl; have hcz104_1 : w102.cell? ⟨gb252, 1, none⟩ = some (.int .i64 0) := (blk_cell BK252.out 1).trans rfl; have hcz104_2 : w102.cell? ⟨gb252, 2, none⟩ = some (.int .u8 0) := (blk_cell BK252.out 2).trans rfl; have hfz104_0 := blk_frozen BK252.out 0; have hfz104_1 := blk_frozen BK252.out 1; have hfz104_2 := blk_frozen BK252.out 2) | ((with_reducible refine gate_callee (f := 18) rfl ?_); refine goesL_ (some 143) rfl rfl Try.func18 (by kernel_rfl) rfl #[.slice Ao100 x5_1.length co100] rfl (by (try simp only [List.map_toArray, List.map_cons, List.map_nil]); first | done | rfl | (simp only [List.length_drop, List.length_take]; rfl)) ?_; (with_reducible refine (region_Check.calls kj21 _ _ x5_1 none _ ?side1 ?side2 A90.out).mono ?_); (case side1 => refine (Kd.R_reads' (e := 49) (base := w.heap.size) (ok := fun k_ => ((some k_ ≠ (u12 : Value).ownBlock ∧ k_ ≠ gb222) ∧ k_ ≠ gb252)) (n := x5_1.length) (c := co100) ?_).2.2; exact (by (with_reducible repeat (first | apply Kd.R_alloc | apply Kd.R_drewN | apply Kd.R_drew)); exact (Kd.R_mono (Kd.R_far (p := ⟨gb252, 2, none⟩) (Kd.R_far (p := ⟨gb252, 1, none⟩) (Kd.R_far (p := ⟨gb252, 0, none⟩) (Kd.R_mono HO_5.out (fun k_ hk => (⟨hk, hk.2⟩ : _ ∧ k_ ≠ gb252))) (fun _ hk => hk.2) (.int .i64 t248)) (fun _ hk => hk.2) (.int .i64 t249)) (fun _ hk => hk.2) (.int .u8 t250)) (fun _ h_ => h_.1)))); (case side2 => exact (Kd.R_reads' HO_5.out).2.1); rintro e w105 ⟨rfl, hb⟩; refine ⟨_, rfl, ?_⟩; have n0_ := Aside0.mk (Kd.R_below (by (with_reducible repeat (first | apply Kd.R_alloc | apply Kd.R_drewN | apply Kd.R_drew)); exact (Kd.R_mono (Kd.R_far (p := ⟨gb252, 2, none⟩) (Kd.R_far (p := ⟨gb252, 1, none⟩) (Kd.R_far (p := ⟨gb252, 0, none⟩) (Kd.R_mono HO_5.out (fun k_ hk => (⟨hk, hk.2⟩ : _ ∧ k_ ≠ gb252))) (fun _ hk => hk.2) (.int .i64 t248)) (fun _ hk => hk.2) (.int .i64 t249)) (fun _ hk => hk.2) (.int .u8 t250)) (fun _ h_ => h_.1))) hb); have n1_ := Aside0.mk (Kd.R_below (by (with_reducible repeat (first | apply Kd.R_alloc | apply Kd.R_drewN | apply Kd.R_drew)); exact (Kd.R_mono (Kd.R_far (p := ⟨gb252, 2, none⟩) (Kd.R_far (p := ⟨gb252, 1, none⟩) (Kd.R_far (p := ⟨gb252, 0, none⟩) (Kd.R_mono HO_12.out (fun k_ hk => (⟨hk, hk.2⟩ : _ ∧ k_ ≠ gb252))) (fun _ hk => hk.2) (.int .i64 t248)) (fun _ hk => hk.2) (.int .i64 t249)) (fun _ hk => hk.2) (.int .u8 t250)) (fun _ h_ => h_.1))) hb); have n2_ := Aside0.mk (blk_below (g := gb222) (o := .cells #[.int .i64 (wrap64 (Int.tmod (IntKind.u64.wrap ((rd_T48 l0 x9_1).f1.f0)) 64)), .int .i64 (wrap64 ((wrap64 ((wrap64 (Int.tmod (IntKind.u64.wrap ((rd_T48 l0 x9_1).f1.f0)) 64)) + 1)) + (wrap64 (Int.tmod (IntKind.u64.wrap ((rd_T48 l0 x9_1).f1.f1)) 20)))), .int .u8 (Int.tmod ((rd_T48 l0 x9_1).f1.f2) 8)] 49 (0, 0)) (by (with_reducible repeat (first | refine blk_drewN ?_ _ | refine blk_drew ?_ | refine blk_alloc ?_ _)); refine blk_far ?_ NB222_252.out _; (with_reducible repeat (first | refine blk_drewN ?_ _ | refine blk_drew ?_ | refine blk_alloc ?_ _)); refine blk_far ?_ NB222_252.out _; (with_reducible repeat (first | refine blk_drewN ?_ _ | refine blk_drew ?_ | refine blk_alloc ?_ _)); refine blk_far ?_ NB222_252.out _; (with_reducible repeat (first | refine blk_drewN ?_ _ | refine blk_drew ?_ | refine blk_alloc ?_ _)); exact BK222.out) hb); have n3_ := Aside0.mk (blk_below (g := gb252) (o := .cells #[.int .i64 t248, .int .i64 t249, .int .u8 t250] 49 (0, 0)) (by (with_reducible repeat (first | refine blk_drewN ?_ _ | refine blk_drew ?_ | refine blk_alloc ?_ _)); refine blk_put (cs := #[.int .i64 t248, .int .i64 t249, .int .u8 0]) ?_ 2 _ rfl; (with_reducible repeat (first | refine blk_drewN ?_ _ | refine blk_drew ?_ | refine blk_alloc ?_ _)); refine blk_put (cs := #[.int .i64 t248, .int .i64 0, .int .u8 0]) ?_ 1 _ rfl; (with_reducible repeat (first | refine blk_drewN ?_ _ | refine blk_drew ?_ | refine blk_alloc ?_ _)); refine blk_put (cs := #[.int .i64 0, .int .i64 0, .int .u8 0]) ?_ 0 _ rfl; (with_reducible repeat (first | refine blk_drewN ?_ _ | refine blk_drew ?_ | refine blk_alloc ?_ _)); exact BK252.out) hb); have n4_ := Aside0.mk (below_step (by repeat (first | (with_reducible first | exact HB.out | apply below_alloc | apply pw_below_drewN | apply below_drew1 | refine below_set ?_ GE222.out | refine below_set ?_ GE252.out) | exact HB.out)) hb); clear HO_5; clear HO_12; clear BK222; clear BK252; clear HB; have HO_5 := n0_; have HO_12 := n1_; have BK222 := n2_; have BK252 := n3_; have HB := n4_; clear n0_ n1_ n2_ n3_ n4_; (try clear hb); (try clear hb2); (try clear hk); (try clear hi); (try simp only [errW_none, errW_some]); have hcz106_0 : w105.cell? ⟨gb252, 0, none⟩ = some (.int .i64 t248) := (blk_cell BK252.out 0).trans rfl; have hcz106_1 : w105.cell? ⟨gb252, 1, none⟩ = some (.int .i64 t249) := (blk_cell BK252.out 1).trans rfl; have hcz106_2 : w105.cell? ⟨gb252, 2, none⟩ = some (.int .u8 t250) := (blk_cell BK252.out 2).trans rfl; have hfz106_0 := blk_frozen BK252.out 0; have hfz106_1 := blk_frozen BK252.out 1; have hfz106_2 := blk_frozen BK252.out 2))
                                        go_roundg kj21
                                        case measure => have := HK1.out; have := HJ2.out; have := HJ7.out; have := HJ21.out; omega
                                        case rel => exact ⟨(x5_1), (x7_21), (true), (wrap64 (x9_1 + 1)), (by first | rfl | (simp; done) | (simp [*]; done)), (by first | rfl | (simp; done) | (simp [*]; done)), (by first | rfl | (simp; done) | (simp [*]; done)), H', ⟨by have := HK1.out; have := HJ2.out; have := HJ7.out; have := HJ21.out; omega⟩, ⟨by (with_reducible repeat (first | apply Kd.R_alloc | apply Kd.R_drewN | apply Kd.R_drew)); exact Kd.R_mono HO_5.out (fun _ hk => trivial)⟩, ⟨by repeat (first | (with_reducible first | exact HB.out | apply below_alloc | apply pw_below_drewN | apply below_drew1 | refine below_set ?_ GE222.out | refine below_set ?_ GE252.out) | exact HB.out)⟩⟩
                                    · rw [if_neg c99] at H
                                      have c99b0 : (t250 == x7_21) = false := beq_eq_false_iff_ne.mpr c99
                                      have c99b1 : (t250 != x7_21) = true := bne_iff_ne.mpr c99
                                      as_aux_lemma =>
                                        obtain rfl := Option.some.inj H
                                        obtain ⟨Ao107, co107, eo107⟩ := Kd.R_slice HO_5.out
                                        subst eo107
                                        go_wp2_with (first | ((with_reducible refine gate_callee (f := 17) rfl ?_); refine goesL_ (some 139) rfl rfl Try.func17 (by kernel_rfl) rfl #[.slice Ao107 x5_1.length co107, .int .i64 (wrap64 (Int.tmod (IntKind.u64.wrap (a1)) 64))] rfl (by (try simp only [List.map_toArray, List.map_cons, List.map_nil]); first | done | rfl | (simp only [List.length_drop, List.length_take]; rfl)) ?_; (with_reducible refine (region_At.calls kj21 _ _ x5_1 (wrap64 (Int.tmod (IntKind.u64.wrap (a1)) 64)) t248 t249 t250 t251 _ ?side1 ?side2 A89.out).mono ?_); (case side1 => repeat (first | exact (Kd.R_reads' HO_5.out).2.2 | (with_reducible refine Kd.C_alloc ?_ _) | (with_reducible refine Kd.C_drewN ?_ _) | (with_reducible refine Kd.C_drew ?_))); (case side2 => exact (Kd.R_reads' HO_5.out).2.1); rintro e w108 ⟨rfl, hb⟩; refine ⟨_, rfl, ?_⟩; have n0_ := Aside0.mk (Kd.R_below (by (with_reducible repeat (first | apply Kd.R_alloc | apply Kd.R_drewN | apply Kd.R_drew)); exact HO_5.out) hb); have n1_ := Aside0.mk (Kd.R_below (by (with_reducible repeat (first | apply Kd.R_alloc | apply Kd.R_drewN | apply Kd.R_drew)); exact HO_12.out) hb); have n2_ := Aside0.mk (blk_below (g := gb222) (o := .cells #[.int .i64 (wrap64 (Int.tmod (IntKind.u64.wrap ((rd_T48 l0 x9_1).f1.f0)) 64)), .int .i64 (wrap64 ((wrap64 ((wrap64 (Int.tmod (IntKind.u64.wrap ((rd_T48 l0 x9_1).f1.f0)) 64)) + 1)) + (wrap64 (Int.tmod (IntKind.u64.wrap ((rd_T48 l0 x9_1).f1.f1)) 20)))), .int .u8 (Int.tmod ((rd_T48 l0 x9_1).f1.f2) 8)] 49 (0, 0)) (by (with_reducible repeat (first | refine blk_drewN ?_ _ | refine blk_drew ?_ | refine blk_alloc ?_ _)); exact BK222.out) hb); have n3_ := Aside0.mk (below_step (by repeat (first | (with_reducible first | exact HB.out | apply below_alloc | apply pw_below_drewN | apply below_drew1 | refine below_set ?_ GE222.out) | exact HB.out)) hb); clear HO_5; clear HO_12; clear BK222; clear HB; have HO_5 := n0_; have HO_12 := n1_; have BK222 := n2_; have HB := n3_; clear n0_ n1_ n2_ n3_; (try clear hb); (try clear hb2); (try clear hk); (try clear hi)) | ((with_reducible refine gate_dst (N := 14) rfl ?_); refine box_event ?hg (N := 14) ?hd (cs := #[.int .i64 0, .int .i64 0, .int .u8 0]) (t := 49) ?hr ?_; (case hd => rfl); (case hg => rfl); (case hr => first | (go_simp; done) | (go_simp; rfl)); intro gb252 hg w109 hbox hb; have n0_ := Aside0.mk (Kd.R_below (Kd.R_elderB (by (with_reducible repeat (first | apply Kd.R_alloc | apply Kd.R_drewN | apply Kd.R_drew)); exact HO_5.out) gb252 (Nat.le_of_eq hg.symm)) hb); have n1_ := Aside0.mk (Kd.R_below (Kd.R_elderB (by (with_reducible repeat (first | apply Kd.R_alloc | apply Kd.R_drewN | apply Kd.R_drew)); exact HO_12.out) gb252 (Nat.le_of_eq hg.symm)) hb); have n2_ := Aside0.mk (blk_below (g := gb222) (o := .cells #[.int .i64 (wrap64 (Int.tmod (IntKind.u64.wrap ((rd_T48 l0 x9_1).f1.f0)) 64)), .int .i64 (wrap64 ((wrap64 ((wrap64 (Int.tmod (IntKind.u64.wrap ((rd_T48 l0 x9_1).f1.f0)) 64)) + 1)) + (wrap64 (Int.tmod (IntKind.u64.wrap ((rd_T48 l0 x9_1).f1.f1)) 20)))), .int .u8 (Int.tmod ((rd_T48 l0 x9_1).f1.f2) 8)] 49 (0, 0)) (by (with_reducible repeat (first | refine blk_drewN ?_ _ | refine blk_drew ?_ | refine blk_alloc ?_ _)); exact BK222.out) hb); have n3_ := Aside0.mk (below_step (by repeat (first | (with_reducible first | exact HB.out | apply below_alloc | apply pw_below_drewN | apply below_drew1 | refine below_set ?_ GE222.out) | exact HB.out)) hb); have n4_ := Aside0.mk (hbox); have n5_ := Aside0.mk ((by rw [hg]; exact (below_size (by repeat (first | (with_reducible first | exact HB.out | apply below_alloc | apply pw_below_drewN | apply below_drew1 | refine below_set ?_ GE222.out) | exact HB.out))) : w.heap.size ≤ gb252)); have n6_ := Aside0.mk ((by rw [hg]; exact (below_size (by repeat (first | (with_reducible first | exact HB.out | apply below_alloc | apply pw_below_drewN | apply below_drew1 | refine below_set ?_ GE222.out) | exact HB.out))) : w.heap.size ≤ gb252)); have n7_ := Aside0.mk ((by rw [hg]; exact Nat.ne_of_lt (blk_lt (g := gb222) (o := .cells #[.int .i64 (wrap64 (Int.tmod (IntKind.u64.wrap ((rd_T48 l0 x9_1).f1.f0)) 64)), .int .i64 (wrap64 ((wrap64 ((wrap64 (Int.tmod (IntKind.u64.wrap ((rd_T48 l0 x9_1).f1.f0)) 64)) + 1)) + (wrap64 (Int.tmod (IntKind.u64.wrap ((rd_T48 l0 x9_1).f1.f1)) 20)))), .int .u8 (Int.tmod ((rd_T48 l0 x9_1).f1.f2) 8)] 49 (0, 0)) (by (with_reducible repeat (first | refine blk_drewN ?_ _ | refine blk_drew ?_ | refine blk_alloc ?_ _)); exact BK222.out)) : gb222 ≠ gb252)); have n8_ := Aside0.mk ((by rw [hg]; exact Nat.ne_of_gt (blk_lt (g := gb222) (o := .cells #[.int .i64 (wrap64 (Int.tmod (IntKind.u64.wrap ((rd_T48 l0 x9_1).f1.f0)) 64)), .int .i64 (wrap64 ((wrap64 ((wrap64 (Int.tmod (IntKind.u64.wrap ((rd_T48 l0 x9_1).f1.f0)) 64)) + 1)) + (wrap64 (Int.tmod (IntKind.u64.wrap ((rd_T48 l0 x9_1).f1.f1)) 20)))), .int .u8 (Int.tmod ((rd_T48 l0 x9_1).f1.f2) 8)] 49 (0, 0)) (by (with_reducible repeat (first | refine blk_drewN ?_ _ | refine blk_drew ?_ | refine blk_alloc ?_ _)); exact BK222.out)) : gb252 ≠ gb222)); clear HO_5; clear HO_12; clear BK222; clear HB; have HO_5 := n0_; have HO_12 := n1_; have BK222 := n2_; have HB := n3_; have BK252 := n4_; have GW252 := n5_; have GE252 := n6_; have NB222_252 := n7_; have NB252_222 := n8_; clear n0_ n1_ n2_ n3_ n4_ n5_ n6_ n7_ n8_; clear hb hbox hg; have hnb110 := NB252_222.out; have hnc110 := NB222_252.out; have hcz111_0 : w109.cell? ⟨gb252, 0, none⟩ = some (.int .i64 0) := (blk_cell BK252.out 0).trans rfl; have hcz111_1 : w109.cell? ⟨gb252, 1, none⟩ = some (.int .i64 0) := (blk_cell BK252.out 1).trans rfl; have hcz111_2 : w109.cell? ⟨gb252, 2, none⟩ = some (.int .u8 0) := (blk_cell BK252.out 2).trans rfl; have hfz111_0 := blk_frozen BK252.out 0; have hfz111_1 := blk_frozen BK252.out 1; have hfz111_2 := blk_frozen BK252.out 2) | ((with_reducible refine gate_callee (f := 18) rfl ?_); refine goesL_ (some 143) rfl rfl Try.func18 (by kernel_rfl) rfl #[.slice Ao107 x5_1.length co107] rfl (by (try simp only [List.map_toArray, List.map_cons, List.map_nil]); first | done | rfl | (simp only [List.length_drop, List.length_take]; rfl)) ?_; (with_reducible refine (region_Check.calls kj21 _ _ x5_1 none _ ?side1 ?side2 A90.out).mono ?_); (case side1 => refine (Kd.R_reads' (e := 49) (base := w.heap.size) (ok := fun k_ => ((some k_ ≠ (u12 : Value).ownBlock ∧ k_ ≠ gb222) ∧ k_ ≠ gb252)) (n := x5_1.length) (c := co107) ?_).2.2; exact (by (with_reducible repeat (first | apply Kd.R_alloc | apply Kd.R_drewN | apply Kd.R_drew)); exact (Kd.R_mono (Kd.R_far (p := ⟨gb252, 2, none⟩) (Kd.R_far (p := ⟨gb252, 1, none⟩) (Kd.R_far (p := ⟨gb252, 0, none⟩) (Kd.R_mono HO_5.out (fun k_ hk => (⟨hk, hk.2⟩ : _ ∧ k_ ≠ gb252))) (fun _ hk => hk.2) (.int .i64 t248)) (fun _ hk => hk.2) (.int .i64 t249)) (fun _ hk => hk.2) (.int .u8 t250)) (fun _ h_ => h_.1)))); (case side2 => exact (Kd.R_reads' HO_5.out).2.1); rintro e w112 ⟨rfl, hb⟩; refine ⟨_, rfl, ?_⟩; have n0_ := Aside0.mk (Kd.R_below (by (with_reducible repeat (first | apply Kd.R_alloc | apply Kd.R_drewN | apply Kd.R_drew)); exact (Kd.R_mono (Kd.R_far (p := ⟨gb252, 2, none⟩) (Kd.R_far (p := ⟨gb252, 1, none⟩) (Kd.R_far (p := ⟨gb252, 0, none⟩) (Kd.R_mono HO_5.out (fun k_ hk => (⟨hk, hk.2⟩ : _ ∧ k_ ≠ gb252))) (fun _ hk => hk.2) (.int .i64 t248)) (fun _ hk => hk.2) (.int .i64 t249)) (fun _ hk => hk.2) (.int .u8 t250)) (fun _ h_ => h_.1))) hb); have n1_ := Aside0.mk (Kd.R_below (by (with_reducible repeat (first | apply Kd.R_alloc | apply Kd.R_drewN | apply Kd.R_drew)); exact (Kd.R_mono (Kd.R_far (p := ⟨gb252, 2, none⟩) (Kd.R_far (p := ⟨gb252, 1, none⟩) (Kd.R_far (p := ⟨gb252, 0, none⟩) (Kd.R_mono HO_12.out (fun k_ hk => (⟨hk, hk.2⟩ : _ ∧ k_ ≠ gb252))) (fun _ hk => hk.2) (.int .i64 t248)) (fun _ hk => hk.2) (.int .i64 t249)) (fun _ hk => hk.2) (.int .u8 t250)) (fun _ h_ => h_.1))) hb); have n2_ := Aside0.mk (blk_below (g := gb222) (o := .cells #[.int .i64 (wrap64 (Int.tmod (IntKind.u64.wrap ((rd_T48 l0 x9_1).f1.f0)) 64)), .int .i64 (wrap64 ((wrap64 ((wrap64 (Int.tmod (IntKind.u64.wrap ((rd_T48 l0 x9_1).f1.f0)) 64)) + 1)) + (wrap64 (Int.tmod (IntKind.u64.wrap ((rd_T48 l0 x9_1).f1.f1)) 20)))), .int .u8 (Int.tmod ((rd_T48 l0 x9_1).f1.f2) 8)] 49 (0, 0)) (by (with_reducible repeat (first | refine blk_drewN ?_ _ | refine blk_drew ?_ | refine blk_alloc ?_ _)); refine blk_far ?_ NB222_252.out _; (with_reducible repeat (first | refine blk_drewN ?_ _ | refine blk_drew ?_ | refine blk_alloc ?_ _)); refine blk_far ?_ NB222_252.out _; (with_reducible repeat (first | refine blk_drewN ?_ _ | refine blk_drew ?_ | refine blk_alloc ?_ _)); refine blk_far ?_ NB222_252.out _; (with_reducible repeat (first | refine blk_drewN ?_ _ | refine blk_drew ?_ | refine blk_alloc ?_ _)); exact BK222.out) hb); have n3_ := Aside0.mk (blk_below (g := gb252) (o := .cells #[.int .i64 t248, .int .i64 t249, .int .u8 t250] 49 (0, 0)) (by (with_reducible repeat (first | refine blk_drewN ?_ _ | refine blk_drew ?_ | refine blk_alloc ?_ _)); refine blk_put (cs := #[.int .i64 t248, .int .i64 t249, .int .u8 0]) ?_ 2 _ rfl; (with_reducible repeat (first | refine blk_drewN ?_ _ | refine blk_drew ?_ | refine blk_alloc ?_ _)); refine blk_put (cs := #[.int .i64 t248, .int .i64 0, .int .u8 0]) ?_ 1 _ rfl; (with_reducible repeat (first | refine blk_drewN ?_ _ | refine blk_drew ?_ | refine blk_alloc ?_ _)); refine blk_put (cs := #[.int .i64 0, .int .i64 0, .int .u8 0]) ?_ 0 _ rfl; (with_reducible repeat (first | refine blk_drewN ?_ _ | refine blk_drew ?_ | refine blk_alloc ?_ _)); exact BK252.out) hb); have n4_ := Aside0.mk (below_step (by repeat (first | (with_reducible first | exact HB.out | apply below_alloc | apply pw_below_drewN | apply below_drew1 | refine below_set ?_ GE222.out | refine below_set ?_ GE252.out) | exact HB.out)) hb); clear HO_5; clear HO_12; clear BK222; clear BK252; clear HB; have HO_5 := n0_; have HO_12 := n1_; have BK222 := n2_; have BK252 := n3_; have HB := n4_; clear n0_ n1_ n2_ n3_ n4_; (try clear hb); (try clear hb2); (try clear hk); (try clear hi); (try simp only [errW_none, errW_some]); have hcz113_0 : w112.cell? ⟨gb252, 0, none⟩ = some (.int .i64 t248) := (blk_cell BK252.out 0).trans rfl; have hcz113_1 : w112.cell? ⟨gb252, 1, none⟩ = some (.int .i64 t249) := (blk_cell BK252.out 1).trans rfl; have hcz113_2 : w112.cell? ⟨gb252, 2, none⟩ = some (.int .u8 t250) := (blk_cell BK252.out 2).trans rfl; have hfz113_0 := blk_frozen BK252.out 0; have hfz113_1 := blk_frozen BK252.out 1; have hfz113_2 := blk_frozen BK252.out 2))
                                        go_ret
                                        exact ⟨by first | rfl | (simp [errW_none, errW_some] <;> rfl) | (simp [*, errW_none, errW_some] <;> rfl), by repeat (first | (with_reducible first | exact HB.out | apply below_alloc | apply pw_below_drewN | apply below_drew1 | refine below_set ?_ GE222.out | refine below_set ?_ GE252.out) | exact HB.out)⟩
                                  · replace c98 := Bool.eq_false_iff.mpr c98
                                    subst c98
                                    have H1 : (halterlaw13_RegionKeeps.l0 kj21 l0 x5_1 (wrap64 (Int.tmod (IntKind.u64.wrap (a1)) 64)) x7_21 false (wrap64 (x9_1 + 1))) = some r := by rw [if_neg (show ¬ (false = true) by decide)] at H; exact H
                                    clear H
                                    have H := H1
                                    clear H1
                                    as_aux_lemma =>
                                      have H' := Aside0.mk H
                                      clear H
                                      obtain ⟨Ao114, co114, eo114⟩ := Kd.R_slice HO_5.out
                                      subst eo114
                                      go_wp2_with (first | ((with_reducible refine gate_callee (f := 17) rfl ?_); refine goesL_ (some 139) rfl rfl Try.func17 (by kernel_rfl) rfl #[.slice Ao114 x5_1.length co114, .int .i64 (wrap64 (Int.tmod (IntKind.u64.wrap (a1)) 64))] rfl (by (try simp only [List.map_toArray, List.map_cons, List.map_nil]); first | done | rfl | (simp only [List.length_drop, List.length_take]; rfl)) ?_; (with_reducible refine (region_At.calls kj21 _ _ x5_1 (wrap64 (Int.tmod (IntKind.u64.wrap (a1)) 64)) t248 t249 t250 t251 _ ?side1 ?side2 A89.out).mono ?_); (case side1 => repeat (first | exact (Kd.R_reads' HO_5.out).2.2 | (with_reducible refine Kd.C_alloc ?_ _) | (with_reducible refine Kd.C_drewN ?_ _) | (with_reducible refine Kd.C_drew ?_))); (case side2 => exact (Kd.R_reads' HO_5.out).2.1); rintro e w115 ⟨rfl, hb⟩; refine ⟨_, rfl, ?_⟩; have n0_ := Aside0.mk (Kd.R_below (by (with_reducible repeat (first | apply Kd.R_alloc | apply Kd.R_drewN | apply Kd.R_drew)); exact HO_5.out) hb); have n1_ := Aside0.mk (Kd.R_below (by (with_reducible repeat (first | apply Kd.R_alloc | apply Kd.R_drewN | apply Kd.R_drew)); exact HO_12.out) hb); have n2_ := Aside0.mk (blk_below (g := gb222) (o := .cells #[.int .i64 (wrap64 (Int.tmod (IntKind.u64.wrap ((rd_T48 l0 x9_1).f1.f0)) 64)), .int .i64 (wrap64 ((wrap64 ((wrap64 (Int.tmod (IntKind.u64.wrap ((rd_T48 l0 x9_1).f1.f0)) 64)) + 1)) + (wrap64 (Int.tmod (IntKind.u64.wrap ((rd_T48 l0 x9_1).f1.f1)) 20)))), .int .u8 (Int.tmod ((rd_T48 l0 x9_1).f1.f2) 8)] 49 (0, 0)) (by (with_reducible repeat (first | refine blk_drewN ?_ _ | refine blk_drew ?_ | refine blk_alloc ?_ _)); exact BK222.out) hb); have n3_ := Aside0.mk (below_step (by repeat (first | (with_reducible first | exact HB.out | apply below_alloc | apply pw_below_drewN | apply below_drew1 | refine below_set ?_ GE222.out) | exact HB.out)) hb); clear HO_5; clear HO_12; clear BK222; clear HB; have HO_5 := n0_; have HO_12 := n1_; have BK222 := n2_; have HB := n3_; clear n0_ n1_ n2_ n3_; (try clear hb); (try clear hb2); (try clear hk); (try clear hi)) | ((with_reducible refine gate_dst (N := 14) rfl ?_); refine box_event ?hg (N := 14) ?hd (cs := #[.int .i64 0, .int .i64 0, .int .u8 0]) (t := 49) ?hr ?_; (case hd => rfl); (case hg => rfl); (case hr => first | (go_simp; done) | (go_simp; rfl)); intro gb252 hg w116 hbox hb; have n0_ := Aside0.mk (Kd.R_below (Kd.R_elderB (by (with_reducible repeat (first | apply Kd.R_alloc | apply Kd.R_drewN | apply Kd.R_drew)); exact HO_5.out) gb252 (Nat.le_of_eq hg.symm)) hb); have n1_ := Aside0.mk (Kd.R_below (Kd.R_elderB (by (with_reducible repeat (first | apply Kd.R_alloc | apply Kd.R_drewN | apply Kd.R_drew)); exact HO_12.out) gb252 (Nat.le_of_eq hg.symm)) hb); have n2_ := Aside0.mk (blk_below (g := gb222) (o := .cells #[.int .i64 (wrap64 (Int.tmod (IntKind.u64.wrap ((rd_T48 l0 x9_1).f1.f0)) 64)), .int .i64 (wrap64 ((wrap64 ((wrap64 (Int.tmod (IntKind.u64.wrap ((rd_T48 l0 x9_1).f1.f0)) 64)) + 1)) + (wrap64 (Int.tmod (IntKind.u64.wrap ((rd_T48 l0 x9_1).f1.f1)) 20)))), .int .u8 (Int.tmod ((rd_T48 l0 x9_1).f1.f2) 8)] 49 (0, 0)) (by (with_reducible repeat (first | refine blk_drewN ?_ _ | refine blk_drew ?_ | refine blk_alloc ?_ _)); exact BK222.out) hb); have n3_ := Aside0.mk (below_step (by repeat (first | (with_reducible first | exact HB.out | apply below_alloc | apply pw_below_drewN | apply below_drew1 | refine below_set ?_ GE222.out) | exact HB.out)) hb); have n4_ := Aside0.mk (hbox); have n5_ := Aside0.mk ((by rw [hg]; exact (below_size (by repeat (first | (with_reducible first | exact HB.out | apply below_alloc | apply pw_below_drewN | apply below_drew1 | refine below_set ?_ GE222.out) | exact HB.out))) : w.heap.size ≤ gb252)); have n6_ := Aside0.mk ((by rw [hg]; exact (below_size (by repeat (first | (with_reducible first | exact HB.out | apply below_alloc | apply pw_below_drewN | apply below_drew1 | refine below_set ?_ GE222.out) | exact HB.out))) : w.heap.size ≤ gb252)); have n7_ := Aside0.mk ((by rw [hg]; exact Nat.ne_of_lt (blk_lt (g := gb222) (o := .cells #[.int .i64 (wrap64 (Int.tmod (IntKind.u64.wrap ((rd_T48 l0 x9_1).f1.f0)) 64)), .int .i64 (wrap64 ((wrap64 ((wrap64 (Int.tmod (IntKind.u64.wrap ((rd_T48 l0 x9_1).f1.f0)) 64)) + 1)) + (wrap64 (Int.tmod (IntKind.u64.wrap ((rd_T48 l0 x9_1).f1.f1)) 20)))), .int .u8 (Int.tmod ((rd_T48 l0 x9_1).f1.f2) 8)] 49 (0, 0)) (by (with_reducible repeat (first | refine blk_drewN ?_ _ | refine blk_drew ?_ | refine blk_alloc ?_ _)); exact BK222.out)) : gb222 ≠ gb252)); have n8_ := Aside0.mk ((by rw [hg]; exact Nat.ne_of_gt (blk_lt (g := gb222) (o := .cells #[.int .i64 (wrap64 (Int.tmod (IntKind.u64.wrap ((rd_T48 l0 x9_1).f1.f0)) 64)), .int .i64 (wrap64 ((wrap64 ((wrap64 (Int.tmod (IntKind.u64.wrap ((rd_T48 l0 x9_1).f1.f0)) 64)) + 1)) + (wrap64 (Int.tmod (IntKind.u64.wrap ((rd_T48 l0 x9_1).f1.f1)) 20)))), .int .u8 (Int.tmod ((rd_T48 l0 x9_1).f1.f2) 8)] 49 (0, 0)) (by (with_reducible repeat (first | refine blk_drewN ?_ _ | refine blk_drew ?_ | refine blk_alloc ?_ _)); exact BK222.out)) : gb252 ≠ gb222)); clear HO_5; clear HO_12; clear BK222; clear HB; have HO_5 := n0_; have HO_12 := n1_; have BK222 := n2_; have HB := n3_; have BK252 := n4_; have GW252 := n5_; have GE252 := n6_; have NB222_252 := n7_; have NB252_222 := n8_; clear n0_ n1_ n2_ n3_ n4_ n5_ n6_ n7_ n8_; clear hb hbox hg; have hnb117 := NB252_222.out; have hnc117 := NB222_252.out; have hcz118_0 : w116.cell? ⟨gb252, 0, none⟩ = some (.int .i64 0) := (blk_cell BK252.out 0).trans rfl; have hcz118_1 : w116.cell? ⟨gb252, 1, none⟩ = some (.int .i64 0) := (blk_cell BK252.out 1).trans rfl; have hcz118_2 : w116.cell? ⟨gb252, 2, none⟩ = some (.int .u8 0) := (blk_cell BK252.out 2).trans rfl; have hfz118_0 := blk_frozen BK252.out 0; have hfz118_1 := blk_frozen BK252.out 1; have hfz118_2 := blk_frozen BK252.out 2) | ((with_reducible refine gate_callee (f := 18) rfl ?_); refine goesL_ (some 143) rfl rfl Try.func18 (by kernel_rfl) rfl #[.slice Ao114 x5_1.length co114] rfl (by (try simp only [List.map_toArray, List.map_cons, List.map_nil]); first | done | rfl | (simp only [List.length_drop, List.length_take]; rfl)) ?_; (with_reducible refine (region_Check.calls kj21 _ _ x5_1 none _ ?side1 ?side2 A90.out).mono ?_); (case side1 => refine (Kd.R_reads' (e := 49) (base := w.heap.size) (ok := fun k_ => ((some k_ ≠ (u12 : Value).ownBlock ∧ k_ ≠ gb222) ∧ k_ ≠ gb252)) (n := x5_1.length) (c := co114) ?_).2.2; exact (by (with_reducible repeat (first | apply Kd.R_alloc | apply Kd.R_drewN | apply Kd.R_drew)); exact (Kd.R_mono (Kd.R_far (p := ⟨gb252, 2, none⟩) (Kd.R_far (p := ⟨gb252, 1, none⟩) (Kd.R_far (p := ⟨gb252, 0, none⟩) (Kd.R_mono HO_5.out (fun k_ hk => (⟨hk, hk.2⟩ : _ ∧ k_ ≠ gb252))) (fun _ hk => hk.2) (.int .i64 t248)) (fun _ hk => hk.2) (.int .i64 t249)) (fun _ hk => hk.2) (.int .u8 t250)) (fun _ h_ => h_.1)))); (case side2 => exact (Kd.R_reads' HO_5.out).2.1); rintro e w119 ⟨rfl, hb⟩; refine ⟨_, rfl, ?_⟩; have n0_ := Aside0.mk (Kd.R_below (by (with_reducible repeat (first | apply Kd.R_alloc | apply Kd.R_drewN | apply Kd.R_drew)); exact (Kd.R_mono (Kd.R_far (p := ⟨gb252, 2, none⟩) (Kd.R_far (p := ⟨gb252, 1, none⟩) (Kd.R_far (p := ⟨gb252, 0, none⟩) (Kd.R_mono HO_5.out (fun k_ hk => (⟨hk, hk.2⟩ : _ ∧ k_ ≠ gb252))) (fun _ hk => hk.2) (.int .i64 t248)) (fun _ hk => hk.2) (.int .i64 t249)) (fun _ hk => hk.2) (.int .u8 t250)) (fun _ h_ => h_.1))) hb); have n1_ := Aside0.mk (Kd.R_below (by (with_reducible repeat (first | apply Kd.R_alloc | apply Kd.R_drewN | apply Kd.R_drew)); exact (Kd.R_mono (Kd.R_far (p := ⟨gb252, 2, none⟩) (Kd.R_far (p := ⟨gb252, 1, none⟩) (Kd.R_far (p := ⟨gb252, 0, none⟩) (Kd.R_mono HO_12.out (fun k_ hk => (⟨hk, hk.2⟩ : _ ∧ k_ ≠ gb252))) (fun _ hk => hk.2) (.int .i64 t248)) (fun _ hk => hk.2) (.int .i64 t249)) (fun _ hk => hk.2) (.int .u8 t250)) (fun _ h_ => h_.1))) hb); have n2_ := Aside0.mk (blk_below (g := gb222) (o := .cells #[.int .i64 (wrap64 (Int.tmod (IntKind.u64.wrap ((rd_T48 l0 x9_1).f1.f0)) 64)), .int .i64 (wrap64 ((wrap64 ((wrap64 (Int.tmod (IntKind.u64.wrap ((rd_T48 l0 x9_1).f1.f0)) 64)) + 1)) + (wrap64 (Int.tmod (IntKind.u64.wrap ((rd_T48 l0 x9_1).f1.f1)) 20)))), .int .u8 (Int.tmod ((rd_T48 l0 x9_1).f1.f2) 8)] 49 (0, 0)) (by (with_reducible repeat (first | refine blk_drewN ?_ _ | refine blk_drew ?_ | refine blk_alloc ?_ _)); refine blk_far ?_ NB222_252.out _; (with_reducible repeat (first | refine blk_drewN ?_ _ | refine blk_drew ?_ | refine blk_alloc ?_ _)); refine blk_far ?_ NB222_252.out _; (with_reducible repeat (first | refine blk_drewN ?_ _ | refine blk_drew ?_ | refine blk_alloc ?_ _)); refine blk_far ?_ NB222_252.out _; (with_reducible repeat (first | refine blk_drewN ?_ _ | refine blk_drew ?_ | refine blk_alloc ?_ _)); exact BK222.out) hb); have n3_ := Aside0.mk (blk_below (g := gb252) (o := .cells #[.int .i64 t248, .int .i64 t249, .int .u8 t250] 49 (0, 0)) (by (with_reducible repeat (first | refine blk_drewN ?_ _ | refine blk_drew ?_ | refine blk_alloc ?_ _)); refine blk_put (cs := #[.int .i64 t248, .int .i64 t249, .int .u8 0]) ?_ 2 _ rfl; (with_reducible repeat (first | refine blk_drewN ?_ _ | refine blk_drew ?_ | refine blk_alloc ?_ _)); refine blk_put (cs := #[.int .i64 t248, .int .i64 0, .int .u8 0]) ?_ 1 _ rfl; (with_reducible repeat (first | refine blk_drewN ?_ _ | refine blk_drew ?_ | refine blk_alloc ?_ _)); refine blk_put (cs := #[.int .i64 0, .int .i64 0, .int .u8 0]) ?_ 0 _ rfl; (with_reducible repeat (first | refine blk_drewN ?_ _ | refine blk_drew ?_ | refine blk_alloc ?_ _)); exact BK252.out) hb); have n4_ := Aside0.mk (below_step (by repeat (first | (with_reducible first | exact HB.out | apply below_alloc | apply pw_below_drewN | apply below_drew1 | refine below_set ?_ GE222.out | refine below_set ?_ GE252.out) | exact HB.out)) hb); clear HO_5; clear HO_12; clear BK222; clear BK252; clear HB; have HO_5 := n0_; have HO_12 := n1_; have BK222 := n2_; have BK252 := n3_; have HB := n4_; clear n0_ n1_ n2_ n3_ n4_; (try clear hb); (try clear hb2); (try clear hk); (try clear hi); (try simp only [errW_none, errW_some])))
                                      go_roundg kj21
                                      case measure => have := HK1.out; have := HJ2.out; have := HJ7.out; have := HJ21.out; omega
                                      case rel => exact ⟨(x5_1), (x7_21), (false), (wrap64 (x9_1 + 1)), (by first | rfl | (simp; done) | (simp [*]; done)), (by first | rfl | (simp; done) | (simp [*]; done)), (by first | rfl | (simp; done) | (simp [*]; done)), H', ⟨by have := HK1.out; have := HJ2.out; have := HJ7.out; have := HJ21.out; omega⟩, ⟨by (with_reducible repeat (first | apply Kd.R_alloc | apply Kd.R_drewN | apply Kd.R_drew)); exact Kd.R_mono HO_5.out (fun _ hk => trivial)⟩, ⟨by repeat (first | (with_reducible first | exact HB.out | apply below_alloc | apply pw_below_drewN | apply below_drew1 | refine below_set ?_ GE222.out | refine below_set ?_ GE252.out) | exact HB.out)⟩⟩
                              · have H1 : (some false) = some r := by rw [if_neg (show ¬ (some q254).isNone = true by simp)] at H; exact H
                                clear H
                                have H := H1
                                clear H1
                                try simp only [errW_none, errW_some]
                                as_aux_lemma =>
                                  obtain rfl := Option.some.inj H
                                  obtain ⟨Ao120, co120, eo120⟩ := Kd.R_slice HO_5.out
                                  subst eo120
                                  go_wp2_with (first | ((with_reducible refine gate_callee (f := 17) rfl ?_); refine goesL_ (some 139) rfl rfl Try.func17 (by kernel_rfl) rfl #[.slice Ao120 x5_1.length co120, .int .i64 (wrap64 (Int.tmod (IntKind.u64.wrap (a1)) 64))] rfl (by (try simp only [List.map_toArray, List.map_cons, List.map_nil]); first | done | rfl | (simp only [List.length_drop, List.length_take]; rfl)) ?_; (with_reducible refine (region_At.calls kj21 _ _ x5_1 (wrap64 (Int.tmod (IntKind.u64.wrap (a1)) 64)) t248 t249 t250 t251 _ ?side1 ?side2 A89.out).mono ?_); (case side1 => repeat (first | exact (Kd.R_reads' HO_5.out).2.2 | (with_reducible refine Kd.C_alloc ?_ _) | (with_reducible refine Kd.C_drewN ?_ _) | (with_reducible refine Kd.C_drew ?_))); (case side2 => exact (Kd.R_reads' HO_5.out).2.1); rintro e w121 ⟨rfl, hb⟩; refine ⟨_, rfl, ?_⟩; have n0_ := Aside0.mk (Kd.R_below (by (with_reducible repeat (first | apply Kd.R_alloc | apply Kd.R_drewN | apply Kd.R_drew)); exact HO_5.out) hb); have n1_ := Aside0.mk (Kd.R_below (by (with_reducible repeat (first | apply Kd.R_alloc | apply Kd.R_drewN | apply Kd.R_drew)); exact HO_12.out) hb); have n2_ := Aside0.mk (blk_below (g := gb222) (o := .cells #[.int .i64 (wrap64 (Int.tmod (IntKind.u64.wrap ((rd_T48 l0 x9_1).f1.f0)) 64)), .int .i64 (wrap64 ((wrap64 ((wrap64 (Int.tmod (IntKind.u64.wrap ((rd_T48 l0 x9_1).f1.f0)) 64)) + 1)) + (wrap64 (Int.tmod (IntKind.u64.wrap ((rd_T48 l0 x9_1).f1.f1)) 20)))), .int .u8 (Int.tmod ((rd_T48 l0 x9_1).f1.f2) 8)] 49 (0, 0)) (by (with_reducible repeat (first | refine blk_drewN ?_ _ | refine blk_drew ?_ | refine blk_alloc ?_ _)); exact BK222.out) hb); have n3_ := Aside0.mk (below_step (by repeat (first | (with_reducible first | exact HB.out | apply below_alloc | apply pw_below_drewN | apply below_drew1 | refine below_set ?_ GE222.out) | exact HB.out)) hb); clear HO_5; clear HO_12; clear BK222; clear HB; have HO_5 := n0_; have HO_12 := n1_; have BK222 := n2_; have HB := n3_; clear n0_ n1_ n2_ n3_; (try clear hb); (try clear hb2); (try clear hk); (try clear hi)) | ((with_reducible refine gate_dst (N := 14) rfl ?_); refine box_event ?hg (N := 14) ?hd (cs := #[.int .i64 0, .int .i64 0, .int .u8 0]) (t := 49) ?hr ?_; (case hd => rfl); (case hg => rfl); (case hr => first | (go_simp; done) | (go_simp; rfl)); intro gb252 hg w122 hbox hb; have n0_ := Aside0.mk (Kd.R_below (Kd.R_elderB (by (with_reducible repeat (first | apply Kd.R_alloc | apply Kd.R_drewN | apply Kd.R_drew)); exact HO_5.out) gb252 (Nat.le_of_eq hg.symm)) hb); have n1_ := Aside0.mk (Kd.R_below (Kd.R_elderB (by (with_reducible repeat (first | apply Kd.R_alloc | apply Kd.R_drewN | apply Kd.R_drew)); exact HO_12.out) gb252 (Nat.le_of_eq hg.symm)) hb); have n2_ := Aside0.mk (blk_below (g := gb222) (o := .cells #[.int .i64 (wrap64 (Int.tmod (IntKind.u64.wrap ((rd_T48 l0 x9_1).f1.f0)) 64)), .int .i64 (wrap64 ((wrap64 ((wrap64 (Int.tmod (IntKind.u64.wrap ((rd_T48 l0 x9_1).f1.f0)) 64)) + 1)) + (wrap64 (Int.tmod (IntKind.u64.wrap ((rd_T48 l0 x9_1).f1.f1)) 20)))), .int .u8 (Int.tmod ((rd_T48 l0 x9_1).f1.f2) 8)] 49 (0, 0)) (by (with_reducible repeat (first | refine blk_drewN ?_ _ | refine blk_drew ?_ | refine blk_alloc ?_ _)); exact BK222.out) hb); have n3_ := Aside0.mk (below_step (by repeat (first | (with_reducible first | exact HB.out | apply below_alloc | apply pw_below_drewN | apply below_drew1 | refine below_set ?_ GE222.out) | exact HB.out)) hb); have n4_ := Aside0.mk (hbox); have n5_ := Aside0.mk ((by rw [hg]; exact (below_size (by repeat (first | (with_reducible first | exact HB.out | apply below_alloc | apply pw_below_drewN | apply below_drew1 | refine below_set ?_ GE222.out) | exact HB.out))) : w.heap.size ≤ gb252)); have n6_ := Aside0.mk ((by rw [hg]; exact (below_size (by repeat (first | (with_reducible first | exact HB.out | apply below_alloc | apply pw_below_drewN | apply below_drew1 | refine below_set ?_ GE222.out) | exact HB.out))) : w.heap.size ≤ gb252)); have n7_ := Aside0.mk ((by rw [hg]; exact Nat.ne_of_lt (blk_lt (g := gb222) (o := .cells #[.int .i64 (wrap64 (Int.tmod (IntKind.u64.wrap ((rd_T48 l0 x9_1).f1.f0)) 64)), .int .i64 (wrap64 ((wrap64 ((wrap64 (Int.tmod (IntKind.u64.wrap ((rd_T48 l0 x9_1).f1.f0)) 64)) + 1)) + (wrap64 (Int.tmod (IntKind.u64.wrap ((rd_T48 l0 x9_1).f1.f1)) 20)))), .int .u8 (Int.tmod ((rd_T48 l0 x9_1).f1.f2) 8)] 49 (0, 0)) (by (with_reducible repeat (first | refine blk_drewN ?_ _ | refine blk_drew ?_ | refine blk_alloc ?_ _)); exact BK222.out)) : gb222 ≠ gb252)); have n8_ := Aside0.mk ((by rw [hg]; exact Nat.ne_of_gt (blk_lt (g := gb222) (o := .cells #[.int .i64 (wrap64 (Int.tmod (IntKind.u64.wrap ((rd_T48 l0 x9_1).f1.f0)) 64)), .int .i64 (wrap64 ((wrap64 ((wrap64 (Int.tmod (IntKind.u64.wrap ((rd_T48 l0 x9_1).f1.f0)) 64)) + 1)) + (wrap64 (Int.tmod (IntKind.u64.wrap ((rd_T48 l0 x9_1).f1.f1)) 20)))), .int .u8 (Int.tmod ((rd_T48 l0 x9_1).f1.f2) 8)] 49 (0, 0)) (by (with_reducible repeat (first | refine blk_drewN ?_ _ | refine blk_drew ?_ | refine blk_alloc ?_ _)); exact BK222.out)) : gb252 ≠ gb222)); clear HO_5; clear HO_12; clear BK222; clear HB; have HO_5 := n0_; have HO_12 := n1_; have BK222 := n2_; have HB := n3_; have BK252 := n4_; have GW252 := n5_; have GE252 := n6_; have NB222_252 := n7_; have NB252_222 := n8_; clear n0_ n1_ n2_ n3_ n4_ n5_ n6_ n7_ n8_; clear hb hbox hg; have hnb123 := NB252_222.out; have hnc123 := NB222_252.out; have hcz124_0 : w122.cell? ⟨gb252, 0, none⟩ = some (.int .i64 0) := (blk_cell BK252.out 0).trans rfl; have hcz124_1 : w122.cell? ⟨gb252, 1, none⟩ = some (.int .i64 0) := (blk_cell BK252.out 1).trans rfl; have hcz124_2 : w122.cell? ⟨gb252, 2, none⟩ = some (.int .u8 0) := (blk_cell BK252.out 2).trans rfl; have hfz124_0 := blk_frozen BK252.out 0; have hfz124_1 := blk_frozen BK252.out 1; have hfz124_2 := blk_frozen BK252.out 2) | ((with_reducible refine gate_callee (f := 18) rfl ?_); refine goesL_ (some 143) rfl rfl Try.func18 (by kernel_rfl) rfl #[.slice Ao120 x5_1.length co120] rfl (by (try simp only [List.map_toArray, List.map_cons, List.map_nil]); first | done | rfl | (simp only [List.length_drop, List.length_take]; rfl)) ?_; (with_reducible refine (region_Check.calls kj21 _ _ x5_1 (some q254) _ ?side1 ?side2 A90.out).mono ?_); (case side1 => refine (Kd.R_reads' (e := 49) (base := w.heap.size) (ok := fun k_ => ((some k_ ≠ (u12 : Value).ownBlock ∧ k_ ≠ gb222) ∧ k_ ≠ gb252)) (n := x5_1.length) (c := co120) ?_).2.2; exact (by (with_reducible repeat (first | apply Kd.R_alloc | apply Kd.R_drewN | apply Kd.R_drew)); exact (Kd.R_mono (Kd.R_far (p := ⟨gb252, 2, none⟩) (Kd.R_far (p := ⟨gb252, 1, none⟩) (Kd.R_far (p := ⟨gb252, 0, none⟩) (Kd.R_mono HO_5.out (fun k_ hk => (⟨hk, hk.2⟩ : _ ∧ k_ ≠ gb252))) (fun _ hk => hk.2) (.int .i64 t248)) (fun _ hk => hk.2) (.int .i64 t249)) (fun _ hk => hk.2) (.int .u8 t250)) (fun _ h_ => h_.1)))); (case side2 => exact (Kd.R_reads' HO_5.out).2.1); rintro e w125 ⟨rfl, hb⟩; refine ⟨_, rfl, ?_⟩; have n0_ := Aside0.mk (Kd.R_below (by (with_reducible repeat (first | apply Kd.R_alloc | apply Kd.R_drewN | apply Kd.R_drew)); exact (Kd.R_mono (Kd.R_far (p := ⟨gb252, 2, none⟩) (Kd.R_far (p := ⟨gb252, 1, none⟩) (Kd.R_far (p := ⟨gb252, 0, none⟩) (Kd.R_mono HO_5.out (fun k_ hk => (⟨hk, hk.2⟩ : _ ∧ k_ ≠ gb252))) (fun _ hk => hk.2) (.int .i64 t248)) (fun _ hk => hk.2) (.int .i64 t249)) (fun _ hk => hk.2) (.int .u8 t250)) (fun _ h_ => h_.1))) hb); have n1_ := Aside0.mk (Kd.R_below (by (with_reducible repeat (first | apply Kd.R_alloc | apply Kd.R_drewN | apply Kd.R_drew)); exact (Kd.R_mono (Kd.R_far (p := ⟨gb252, 2, none⟩) (Kd.R_far (p := ⟨gb252, 1, none⟩) (Kd.R_far (p := ⟨gb252, 0, none⟩) (Kd.R_mono HO_12.out (fun k_ hk => (⟨hk, hk.2⟩ : _ ∧ k_ ≠ gb252))) (fun _ hk => hk.2) (.int .i64 t248)) (fun _ hk => hk.2) (.int .i64 t249)) (fun _ hk => hk.2) (.int .u8 t250)) (fun _ h_ => h_.1))) hb); have n2_ := Aside0.mk (blk_below (g := gb222) (o := .cells #[.int .i64 (wrap64 (Int.tmod (IntKind.u64.wrap ((rd_T48 l0 x9_1).f1.f0)) 64)), .int .i64 (wrap64 ((wrap64 ((wrap64 (Int.tmod (IntKind.u64.wrap ((rd_T48 l0 x9_1).f1.f0)) 64)) + 1)) + (wrap64 (Int.tmod (IntKind.u64.wrap ((rd_T48 l0 x9_1).f1.f1)) 20)))), .int .u8 (Int.tmod ((rd_T48 l0 x9_1).f1.f2) 8)] 49 (0, 0)) (by (with_reducible repeat (first | refine blk_drewN ?_ _ | refine blk_drew ?_ | refine blk_alloc ?_ _)); refine blk_far ?_ NB222_252.out _; (with_reducible repeat (first | refine blk_drewN ?_ _ | refine blk_drew ?_ | refine blk_alloc ?_ _)); refine blk_far ?_ NB222_252.out _; (with_reducible repeat (first | refine blk_drewN ?_ _ | refine blk_drew ?_ | refine blk_alloc ?_ _)); refine blk_far ?_ NB222_252.out _; (with_reducible repeat (first | refine blk_drewN ?_ _ | refine blk_drew ?_ | refine blk_alloc ?_ _)); exact BK222.out) hb); have n3_ := Aside0.mk (blk_below (g := gb252) (o := .cells #[.int .i64 t248, .int .i64 t249, .int .u8 t250] 49 (0, 0)) (by (with_reducible repeat (first | refine blk_drewN ?_ _ | refine blk_drew ?_ | refine blk_alloc ?_ _)); refine blk_put (cs := #[.int .i64 t248, .int .i64 t249, .int .u8 0]) ?_ 2 _ rfl; (with_reducible repeat (first | refine blk_drewN ?_ _ | refine blk_drew ?_ | refine blk_alloc ?_ _)); refine blk_put (cs := #[.int .i64 t248, .int .i64 0, .int .u8 0]) ?_ 1 _ rfl; (with_reducible repeat (first | refine blk_drewN ?_ _ | refine blk_drew ?_ | refine blk_alloc ?_ _)); refine blk_put (cs := #[.int .i64 0, .int .i64 0, .int .u8 0]) ?_ 0 _ rfl; (with_reducible repeat (first | refine blk_drewN ?_ _ | refine blk_drew ?_ | refine blk_alloc ?_ _)); exact BK252.out) hb); have n4_ := Aside0.mk (below_step (by repeat (first | (with_reducible first | exact HB.out | apply below_alloc | apply pw_below_drewN | apply below_drew1 | refine below_set ?_ GE222.out | refine below_set ?_ GE252.out) | exact HB.out)) hb); clear HO_5; clear HO_12; clear BK222; clear BK252; clear HB; have HO_5 := n0_; have HO_12 := n1_; have BK222 := n2_; have BK252 := n3_; have HB := n4_; clear n0_ n1_ n2_ n3_ n4_; (try clear hb); (try clear hb2); (try clear hk); (try clear hi); (try simp only [errW_none, errW_some])))
                                  go_ret
                                  exact ⟨by first | rfl | (simp [errW_none, errW_some] <;> rfl) | (simp [*, errW_none, errW_some] <;> rfl), by repeat (first | (with_reducible first | exact HB.out | apply below_alloc | apply pw_below_drewN | apply below_drew1 | refine below_set ?_ GE222.out | refine below_set ?_ GE252.out) | exact HB.out)⟩
                      · rw [if_neg c21] at H
                        exact absurd H (by simp)
                    · rw [if_neg c20] at H
                      exact absurd H (by simp)
              · rw [if_neg c7] at H
                exact absurd H (by simp)
            · rw [if_neg c6] at H
              exact absurd H (by simp)
          · replace c5 := Bool.eq_false_iff.mpr c5
            subst c5
            have H1 : ((halterlaw13_sure.f kj2).bind fun t219 => (some t219)) = some r := by rw [if_neg (show ¬ (false = true) by decide)] at H; exact H
            clear H
            have H := H1
            clear H1
            replace H := Option.bind_eq_some_iff.mp H
            obtain ⟨t219, A1260, H⟩ := H
            replace H : (some t219) = some r := H
            have A126 := Aside0.mk A1260
            clear A1260
            as_aux_lemma =>
              obtain rfl := Option.some.inj H
              go_wp2_with (first | ((with_reducible refine gate_callee (f := 19) rfl ?_); refine goesL_ (some 159) rfl rfl Try.func19 (by kernel_rfl) rfl #[] rfl (by (try simp only [List.map_toArray, List.map_cons, List.map_nil]); first | done | rfl | (simp only [List.length_drop, List.length_take]; rfl)) ?_; (with_reducible refine (halterlaw13_sure.calls kj2  t219 _ A126.out).mono ?_); rintro e w127 ⟨rfl, hb⟩; refine ⟨_, rfl, ?_⟩; have n0_ := Aside0.mk (Kd.R_below (by (with_reducible repeat (first | apply Kd.R_alloc | apply Kd.R_drewN | apply Kd.R_drew)); exact HO_5.out) hb); have n1_ := Aside0.mk (below_step (by repeat (first | (with_reducible first | exact HB.out | apply below_alloc | apply pw_below_drewN | apply below_drew1) | exact HB.out)) hb); clear HO_5; clear HB; have HO_5 := n0_; have HB := n1_; clear n0_ n1_; (try clear hb); (try clear hb2); (try clear hk); (try clear hi)))
              go_ret
              exact ⟨by first | rfl | (simp [errW_none, errW_some] <;> rfl) | (simp [*, errW_none, errW_some] <;> rfl), by repeat (first | (with_reducible first | exact HB.out | apply below_alloc | apply pw_below_drewN | apply below_drew1) | exact HB.out)⟩

/-- THE ONE PURE STATEMENT of halterlaw13_RegionKeeps. -/
def halterlaw13_RegionKeeps.Pure : Prop := ∀ (l0 : List (S48)) (a1 : Int), (l0.length ≤ maxLen ∧ l0.length * 32 ≤ 140737488351232 ∧ ∀ x ∈ l0, ((Lit.int .i64 x.f0).wf = true ∧ ((Lit.int .i64 x.f1.f0).wf = true ∧ (Lit.int .i64 x.f1.f1).wf = true ∧ (Lit.int .u8 x.f1.f2).wf = true))) → (Lit.int .i64 a1).wf = true → ∃ k, halterlaw13_RegionKeeps.f k l0 a1 = some true

end Go.Proofs.Ytikmanafbkiikaa.XRegion
