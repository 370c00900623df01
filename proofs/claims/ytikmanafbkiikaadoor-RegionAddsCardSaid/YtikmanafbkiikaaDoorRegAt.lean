/- region.At, in plain words. -/
import Derived.Test.YtikmanafbkiikaaDoorXRegionx16
import Derived.Test.YtikmanafbkiikaaDoorRegEv2
namespace Go.Proofs.YtikmanafbkiikaaDoor.XRegion
set_option linter.unusedSimpArgs false
set_option linter.unusedVariables false
set_option linter.unusedVariables false
set_option linter.unusedSimpArgs false
open Go.RowKit Go.Proofs.YtikmanafbkiikaaDoorW.PrintWords Go.Proofs.YtikmanafbkiikaaDoorW.PrintLast
/-! ### At, Size -/
theorem atloop_ev (l : List G) (q : Int) : ∀ (t p : List G), p ++ t = l → l.length ≤ 4096 → Ev (fun k => region_At.l0 k q l (l.length : Int) (p.length : Int)) (match t.find? fun r => decide (r.f0 ≤ q ∧ q < r.f1) with | none => (0, 0, 0, false) | some r => (r.f0, r.f1, r.f2, true)) := by
  intro t
  induction t with
  | nil =>
    intro p hp hl
    refine Ev.step (fun k => by rw [region_At.l0]) ?_
    have : ¬ ((p.length : Int) < (l.length : Int)) := by rw [← hp]; simp
    simp only [if_neg this, List.find?_nil]
    exact Ev.now _
  | cons r t ih =>
    intro p hp hl
    refine Ev.step (fun k => by rw [region_At.l0]) ?_
    have h1 : (p.length : Int) < (l.length : Int) := by rw [← hp]; simp; omega
    have h0 : (0 : Int) ≤ (p.length : Int) := by omega
    have hr : rd_T109 l (p.length : Int) = r := by rw [← hp]; exact rd_here p r t
    have hw : wrap64 ((p.length : Int) + 1) = ((p ++ [r]).length : Int) := by
      rw [wsm (by omega) (by omega)]; simp
    have hih := ih (p ++ [r]) (by rw [← hp]; simp) hl
    simp only [if_pos h1, if_pos h0, hr, hw, List.find?_cons]
    by_cases c1 : q ≥ r.f0
    · by_cases c2 : q < r.f1
      · simp only [if_pos c1, if_pos c2, decide_eq_true (show r.f0 ≤ q ∧ q < r.f1 from ⟨c1, c2⟩)]; exact Ev.now _
      · simp only [if_pos c1, if_neg c2, decide_eq_false (show ¬ (r.f0 ≤ q ∧ q < r.f1) from fun e => c2 e.2)]; exact hih
    · simp only [if_neg c1, decide_eq_false (show ¬ (r.f0 ≤ q ∧ q < r.f1) from fun e => c1 e.1)]; exact hih
end Go.Proofs.YtikmanafbkiikaaDoor.XRegion
