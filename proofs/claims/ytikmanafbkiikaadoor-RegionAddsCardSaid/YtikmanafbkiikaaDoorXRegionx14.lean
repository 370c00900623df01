-- Written by xprint.py (a program of this claim's author) by means of the kit's print. Not trusted: Lean checks it.
import Derived.Test.YtikmanafbkiikaaDoorAs
import Derived.Lib.Hide
import Derived.Test.YtikmanafbkiikaaDoorXRegionx0
namespace Go.Proofs.YtikmanafbkiikaaDoor.XRegion
open Go.RowKit Go.Proofs.YtikmanafbkiikaaDoorW.PrintWords Go.Proofs.YtikmanafbkiikaaDoorW.PrintLast Go.Proofs.YtikmanafbkiikaaDoorW.PrintMore
attribute [local go_sem] max2_int min2_int max_two min_two max_three min_three max_four min_four   -- for this text's walks alone
set_option linter.unusedVariables false
set_option linter.unusedSimpArgs false

-- EXTERN halterlaw13_num
/-! ### halterlaw13_num: function 51, by hand -/
def halterlaw13_num.f (a0 : Option Int) : Option Int := some (a0.getD 0)
set_option maxHeartbeats 1000000 in
theorem halterlaw13_num.calls (a0 : Option Int) (r : Int) (w : World) (hE : EW w) (h : halterlaw13_num.f a0 = some r) :
    Calls Tryd.prog 51 #[errW a0] w fun e w' => e = .returned (.int .i64 r) ∧ Below w.heap.size w w' := by
  unfold halterlaw13_num.f at h
  obtain rfl := Option.some.inj h
  clear h
  cases a0 with
  | none =>
    rw [errW_none]
    go_enter Tryd.func51, Tryd.ntmps51
    go_wp2
    go_ret
    exact ⟨rfl, by first | exact (Below.refl _ _).alloc (Nat.le_refl _) _ | exact Below.refl _ _⟩
  | some c =>
    rw [errW_some]
    have hz := hE.pos
    have hgA : EW (w.alloc (.cells #[.int .i64 0] 123)) := hE.alloc _
    have hgB : EW ((w.alloc (.cells #[.iface 123 (.int .i64 c)] 25)).alloc (.cells #[.int .i64 0] 123)) := (hE.alloc _).alloc _
    go_enter Tryd.func51, Tryd.ntmps51
    go_wp2_with fail
    refine (as_hit _ _ (.int .i64 0) _ (by first | exact hgA | exact hgB) (by simp) (by simp)).mono ?_
    rintro ev w' ⟨rfl, rfl⟩
    go_wp2
    go_ret
    exact ⟨rfl, by repeat (first | exact Below.refl _ _ | refine ba ?_ _ | refine bs ?_ (by simp) _)⟩

end Go.Proofs.YtikmanafbkiikaaDoor.XRegion
