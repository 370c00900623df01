/- num: an error's number: of nil 0, of an Errno itself. The condition: errors.errorType holds the handle of the type error. -/
import Derived.Test.YtepjcfhkbcchmaaDoorAs
namespace Go.Proofs.YtepjcfhkbcchmaaDoor
set_option linter.unusedSimpArgs false
set_option linter.unusedVariables false
open Go.RowKit Go.Extern.Stop Go.Stop Go.Extern

theorem num_calls (e : Option Int) (w : World) (hg : EW w) :
    Calls Tryd.prog 41 #[errW e] w fun ev w' => ev = .returned (.int .i64 (numOf e)) ∧ Below w.heap.size w w' := by
  cases e with
  | none =>
    rw [errW_none]
    go_enter Tryd.func41, Tryd.ntmps41
    go_wp2
    go_ret
    exact ⟨rfl, by first | exact (Below.refl _ _).alloc (Nat.le_refl _) _ | exact Below.refl _ _⟩
  | some c =>
    rw [errW_some]
    have hz := hg.pos
    have hgA : EW (w.alloc (.cells #[.int .i64 0] 110)) := hg.alloc _
    have hgB : EW ((w.alloc (.cells #[.iface 110 (.int .i64 c)] 37)).alloc (.cells #[.int .i64 0] 110)) := (hg.alloc _).alloc _
    go_enter Tryd.func41, Tryd.ntmps41
    go_wp2_with fail
    refine (as_hit _ _ (.int .i64 0) _ (by first | exact hgA | exact hgB) (by simp) (by simp)).mono ?_
    rintro ev w' ⟨rfl, rfl⟩
    go_wp2
    go_ret
    exact ⟨rfl, by repeat (first | exact Below.refl _ _ | refine ba ?_ _ | refine bs ?_ (by simp) _)⟩
end Go.Proofs.YtepjcfhkbcchmaaDoor
