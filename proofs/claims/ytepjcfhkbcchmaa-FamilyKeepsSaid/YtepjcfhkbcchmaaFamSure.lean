/- Layer 24's 'sure' answers true. No program in sight. -/
import Derived.Test.YtepjcfhkbcchmaaFamAns
namespace Go.Proofs.Ytepjcfhkbcchmaa.FamEv
set_option linter.unusedSimpArgs false
set_option linter.unusedVariables false
open Go Go.RowKit Go.Proofs.Ytepjcfhkbcchmaa Go.Proofs.Ytepjcfhkbcchmaa.XFam

theorem addA_ok {l : List M} {p q : Int} (h1 : (fnd l p).isSome = false) (h2 : aliveP l q = true) (h3 : l.length < 16) : addA l p q = (srt (l ++ [⟨p, q, false, 0⟩]), none) := by
  unfold addA
  rw [h1, if_neg (show ¬ (false = true) by decide), if_pos h2, if_neg (by omega)]
theorem sure_ev : halterlaw24_sure.f 100 = some true := by
  have o1 : Ok [oneM] := ok_of (by decide)
  have o2 : Ok [oneM, ⟨2, 1, false, 0⟩] := ok_of (by decide)
  have o3 : Ok [oneM, ⟨2, 1, false, 0⟩, ⟨3, 2, false, 0⟩] := ok_of (by decide)
  have o4 : Ok [oneM, ⟨2, 1, true, 256⟩, ⟨3, 1, false, 0⟩] := ok_of (by decide)
  have o5 : Ok [oneM, ⟨3, 1, false, 0⟩] := ok_of (by decide)
  have e1 : family_Add.f 100 [oneM] 2 1 = some ([oneM, ⟨2, 1, false, 0⟩], none) := by
    rw [add_yes o1 (by decide) 2 1 (by decide), addA_ok (by decide) (by decide) (by decide), srt_id (show Sorted ([oneM] ++ [⟨2, 1, false, 0⟩]) from o2.base.srt)]
    rfl
  have e2 : family_Add.f 100 [oneM, ⟨2, 1, false, 0⟩] 3 2 = some ([oneM, ⟨2, 1, false, 0⟩, ⟨3, 2, false, 0⟩], none) := by
    rw [add_yes o2 (by decide) 3 2 (by decide), addA_ok (by decide) (by decide) (by decide), srt_id (show Sorted ([oneM, ⟨2, 1, false, 0⟩] ++ [⟨3, 2, false, 0⟩]) from o3.base.srt)]
    rfl
  have e3 : family_Exit.f 100 [oneM, ⟨2, 1, false, 0⟩, ⟨3, 2, false, 0⟩] 2 256 = some ([oneM, ⟨2, 1, true, 256⟩, ⟨3, 1, false, 0⟩], none) := by
    rw [exit_yes o3 (by decide), if_pos (by decide), if_neg (by decide)]
    rfl
  have e4 : family_Reap.f 100 [oneM, ⟨2, 1, true, 256⟩, ⟨3, 1, false, 0⟩] 2 = some ([oneM, ⟨3, 1, false, 0⟩], none) := by
    rw [reap_yes o4 (by decide)]
    rfl
  have e5 : family_Find.f 100 [oneM, ⟨3, 1, false, 0⟩] 3 = some (3, 1, false, 0, none) := by
    rw [find_yes o5 (by decide)]
    rfl
  have e6 : family_Children.f 100 [oneM, ⟨3, 1, false, 0⟩] 1 = some [3] := by
    rw [kids_yes o5 (by decide)]
    rfl
  have e7 : halterlaw24_ints.f 100 [3] [3] = some true := by decide +kernel
  unfold halterlaw24_sure.f
  rw [show ([(⟨1, 0, false, 0⟩ : S25)] : List S25) = [oneM] from rfl]
  simp [e1, e2, e3, e4, e5, e6, e7]
end Go.Proofs.Ytepjcfhkbcchmaa.FamEv
