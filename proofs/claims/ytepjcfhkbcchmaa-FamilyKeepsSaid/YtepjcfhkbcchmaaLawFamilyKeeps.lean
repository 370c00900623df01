/- The row of FamilyKeeps: for every input it returns true, and what it was given reads as before. -/
import Derived.Test.YtepjcfhkbcchmaaRows
import Derived.Test.YtepjcfhkbcchmaaFamKeepsV
import Derived.Test.YtepjcfhkbcchmaaRead
import Derived.WalkKit
import Derived.ProofKit
import Derived.OpenShut
import Derived.ShutString
import Derived.ChangeOld
import Derived.Below
import Derived.SizedLaws
import Derived.Carry
import Derived.Lib.SmallJoins
import Derived.ChangeSame
import Derived.ChangeVars
import Derived.JoinedOf
import Derived.RowKit
import Derived.RowKitTokens
import Derived.LaidLaws
import Derived.LaidHandle
import Derived.Stop.Joined
import Derived.SevenTiedAt
namespace Go.Proofs.Ytepjcfhkbcchmaa.LawFamilyKeeps
open Go.ChangeShapes Go.WideShapes Go.ChangeAt Go.RowKit Go.Joins Kinds
open Go.ChangeMaps (open_string shut_string)
open Go.Proofs.YtepjcfhkbcchmaaW.PrintWords
set_option linter.unusedVariables false
set_option linter.unusedSimpArgs false
theorem own : ownKnob Try.prog.godebug = none := by kernel_rfl
theorem laidOut : laidOutB Try.prog = true := by kernel_rfl
set_option maxRecDepth 100000 in
theorem rd30 : Rd Try.prog 30 k30 (fun x => ((Lit.int .i64 x.f0).wf = true ∧ (Lit.int .i64 x.f1).wf = true ∧ (Lit.int .i64 x.f2).wf = true)) :=
  ⟨by kernel_rfl, fun {H enc w base sp held fuel cs x} h hw => by
    obtain ⟨xs, n, _, rfl, hl, hxl, hf⟩ := DataW.trod_struct Try.underlying30 h
    have hz_ : cs.length = 3 := hl.trans (by kernel_rfl)
    match xs, hxl with
    | [y0, y1, y2], _ =>
      have hW := hw
      simp only [DataW.weights, Try.underlying30] at hW
      have e0 : DataW.trod enc Try.prog w base sp held n 3 ((cs.drop 0).take (Try.prog.cellsOf 3)) = some y0 := hf 0 _ rfl
      rw [show Try.prog.cellsOf 3 = 1 from by kernel_rfl] at e0
      obtain ⟨a0, K0, W0⟩ := (Rd.int Try.underlying3 (by kernel_rfl)).rd e0 (fun m hm => hW m (DataW.weights_mem_each (j := 0) rfl rfl m hm))
      have e1 : DataW.trod enc Try.prog w base sp held n 3 ((cs.drop 1).take (Try.prog.cellsOf 3)) = some y1 := hf 1 _ rfl
      rw [show Try.prog.cellsOf 3 = 1 from by kernel_rfl] at e1
      obtain ⟨a1, K1, W1⟩ := (Rd.int Try.underlying3 (by kernel_rfl)).rd e1 (fun m hm => hW m (DataW.weights_mem_each (j := 1) rfl rfl m hm))
      have e2 : DataW.trod enc Try.prog w base sp held n 3 ((cs.drop 2).take (Try.prog.cellsOf 3)) = some y2 := hf 2 _ rfl
      rw [show Try.prog.cellsOf 3 = 1 from by kernel_rfl] at e2
      obtain ⟨a2, K2, W2⟩ := (Rd.int Try.underlying3 (by kernel_rfl)).rd e2 (fun m hm => hW m (DataW.weights_mem_each (j := 2) rfl rfl m hm))
      rw [last_at (o := 2) (s := 1) hz_] at K2
      exact ⟨⟨a0, a1, a2⟩, (show k30.K w _ cs from ⟨_, cs.drop 1, (List.drop_zero).symm.trans (split_at cs 0 1), K0, ⟨_, cs.drop 2, split_at cs 1 1, K1, K2⟩⟩), ⟨W0, W1, W2⟩⟩⟩
set_option maxRecDepth 100000 in
set_option maxHeartbeats 2000000 in
theorem lifted (os : Os) (started : os.Started) (H : Type) (enc : TypeId × Value → H) :
    ReturnsInHanded {} Try.checked os 3 .any (Rows.familyKeepsSpec.pre6 enc Try.prog Try.f3 Rows.familyKeepsRow.domain false) (Rows.familyKeepsSpec.post enc Try.prog Try.f3 false true false false) := by
  refine returnsInHanded_of_change_sized (C := Try.checked) own started (by kernel_rfl) Try.func3
    (ChangeSpec.witness6 (enc := enc) (C := Try.checked) false ⟨#[], #[.slice none 0 0], []⟩ 8 (by kernel_rfl) (by kernel_rfl) (by kernel_rfl) (by kernel_rfl)) ?_
  intro W base args ds gs before hval0 hW hcnd hsz0 _
  have hsz : (DataW.weightsEach Try.prog (Try.f3.params.toList ++ Rows.familyKeepsSpec.plain.varTypes Try.prog) (ds ++ gs)).all (· ≤ reachBytes) = true := hsz0
  have hval : ∀ (j : Nat) t v, Try.f3.params[j]? = some t → args[j]? = some v → Value.okWide Try.prog W .any base t v := hval0
  have hW' := hW
  obtain ⟨p, q, hA0, hV0, rfl, hfz, hnd⟩ := hW
  have hA : DataW.TrodAll enc Try.prog W 0 (fun _ => true) true Try.f3.params.toList args.toList ds p := hA0
  rw [Try.params3] at hA hval hsz
  obtain ⟨v0, vs0, d0, ds0, p0, q0, hargs, rfl, rfl, h0, r0⟩ := trodAll_cons hA
  obtain ⟨rfl, rfl, rfl⟩ := trodAll_nil r0
  obtain rfl : args = #[v0] := by cases args; simp_all
  obtain ⟨rfl, rfl⟩ := trodVars_none hV0
  have k0 := h0
  have lt0 : ∀ x ∈ p0, x.block < W.heap.size := by obtain ⟨m, hm⟩ := k0; exact DataW.trod_lt m _ _ _ hm
  obtain ⟨A0, c0, l0, rfl, hc0, hr0, wf0⟩ := arg_slice Try.underlying22 (Rd.slice (B := 24) Try.underlying22 (by kernel_rfl) rd30 (by kernel_rfl)) (hval 0 22 v0 rfl rfl) h0 (weigh hsz (j := 0) (t := 22) rfl rfl)
  refine (familyKeeps A0 c0 l0 W hr0).mono fun e W' ⟨he, bel0⟩ => ?_
  subst he
  have bel : Below W.heap.size W W' := bel0
  exact ⟨_, rfl, _, _, _, [], _, [], hW', trodAll_mk1 (shut_bool Try.underlying4 _), (trodAll_cons_mk (Below.trod laidOut (by kernel_rfl) (of_decide_eq_true (by kernel_rfl)) k0 bel lt0) trodAll_mk0), rfl, bel.frame _, fun h => by cases h⟩
theorem over : Rows.familyKeepsRow.holds Try.pinned (OpenSpec.ofChange Rows.familyKeepsSpec) :=
  OpenClaim.holds_of_wide 3 Try.f3 rfl rfl rfl rfl rfl rfl rfl ⟨rfl, rfl, rfl, rfl, rfl⟩ rfl rfl rfl rfl rfl (by kernel_rfl) Try.func3 (by kernel_rfl)
    (of_decide_eq_true (by kernel_rfl)) (by unfold Func.isWrapper; first | (rw [if_pos (by decide +kernel)]; kernel_rfl) | (rw [if_neg (by decide +kernel)]; exact ⟨rfl, rfl⟩) | (rw [if_neg (of_decide_eq_false (by kernel_rfl))]; exact ⟨rfl, rfl⟩))
    (fun os started H enc _ => lifted os started H enc)
theorem proved : Rows.FamilyKeepsSaid := over
#print axioms proved
end Go.Proofs.Ytepjcfhkbcchmaa.LawFamilyKeeps
namespace Go.Proofs.Ytepjcfhkbcchmaa
/-- The statement, under a short name, for the claim. -/
theorem familyKeeps_holds : Rows.FamilyKeepsSaid := LawFamilyKeeps.proved
end Go.Proofs.Ytepjcfhkbcchmaa
