/- The row of RegionKeeps: for every input it returns true, and what it was given reads as before. -/
import Derived.Test.YtikmanafbkiikaaRows
import Derived.Test.YtikmanafbkiikaaXRegionx11
import Derived.Test.YtikmanafbkiikaaPureRegionKeeps
import Derived.Test.YtikmanafbkiikaaRead
import Derived.WalkKit
import Derived.ProofKit
import Derived.OpenShut
import Derived.ShutString
import Derived.ChangeOld
import Derived.Below
import Derived.SizedLaws
import Derived.Carry
import Derived.Lib.SmallJoins
import Derived.ChangeSame
import Derived.ChangeVars
import Derived.JoinedOf
import Derived.RowKit
import Derived.RowKitTokens
import Derived.LaidLaws
import Derived.LaidHandle
import Derived.Stop.Joined
import Derived.SevenTiedAt
namespace Go.Proofs.Ytikmanafbkiikaa.LawRegionKeeps
open Go.ChangeShapes Go.WideShapes Go.ChangeAt Go.RowKit Go.Joins Go.Proofs.Ytikmanafbkiikaa.XRegion
open Go.ChangeMaps (open_string shut_string)
set_option linter.unusedVariables false
set_option linter.unusedSimpArgs false
theorem own : ownKnob Try.prog.godebug = none := by kernel_rfl
theorem laidOut : laidOutB Try.prog = true := by kernel_rfl
set_option maxRecDepth 100000 in
theorem rd46 : Rd Try.prog 46 k46 (fun x => ((Lit.int .i64 x.f0).wf = true ∧ (Lit.int .i64 x.f1).wf = true ∧ (Lit.int .u8 x.f2).wf = true)) :=
  ⟨by kernel_rfl, fun {H enc w base sp held fuel cs x} h hw => by
    obtain ⟨xs, n, _, rfl, hl, hxl, hf⟩ := DataW.trod_struct Try.underlying46 h
    have hz_ : cs.length = 3 := hl.trans (by kernel_rfl)
    match xs, hxl with
    | [y0, y1, y2], _ =>
      have hW := hw
      simp only [DataW.weights, Try.underlying46] at hW
      have e0 : DataW.trod enc Try.prog w base sp held n 3 ((cs.drop 0).take (Try.prog.cellsOf 3)) = some y0 := hf 0 _ rfl
      rw [show Try.prog.cellsOf 3 = 1 from by kernel_rfl] at e0
      obtain ⟨a0, K0, W0⟩ := (Rd.int Try.underlying3 (by kernel_rfl)).rd e0 (fun m hm => hW m (DataW.weights_mem_each (j := 0) rfl rfl m hm))
      have e1 : DataW.trod enc Try.prog w base sp held n 3 ((cs.drop 1).take (Try.prog.cellsOf 3)) = some y1 := hf 1 _ rfl
      rw [show Try.prog.cellsOf 3 = 1 from by kernel_rfl] at e1
      obtain ⟨a1, K1, W1⟩ := (Rd.int Try.underlying3 (by kernel_rfl)).rd e1 (fun m hm => hW m (DataW.weights_mem_each (j := 1) rfl rfl m hm))
      have e2 : DataW.trod enc Try.prog w base sp held n 5 ((cs.drop 2).take (Try.prog.cellsOf 5)) = some y2 := hf 2 _ rfl
      rw [show Try.prog.cellsOf 5 = 1 from by kernel_rfl] at e2
      obtain ⟨a2, K2, W2⟩ := (Rd.int Try.underlying5 (by kernel_rfl)).rd e2 (fun m hm => hW m (DataW.weights_mem_each (j := 2) rfl rfl m hm))
      rw [last_at (o := 2) (s := 1) hz_] at K2
      exact ⟨⟨a0, a1, a2⟩, (show k46.K w _ cs from ⟨_, cs.drop 1, (List.drop_zero).symm.trans (split_at cs 0 1), K0, ⟨_, cs.drop 2, split_at cs 1 1, K1, K2⟩⟩), W0, W1, W2⟩⟩
set_option maxRecDepth 100000 in
theorem rd48 : Rd Try.prog 48 k48 (fun x => ((Lit.int .i64 x.f0).wf = true ∧ ((Lit.int .i64 x.f1.f0).wf = true ∧ (Lit.int .i64 x.f1.f1).wf = true ∧ (Lit.int .u8 x.f1.f2).wf = true))) :=
  ⟨by kernel_rfl, fun {H enc w base sp held fuel cs x} h hw => by
    obtain ⟨xs, n, _, rfl, hl, hxl, hf⟩ := DataW.trod_struct Try.underlying48 h
    have hz_ : cs.length = 4 := hl.trans (by kernel_rfl)
    match xs, hxl with
    | [y0, y1], _ =>
      have hW := hw
      simp only [DataW.weights, Try.underlying48] at hW
      have e0 : DataW.trod enc Try.prog w base sp held n 3 ((cs.drop 0).take (Try.prog.cellsOf 3)) = some y0 := hf 0 _ rfl
      rw [show Try.prog.cellsOf 3 = 1 from by kernel_rfl] at e0
      obtain ⟨a0, K0, W0⟩ := (Rd.int Try.underlying3 (by kernel_rfl)).rd e0 (fun m hm => hW m (DataW.weights_mem_each (j := 0) rfl rfl m hm))
      have e1 : DataW.trod enc Try.prog w base sp held n 46 ((cs.drop 1).take (Try.prog.cellsOf 46)) = some y1 := hf 1 _ rfl
      rw [show Try.prog.cellsOf 46 = 3 from by kernel_rfl] at e1
      obtain ⟨a1, K1, W1⟩ := rd46.rd e1 (fun m hm => hW m (DataW.weights_mem_each (j := 1) rfl rfl m hm))
      rw [last_at (o := 1) (s := 3) hz_] at K1
      exact ⟨⟨a0, a1⟩, (show k48.K w _ cs from ⟨_, cs.drop 1, (List.drop_zero).symm.trans (split_at cs 0 1), K0, K1⟩), W0, W1⟩⟩
set_option maxRecDepth 100000 in
set_option maxHeartbeats 2000000 in
theorem lifted (os : Os) (started : os.Started) (H : Type) (enc : TypeId × Value → H) :
    ReturnsInHanded {} Try.checked os 4 .any (Rows.regionKeepsSpec.pre6 enc Try.prog Try.f4 Rows.regionKeepsRow.domain false) (Rows.regionKeepsSpec.post enc Try.prog Try.f4 false true false false) := by
  refine returnsInHanded_of_change_sized (C := Try.checked) own started (by kernel_rfl) Try.func4
    (ChangeSpec.witness6 (enc := enc) (C := Try.checked) false ⟨#[], #[.slice none 0 0, .int .i64 0], []⟩ 8 (by kernel_rfl) (by kernel_rfl) (by kernel_rfl) (by kernel_rfl)) ?_
  intro W base args ds gs before hval0 hW hcnd hsz0 _
  have hsz : (DataW.weightsEach Try.prog (Try.f4.params.toList ++ Rows.regionKeepsSpec.plain.varTypes Try.prog) (ds ++ gs)).all (· ≤ reachBytes) = true := hsz0
  have hval : ∀ (j : Nat) t v, Try.f4.params[j]? = some t → args[j]? = some v → Value.okWide Try.prog W .any base t v := hval0
  have hW' := hW
  obtain ⟨p, q, hA0, hV0, rfl, hfz, hnd⟩ := hW
  have hA : DataW.TrodAll enc Try.prog W 0 (fun _ => true) true Try.f4.params.toList args.toList ds p := hA0
  rw [Try.params4] at hA hval hsz
  obtain ⟨v0, vs0, d0, ds0, p0, q0, hargs, rfl, rfl, h0, r0⟩ := trodAll_cons hA
  obtain ⟨v1, vs1, d1, ds1, p1, q1, rfl, rfl, rfl, h1, r1⟩ := trodAll_cons r0
  obtain ⟨rfl, rfl, rfl⟩ := trodAll_nil r1
  obtain rfl : args = #[v0, v1] := by cases args; simp_all
  obtain ⟨rfl, rfl⟩ := trodVars_none hV0
  have k0 := h0
  have lt0 : ∀ x ∈ p0, x.block < W.heap.size := by obtain ⟨m, hm⟩ := k0; exact DataW.trod_lt m _ _ _ hm
  obtain ⟨A0, c0, l0, rfl, hc0, hr0, wf0⟩ := arg_slice Try.underlying43 (Rd.slice (B := 32) Try.underlying43 (by kernel_rfl) rd48 (by kernel_rfl)) (hval 0 43 v0 rfl rfl) h0 (weigh hsz (j := 0) (t := 43) rfl rfl)
  have k1 := h1
  have lt1 : ∀ x ∈ p1, x.block < W.heap.size := by obtain ⟨m, hm⟩ := k1; exact DataW.trod_lt m _ _ _ hm
  obtain ⟨a1, rfl, rfl, _, wf1⟩ := open_int Try.underlying3 (hval 1 3 v1 rfl rfl) h1
  obtain ⟨k, h⟩ := Pure.RegionKeeps l0 a1 wf0 wf1
  refine (halterlaw13_RegionKeeps.calls k A0 c0 l0 a1 true W hr0 hc0  h).mono fun e W' ⟨he, bel0⟩ => ?_
  subst he
  have bel : Below W.heap.size W W' := bel0
  exact ⟨_, rfl, _, _, _, [], _, [], hW', trodAll_mk1 (shut_bool Try.underlying4 _), (trodAll_cons_mk (Below.trod laidOut (by kernel_rfl) (of_decide_eq_true (by kernel_rfl)) k0 bel lt0) (trodAll_cons_mk (Below.trod laidOut (by kernel_rfl) (of_decide_eq_true (by kernel_rfl)) k1 bel lt1) trodAll_mk0)), rfl, bel.frame _, fun h => by cases h⟩
theorem over : Rows.regionKeepsRow.holds Try.pinned (OpenSpec.ofChange Rows.regionKeepsSpec) :=
  OpenClaim.holds_of_wide 4 Try.f4 rfl rfl rfl rfl rfl rfl rfl ⟨rfl, rfl, rfl, rfl, rfl⟩ rfl rfl rfl rfl rfl (by kernel_rfl) Try.func4 (by kernel_rfl)
    (of_decide_eq_true (by kernel_rfl)) (by unfold Func.isWrapper; first | (rw [if_pos (by decide +kernel)]; kernel_rfl) | (rw [if_neg (by decide +kernel)]; exact ⟨rfl, rfl⟩) | (rw [if_neg (of_decide_eq_false (by kernel_rfl))]; exact ⟨rfl, rfl⟩))
    (fun os started H enc _ => lifted os started H enc)
theorem proved : Rows.RegionKeepsSaid := over
#print axioms proved
end Go.Proofs.Ytikmanafbkiikaa.LawRegionKeeps
namespace Go.Proofs.Ytikmanafbkiikaa
/-- The statement, under a short name, for the claim. -/
theorem regionKeeps_holds : Rows.RegionKeepsSaid := LawRegionKeeps.proved
end Go.Proofs.Ytikmanafbkiikaa
