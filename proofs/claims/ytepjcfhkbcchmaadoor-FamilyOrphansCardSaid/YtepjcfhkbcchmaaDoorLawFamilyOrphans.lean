/- The row of FamilyOrphans: for every input it returns true, and what it was given reads as before. Its condition: the variable errors.errorType holds what the program lays into it; the card ties it. -/
import Derived.Test.YtepjcfhkbcchmaaDoorRows
import Derived.Test.YtepjcfhkbcchmaaDoorFamOrphV
import Derived.Test.YtepjcfhkbcchmaaDoorRead
import Derived.Test.YtepjcfhkbcchmaaDoorCards
import Derived.Test.YtepjcfhkbcchmaaDoorTie
import Derived.WalkKit
import Derived.ProofKit
import Derived.OpenShut
import Derived.ShutString
import Derived.ChangeOld
import Derived.Below
import Derived.SizedLaws
import Derived.Carry
import Derived.Lib.SmallJoins
import Derived.ChangeSame
import Derived.ChangeVars
import Derived.JoinedOf
import Derived.RowKit
import Derived.RowKitTokens
import Derived.LaidLaws
import Derived.LaidHandle
import Derived.Stop.Joined
import Derived.SevenTiedAt
namespace Go.Proofs.YtepjcfhkbcchmaaDoor.LawFamilyOrphans
open Go.ChangeShapes Go.WideShapes Go.ChangeAt Go.RowKit Go.Joins XFam
open Go.ChangeMaps (open_string shut_string)
open Go.Proofs.YtepjcfhkbcchmaaDoorW.PrintWords
set_option linter.unusedVariables false
set_option linter.unusedSimpArgs false
theorem own : ownKnob Tryd.prog.godebug = none := by kernel_rfl
theorem laidOut : laidOutB Tryd.prog = true := by kernel_rfl
set_option maxRecDepth 100000 in
theorem rd68 : Rd Tryd.prog 68 k68 (fun x => ((Lit.int .i64 x.f0).wf = true ∧ (Lit.int .i64 x.f1).wf = true ∧ True ∧ (Lit.int .u32 x.f3).wf = true)) :=
  ⟨by kernel_rfl, fun {H enc w base sp held fuel cs x} h hw => by
    obtain ⟨xs, n, _, rfl, hl, hxl, hf⟩ := DataW.trod_struct Tryd.underlying68 h
    have hz_ : cs.length = 4 := hl.trans (by kernel_rfl)
    match xs, hxl with
    | [y0, y1, y2, y3], _ =>
      have hW := hw
      simp only [DataW.weights, Tryd.underlying68] at hW
      have e0 : DataW.trod enc Tryd.prog w base sp held n 3 ((cs.drop 0).take (Tryd.prog.cellsOf 3)) = some y0 := hf 0 _ rfl
      rw [show Tryd.prog.cellsOf 3 = 1 from by kernel_rfl] at e0
      obtain ⟨a0, K0, W0⟩ := (Rd.int Tryd.underlying3 (by kernel_rfl)).rd e0 (fun m hm => hW m (DataW.weights_mem_each (j := 0) rfl rfl m hm))
      have e1 : DataW.trod enc Tryd.prog w base sp held n 3 ((cs.drop 1).take (Tryd.prog.cellsOf 3)) = some y1 := hf 1 _ rfl
      rw [show Tryd.prog.cellsOf 3 = 1 from by kernel_rfl] at e1
      obtain ⟨a1, K1, W1⟩ := (Rd.int Tryd.underlying3 (by kernel_rfl)).rd e1 (fun m hm => hW m (DataW.weights_mem_each (j := 1) rfl rfl m hm))
      have e2 : DataW.trod enc Tryd.prog w base sp held n 4 ((cs.drop 2).take (Tryd.prog.cellsOf 4)) = some y2 := hf 2 _ rfl
      rw [show Tryd.prog.cellsOf 4 = 1 from by kernel_rfl] at e2
      obtain ⟨a2, K2, W2⟩ := (Rd.bool Tryd.underlying4 (by kernel_rfl)).rd e2 (fun m hm => hW m (DataW.weights_mem_each (j := 2) rfl rfl m hm))
      have e3 : DataW.trod enc Tryd.prog w base sp held n 22 ((cs.drop 3).take (Tryd.prog.cellsOf 22)) = some y3 := hf 3 _ rfl
      rw [show Tryd.prog.cellsOf 22 = 1 from by kernel_rfl] at e3
      obtain ⟨a3, K3, W3⟩ := (Rd.int Tryd.underlying22 (by kernel_rfl)).rd e3 (fun m hm => hW m (DataW.weights_mem_each (j := 3) rfl rfl m hm))
      rw [last_at (o := 3) (s := 1) hz_] at K3
      exact ⟨⟨a0, a1, a2, a3⟩, (show k68.K w _ cs from ⟨_, cs.drop 1, (List.drop_zero).symm.trans (split_at cs 0 1), K0, ⟨_, cs.drop 2, split_at cs 1 1, K1, ⟨_, cs.drop 3, split_at cs 2 1, K2, K3⟩⟩⟩), ⟨W0, W1, W2, W3⟩⟩⟩
theorem et : Tryd.prog.globalNamed "errors.errorType" = some 0 := by kernel_rfl
theorem rt : (Tryd.prog.cutTypes.find? (·.1 == "internal/reflectlite.rtype")).map (·.2) = some 177 := by kernel_rfl
theorem oneRow : ((List.range 252).filter fun t => Tryd.prog.rowNamed t [101, 114, 114, 111, 114]) = [37] := by kernel_rfl
theorem size : Tryd.prog.types.size = 252 := by kernel_rfl
theorem handle_of_laid {W : World} (h : laidMetH Tryd.prog Rows.familyOrphansRow.laid W) : EW W := by
  unfold EW
  have h' : laidMet Tryd.prog [] W ∧ handlesMet Tryd.prog Rows.familyOrphansRow.laid W := h
  obtain ⟨name, u, ty, e1, e2, e3, e4, e5⟩ := h'.2 _ (List.mem_singleton.2 rfl)
  have en : name = [101, 114, 114, 111, 114] := (Option.some.inj e1).symm
  subst en
  obtain rfl := Option.some.inj (rt.symm.trans e2)
  have hm : ty ∈ (List.range 252).filter fun t => Tryd.prog.rowNamed t [101, 114, 114, 111, 114] := List.mem_filter.2 ⟨List.mem_range.2 (by rw [← size]; exact e3), e4⟩
  rw [oneRow] at hm
  obtain rfl := List.mem_singleton.1 hm
  have hh : typeHandle Tryd.prog 37 = .pointer (some ⟨7, 37, none⟩) := by kernel_rfl
  rw [hh] at e5
  simpa using World.var?_cell et e5 0
/-- A world that meets the condition: the settled one, the variable's cell laid. -/
noncomputable def laidWorld (os : Os) : World :=
  let w0 := World.holding Tryd.prog os ⟨#[], #[], []⟩
  { w0 with heap := w0.heap.modify 0 fun
      | .cells _ t frozen => .cells #[.iface 177 (.agg #[.pointer (some ⟨7, 37, none⟩)])] t frozen
      | o => o }
theorem laidWorld_met (os : Os) (args : Array Value) : laidMetH Tryd.prog Rows.familyOrphansRow.laid ((laidWorld os).forCall (fun _ _ => 0) ⟨#[], args, []⟩).memory :=
  laidMetH_of_parts (laidMet_nil _ _) (by kernel_rfl)
set_option maxRecDepth 100000 in
set_option maxHeartbeats 2000000 in
theorem lifted (os : Os) (started : os.Started) (H : Type) (enc : TypeId × Value → H) :
    ReturnsInHanded {} Tryd.checked os 5 .any (fun w args => (Rows.familyOrphansSpec.pre enc Tryd.prog Tryd.f5 Rows.familyOrphansRow.domain false w args ∧ laidMetH Tryd.prog Rows.familyOrphansRow.laid w) ∧ sizedMet enc Tryd.prog Tryd.f5 (OpenSpec.ofChange Rows.familyOrphansSpec) false w args)
      (Rows.familyOrphansSpec.post enc Tryd.prog Tryd.f5 false true false false) := by
  refine returnsInHanded_of_change_and (C := Tryd.checked) (X := fun w _ => laidMetH Tryd.prog Rows.familyOrphansRow.laid w) (fun _ _ _ hh h => h.of_heap hh) own started (by kernel_rfl) Tryd.func5
    (ChangeSpec.witness_at (enc := enc) (C := Tryd.checked) (os := os) (X := fun w _ => laidMetH Tryd.prog Rows.familyOrphansRow.laid w) false (laidWorld os) #[.slice none 0 0, .int .i64 0] 8 rfl (by kernel_rfl) (by kernel_rfl) (by kernel_rfl) (by kernel_rfl) (by kernel_rfl) (laidWorld_met os _)) ?_
  intro W base args ds gs before hval0 hW _ hsz0 hL _
  have hsz : (DataW.weightsEach Tryd.prog (Tryd.f5.params.toList ++ Rows.familyOrphansSpec.plain.varTypes Tryd.prog) (ds ++ gs)).all (· ≤ reachBytes) = true := hsz0
  have hval : ∀ (j : Nat) t v, Tryd.f5.params[j]? = some t → args[j]? = some v → Value.okWide Tryd.prog W .any base t v := hval0
  have hW' := hW
  obtain ⟨p, q, hA0, hV0, rfl, hfz, hnd⟩ := hW
  have hA : DataW.TrodAll enc Tryd.prog W 0 (fun _ => true) true Tryd.f5.params.toList args.toList ds p := hA0
  rw [Tryd.params5] at hA hval hsz
  obtain ⟨v0, vs0, d0, ds0, p0, q0, hargs, rfl, rfl, h0, r0⟩ := trodAll_cons hA
  obtain ⟨v1, vs1, d1, ds1, p1, q1, rfl, rfl, rfl, h1, r1⟩ := trodAll_cons r0
  obtain ⟨rfl, rfl, rfl⟩ := trodAll_nil r1
  obtain rfl : args = #[v0, v1] := by cases args; simp_all
  have hV : DataW.TrodVars enc Tryd.prog W (fun _ => true) Rows.familyOrphansSpec.vars gs q := hV0
  obtain ⟨rfl, rfl⟩ : gs = [] ∧ q = [] := by
    cases gs with
    | nil => exact ⟨rfl, hV⟩
    | cons g r => exact absurd hV (by intro h; cases h)
  have hg := handle_of_laid hL
  have k0 := h0
  have lt0 : ∀ x ∈ p0, x.block < W.heap.size := by obtain ⟨m, hm⟩ := k0; exact DataW.trod_lt m _ _ _ hm
  obtain ⟨A0, c0, l0, rfl, hc0, hr0, wf0⟩ := arg_slice Tryd.underlying44 (Rd.slice (B := 24) Tryd.underlying44 (by kernel_rfl) rd68 (by kernel_rfl)) (hval 0 44 v0 rfl rfl) h0 (weigh hsz (j := 0) (t := 44) rfl rfl)
  have k1 := h1
  have lt1 : ∀ x ∈ p1, x.block < W.heap.size := by obtain ⟨m, hm⟩ := k1; exact DataW.trod_lt m _ _ _ hm
  obtain ⟨a1, rfl, rfl, _, wf1⟩ := open_int Tryd.underlying3 (hval 1 3 v1 rfl rfl) h1
  refine (familyOrphans A0 c0 l0 a1 W hg hr0 hc0 (by have := wf0.2.1; omega)).mono fun e W' ⟨he, bel0⟩ => ?_
  subst he
  have bel : Below W.heap.size W W' := bel0
  exact ⟨_, rfl, _, _, _, [], _, [], hW', trodAll_mk1 (shut_bool Tryd.underlying4 _), (trodAll_cons_mk (Below.trod laidOut (by kernel_rfl) (of_decide_eq_true (by kernel_rfl)) k0 bel lt0) (trodAll_cons_mk (Below.trod laidOut (by kernel_rfl) (of_decide_eq_true (by kernel_rfl)) k1 bel lt1) trodAll_mk0)), rfl, bel.frame _, fun h => by cases h⟩
theorem over : Rows.familyOrphansRow.holds Tryd.pinned (OpenSpec.ofChange Rows.familyOrphansSpec) :=
  OpenClaim.holds_of_wide 5 Tryd.f5 rfl rfl rfl rfl rfl rfl rfl ⟨rfl, rfl, rfl, rfl, rfl⟩ rfl rfl rfl rfl rfl (by kernel_rfl) Tryd.func5 (by kernel_rfl)
    (of_decide_eq_true (by kernel_rfl)) (by unfold Func.isWrapper; first | (rw [if_pos (by decide +kernel)]; kernel_rfl) | (rw [if_neg (by decide +kernel)]; exact ⟨rfl, rfl⟩) | (rw [if_neg (of_decide_eq_false (by kernel_rfl))]; exact ⟨rfl, rfl⟩))
    (fun os started H enc _ => lifted os started H enc)
theorem proved : Rows.FamilyOrphansCardSaid :=
  Claim7.holds_tied_plain_at .later [] [.handle] true (true, "5b78e904ddc4a8d94f585d3cf8dc0d5fb0c1859549ea26c061ba15a1e60c9b40") true
    over (fun _ h => by cases h) (by kernel_rfl) (fun _ h => by cases h) familyOrphans_row_tie rfl ⟨rfl, rfl⟩ (by kernel_rfl) rfl
    (fun f fn hf hfn => by
      obtain rfl : f = 5 := Option.some.inj ((show Tryd.prog.funcNamed "halter/halterlaw24.FamilyOrphans" = some 5 by kernel_rfl).symm.trans hf) |>.symm
      obtain rfl : fn = Tryd.f5 := (Option.some.inj (Tryd.func5.symm.trans hfn)).symm
      exact ⟨by kernel_rfl, fun j t ht => by
        rw [Tryd.params5] at ht
        have hb : (#[44, 3] : Array Nat).all (fun t => !Tryd.prog.wantsStandIn t) = true := by kernel_rfl
        obtain ⟨hj, hx⟩ := Array.getElem?_eq_some_iff.1 ht
        have := (Array.all_eq_true.1 hb) j hj
        show Tryd.prog.wantsStandIn t = false
        simpa [hx] using this⟩)
    (by kernel_rfl)
#print axioms proved
end Go.Proofs.YtepjcfhkbcchmaaDoor.LawFamilyOrphans
namespace Go.Proofs.YtepjcfhkbcchmaaDoor
/-- The statement, under a short name, for the claim. -/
theorem familyOrphans_holds : Rows.FamilyOrphansCardSaid := LawFamilyOrphans.proved
end Go.Proofs.YtepjcfhkbcchmaaDoor
