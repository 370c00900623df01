/- What FamilyKeeps has in memory. -/
import Derived.Test.YtepjcfhkbcchmaaFamSure
import Derived.Test.YtepjcfhkbcchmaaLawW
import Derived.Test.YtepjcfhkbcchmaaKd
import Derived.Deep.RegionHeld
import Derived.Deep.CutBlock
import Derived.Deep.DeepCutAuto
import Derived.Laws.MakeOwn
namespace Go.Proofs.Ytepjcfhkbcchmaa
set_option linter.unusedSimpArgs false
set_option linter.unusedVariables false
open Go Go.RowKit Go.Proofs.YtepjcfhkbcchmaaW.PrintWords Go.Proofs.YtepjcfhkbcchmaaW.PrintMore Go.Proofs.Ytepjcfhkbcchmaa.RowK Go.Proofs.Ytepjcfhkbcchmaa.XFam Go.Proofs.Ytepjcfhkbcchmaa.FamEv

theorem boolInfo : (Try.prog.info? 4).map (fun i => (i.zero, i.size, i.bytes)) = some (some (.bool false), 1, 1) := by kernel_rfl
theorem hundred {i0 : TypeInfo} (hz1 : i0.size = 1) : madeCells (Value.bool false).cells ((100 : Int).toNat * i0.size) = ((List.replicate 100 false).map Value.bool).toArray := by
  rw [hz1, Nat.mul_one, List.map_replicate]
  apply Array.ext'
  exact toList_madeCells_one _ _
/-- The two rows of marks (blocks gt, go), the members' row. -/
structure FW (w W : World) (gt go : Nat) (th ov : List Bool) (A : Option Addr) (c : Nat) (l : List M) : Prop where
  bel : Below w.heap.size w W
  tb : W.heap[gt]? = some (.cells (th.map Value.bool).toArray 4 (0, 0))
  ob : W.heap[go]? = some (.cells (ov.map Value.bool).toArray 4 (0, 0))
  g1 : w.heap.size ≤ gt
  g2 : w.heap.size ≤ go
  ne : gt ≠ go
  row : CS k25 (fun b => b ≠ gt ∧ b ≠ go) W A l
  lc : l.length ≤ c
section
variable {w W W' : World} {gt go : Nat} {th ov : List Bool} {A A' : Option Addr} {c c' : Nat} {l l' : List M}
theorem FW.below (h : FW w W gt go th ov A c l) (hb : Below W.heap.size W W') : FW w W' gt go th ov A c l :=
  ⟨h.bel.trans (hb.mono h.bel.size), (hb.block _ (blk_lt h.tb)).trans h.tb, (hb.block _ (blk_lt h.ob)).trans h.ob, h.g1, h.g2, h.ne, h.row.step (Agr.below hb), h.lc⟩
theorem FW.tc (h : FW w W gt go th ov A c l) (p : Nat) (b : Bool) (hp : th[p]? = some b) : ∀ n : Later W, n.1.cell? ⟨gt, p, none⟩ = some (.bool b) := fun n => by
  refine (n.cell p (blk_lt h.tb)).trans ?_
  rw [cell_of_row _ _ _ _ _ _ h.tb]
  simp [hp]
theorem FW.oc (h : FW w W gt go th ov A c l) (p : Nat) (b : Bool) (hp : ov[p]? = some b) : ∀ n : Later W, n.1.cell? ⟨go, p, none⟩ = some (.bool b) := fun n => by
  refine (n.cell p (blk_lt h.ob)).trans ?_
  rw [cell_of_row _ _ _ _ _ _ h.ob]
  simp [hp]
theorem FW.tf (h : FW w W gt go th ov A c l) (p : Nat) : W.frozen? ⟨gt, p, none⟩ = false := frozen_of_row _ _ _ _ _ h.tb
theorem FW.of (h : FW w W gt go th ov A c l) (p : Nat) : W.frozen? ⟨go, p, none⟩ = false := frozen_of_row _ _ _ _ _ h.ob
theorem FW.putT (h : FW w W gt go th ov A c l) (p : Nat) (b : Bool) : FW w (W.setCell ⟨gt, p, none⟩ (.bool b)) gt go (th.set p b) ov A c l := by
  refine ⟨h.bel.setCell (p := ⟨gt, p, none⟩) h.g1 _, ?_, (Below.heap_setCell W ⟨gt, p, none⟩ _ go (fun e => h.ne e.symm)).trans h.ob, h.g1, h.g2, h.ne, h.row.step (Agr.set _ _ _ (fun e => e.1 rfl)), h.lc⟩
  rw [heap_setCell_same W gt p _ _ _ h.tb]
  simp [List.map_set]
theorem FW.putO (h : FW w W gt go th ov A c l) (p : Nat) (b : Bool) : FW w (W.setCell ⟨go, p, none⟩ (.bool b)) gt go th (ov.set p b) A c l := by
  refine ⟨h.bel.setCell (p := ⟨go, p, none⟩) h.g2 _, (Below.heap_setCell W ⟨go, p, none⟩ _ gt h.ne).trans h.tb, ?_, h.g1, h.g2, h.ne, h.row.step (Agr.set _ _ _ (fun e => e.2 rfl)), h.lc⟩
  rw [heap_setCell_same W go p _ _ _ h.ob]
  simp [List.map_set]
/-- A row that a call has made. -/
theorem FW.got (h : FW w W gt go th ov A c l) {v : Value} (hb : Below W.heap.size W W') (hR : Kd.R k25 25 W' W.heap.size (fun _ => True) v l') :
    ∃ A' c', v = .slice A' l'.length c' ∧ FW w W' gt go th ov A' c' l' := by
  obtain ⟨A', c', rfl, hc, _⟩ := Kd.R_reads hR
  have h1 := h.below hb
  have e1 := blk_lt h.tb
  have e2 := blk_lt h.ob
  exact ⟨A', c', rfl, h1.bel, h1.tb, h1.ob, h1.g1, h1.g2, h1.ne, (CS.of_R hR).mono (fun k _ hk => by exact ⟨by omega, by omega⟩), hc⟩
theorem set_same {α : Type} {r : List α} {p : Nat} {v : α} (h : r[p]? = some v) : r.set p v = r := by
  apply List.ext_getElem?
  intro i
  rw [List.getElem?_set]
  by_cases e : p = i
  · subst e
    rw [if_pos rfl, if_pos (List.getElem?_eq_some_iff.1 h).1, h]
  · rw [if_neg e]
end
theorem FW.two {w W0 : World} {g0 : Nat} {MM : Array Value} (hB : Below w.heap.size w W0) (hC : Kd.C k25 W0 (some ⟨g0, 0, none⟩) [oneM].length [oneM]) (hM : MM = ((List.replicate 100 false).map Value.bool).toArray) :
    FW w ((W0.alloc (.cells MM 4 (0, 0))).alloc (.cells MM 4 (0, 0))).drew W0.heap.size (W0.heap.size + 1) (List.replicate 100 false) (List.replicate 100 false) (some ⟨g0, 0, none⟩) 1 [oneM] ∧
      FW w ((W0.alloc (.cells MM 4 (0, 0))).alloc (.cells MM 4 (0, 0))).drew (W0.heap.size + 1) W0.heap.size (List.replicate 100 false) (List.replicate 100 false) (some ⟨g0, 0, none⟩) 1 [oneM] := by
  have hb : Below W0.heap.size W0 ((W0.alloc (.cells MM 4 (0, 0))).alloc (.cells MM 4 (0, 0))).drew := (((Below.refl _ W0).alloc (Nat.le_refl _) _).alloc (by simp) _).drew
  have e1 : ((W0.alloc (.cells MM 4 (0, 0))).alloc (.cells MM 4 (0, 0))).drew.heap[W0.heap.size]? = some (.cells ((List.replicate 100 false).map Value.bool).toArray 4 (0, 0)) := by
    rw [← hM]; exact Go.heap_alloc2_old _ _ _
  have e2 : ((W0.alloc (.cells MM 4 (0, 0))).alloc (.cells MM 4 (0, 0))).drew.heap[W0.heap.size + 1]? = some (.cells ((List.replicate 100 false).map Value.bool).toArray 4 (0, 0)) := by
    rw [← hM]; exact Go.heap_alloc2_new _ _ _
  have hz := hB.size
  exact ⟨⟨hB.trans (hb.mono hz), e1, e2, hz, by omega, by omega, ((CS.of_C hC).mono (fun k hk _ => ⟨by omega, by omega⟩)).step (Agr.below hb), by decide⟩,
    ⟨hB.trans (hb.mono hz), e2, e1, by omega, hz, by omega, ((CS.of_C hC).mono (fun k hk _ => ⟨by omega, by omega⟩)).step (Agr.below hb), by decide⟩⟩
theorem one_C (w : World) : Kd.C k25 (w.alloc (.cells #[.int .i64 1, .int .i64 0, .bool false, .int .u32 0] 25 (0, 0))) (some ⟨w.heap.size, 0, none⟩) [oneM].length [oneM] := by
  refine ⟨rfl, by decide, fun _ => ⟨_, rfl, fun j p hj => ?_⟩⟩
  obtain ⟨rfl, rfl⟩ : j = 0 ∧ p = oneM := by
    match j, hj with
    | 0, hj => exact ⟨rfl, (Option.some.inj hj).symm⟩
  refine ⟨[.int .i64 1, .int .i64 0, .bool false, .int .u32 0], rfl, ?_, fun i u hi => ?_⟩
  · exact ⟨[.int .i64 1], [.int .i64 0, .bool false, .int .u32 0], rfl, rfl, ⟨[.int .i64 0], [.bool false, .int .u32 0], rfl, rfl, ⟨[.bool false], [.int .u32 0], rfl, rfl, rfl⟩⟩⟩
  · rw [Addr.add_lit, cell_of_row _ _ _ _ _ _ (heap_alloc_new _ _)]
    simpa using hi
end Go.Proofs.Ytepjcfhkbcchmaa
