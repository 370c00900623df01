/- What TableKeeps keeps, in plain words. -/
import Derived.Test.YtikmanafbkiikaaDoorTabLaw
import Derived.Test.YtikmanafbkiikaaDoorNum07
import Derived.Test.YtikmanafbkiikaaDoorKd
import Derived.Deep.RegionHeld
namespace Go.Proofs.YtikmanafbkiikaaDoor
set_option linter.unusedSimpArgs false
set_option linter.unusedVariables false
open Go Go.RowKit Go.Proofs.YtikmanafbkiikaaDoorW.PrintWords Go.Proofs.YtikmanafbkiikaaDoorW.PrintMore Go.Proofs.YtikmanafbkiikaaDoor.RowK

structure KI (rs : List Int) (own : Nat → Option Nat) : Prop where
  len : rs.length = 6
  many : (takenTo rs 6).length = 1 + cnt own
  once : Once rs
  who : ∀ j, j < 6 → rs[j]? = some 0 ∨ j = 0 ∨ ∃ u, u < 64 ∧ own u = some j
theorem KI.new : KI ((List.replicate 6 0).set 0 1) (fun _ => none) := by
  refine ⟨rfl, by decide, ?_, ?_⟩
  · have : ∀ r ∈ ((List.replicate 6 0).set 0 1 : List Int), r = 0 ∨ r = 1 := by decide
    exact this
  · intro j hj
    match j, hj with
    | 0, _ => exact .inr (.inl rfl)
    | 1, _ => exact .inl rfl
    | 2, _ => exact .inl rfl
    | 3, _ => exact .inl rfl
    | 4, _ => exact .inl rfl
    | 5, _ => exact .inl rfl
theorem KI.set {rs : List Int} {own : Nat → Option Nat} {ent : Nat → Option Ent3} (h : KI rs own) (p f q : Int) (c : Bool) (hp0 : 0 ≤ p) (hp1 : p < 4096) (hok : entOk f q = true) :
    (stE rs own p f q = none ∧ KI (stR rs own p f q) (stO rs own p f q) ∧ stT rs own ent p f q c = upd ent p.toNat (some (f, q, c))) ∨
      (stE rs own p f q = some 12 ∧ (takenTo rs 6).length = 6 ∧ stR rs own p f q = rs ∧ stO rs own p f q = own ∧ stT rs own ent p f q c = ent) := by
  have hfew : ∀ r ∈ rs, 0 ≤ r := fun r hr => by rcases h.once r hr with e | e <;> omega
  have hu64 : (p / 64).toNat < 64 := by omega
  cases ho : own (p / 64).toNat with
  | some n =>
    have e1 : stE rs own p f q = none := by unfold stE; rw [if_pos ⟨⟨hp0, hp1⟩, hok⟩, if_neg (by rw [ho]; rintro ⟨x, _⟩; cases x)]
    have e2 : stR rs own p f q = rs := by unfold stR; rw [if_neg (by rw [ho]; rintro ⟨_, x⟩; cases x)]
    have e3 : stO rs own p f q = own := by unfold stO; rw [if_neg (by rw [ho]; rintro ⟨_, x⟩; cases x)]
    exact .inl ⟨e1, by rw [e2, e3]; exact h, by unfold stT; rw [if_pos e1]⟩
  | none =>
    cases hz : firstZ rs with
    | none =>
      have e1 : stE rs own p f q = some 12 := by unfold stE; rw [if_pos ⟨⟨hp0, hp1⟩, hok⟩, if_pos ⟨ho, hz⟩]
      have hf := (firstZ_full hfew).1 hz
      rw [h.len] at hf
      exact .inr ⟨e1, hf, by unfold stR; rw [if_neg (by rw [e1]; rintro ⟨x, _⟩; cases x)], by unfold stO; rw [if_neg (by rw [e1]; rintro ⟨x, _⟩; cases x)], by unfold stT; rw [if_neg (by rw [e1]; intro x; cases x)]⟩
    | some i =>
      have hr := (firstZ_some hz).1
      have hrl : i < rs.length := (List.getElem?_eq_some_iff.1 hr).1
      have hl := h.len
      have e1 : stE rs own p f q = none := by unfold stE; rw [if_pos ⟨⟨hp0, hp1⟩, hok⟩, if_neg (by rw [hz]; rintro ⟨_, x⟩; cases x)]
      have e2 : stR rs own p f q = rs.set i 1 := by unfold stR; rw [if_pos ⟨e1, ho⟩, hz]
      have e3 : stO rs own p f q = upd own (p / 64).toNat (some i) := by unfold stO; rw [if_pos ⟨e1, ho⟩, hz]
      have hc := cnt_upd own _ i hu64 ho
      have hm := takenTo_set rs i hr 6
      rw [if_pos (by omega)] at hm
      refine .inl ⟨e1, ?_, by unfold stT; rw [if_pos e1]⟩
      rw [e2, e3]
      refine ⟨by rw [List.length_set]; exact hl, by rw [hm, hc, h.many]; omega, h.once.set i, fun j hj => ?_⟩
      by_cases e : i = j
      · subst e
        exact .inr (.inr ⟨_, hu64, upd_same _ _ _⟩)
      · rw [get_set, if_neg e]
        rcases h.who j hj with a | a | ⟨u, a, b⟩
        · exact .inl a
        · exact .inr (.inl a)
        · refine .inr (.inr ⟨u, a, ?_⟩)
          rw [upd_other _ _ _ (fun e' => by rw [e', ho] at b; cases b)]
          exact b
theorem KI.gone {rs : List Int} {own : Nat → Option Nat} (h : KI rs own) : takenTo (unrefs rs (((0 : Nat) : Int) :: (ownTo own 64).map (·.2))) 6 = [] := by
  refine takenTo_nil _ 6 (fun j hj => ?_)
  rw [unrefs_get _ h.once, h.len]
  rcases h.who j hj with a | a | ⟨u, a, b⟩
  · split
    · first | rfl | (rw [if_pos hj]; rfl)
    · rw [a]; rfl
  · rw [if_pos (by rw [a]; exact List.mem_cons_self), if_pos hj]
    rfl
  · rw [if_pos (List.mem_cons_of_mem _ (ownTo_mem.2 ⟨u, j, a, b, rfl⟩)), if_pos hj]
    rfl
theorem val3_form (o : Option Ent3) : ∃ (x0 x1 : Int) (x2 : Bool), val3 o = .agg #[.int .i64 x0, .int .u8 x1, .bool x2] := by
  cases o with
  | none => exact ⟨_, _, _, rfl⟩
  | some x => exact ⟨_, _, _, rfl⟩
/-- A box of three parts. -/
def Bx (W : World) (b : Nat) (v0 v1 v2 : Value) : Prop := W.heap[b]? = some (.cells #[v0, v1, v2] 55 (0, 0))
section
variable {W W' : World} {b : Nat} {v0 v1 v2 : Value}
theorem Bx.new (W : World) (v0 v1 v2 : Value) : Bx (W.alloc (.cells #[v0, v1, v2] 55 (0, 0))) W.heap.size v0 v1 v2 := heap_alloc_new _ _
theorem Bx.lt (h : Bx W b v0 v1 v2) : b < W.heap.size := blk_lt h
theorem Bx.below (h : Bx W b v0 v1 v2) (hb : Below W.heap.size W W') : Bx W' b v0 v1 v2 := (hb.block _ h.lt).trans h
theorem Bx.agr {gf gm : Nat} (h : Bx W b v0 v1 v2) (ha : Agr (fun b => b ≠ gf ∧ b ≠ gm) W W') (h1 : b ≠ gf) (h2 : b ≠ gm) : Bx W' b v0 v1 v2 := (ha.block _ h.lt ⟨h1, h2⟩).trans h
theorem Bx.cells (h : Bx W b v0 v1 v2) : W.cell? ⟨b, 0, none⟩ = some v0 ∧ W.cell? ⟨b, 1, none⟩ = some v1 ∧ W.cell? ⟨b, 2, none⟩ = some v2 :=
  ⟨(cell_of_row _ _ _ _ _ _ h).trans rfl, (cell_of_row _ _ _ _ _ _ h).trans rfl, (cell_of_row _ _ _ _ _ _ h).trans rfl⟩
end
theorem TL.apart {w W : World} {pt pf gf pm gm k d : Nat} {rs : List Int} {own : Nat → Option Nat} {ent : Nat → Option Ent3} (h : TL w W pt pf gf pm gm k d rs own ent) : gf < W.heap.size ∧ gm < W.heap.size := by
  obtain ⟨bs, ht, _⟩ := h.ts
  exact ⟨blk_lt ht.frm.row, blk_lt ht.mem.row⟩
end Go.Proofs.YtikmanafbkiikaaDoor
