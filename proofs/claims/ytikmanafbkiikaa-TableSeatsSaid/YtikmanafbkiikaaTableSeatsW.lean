/- The walk of TableSeats. -/
import Derived.Test.YtikmanafbkiikaaTabLaw
namespace Go.Proofs.Ytikmanafbkiikaa
set_option linter.unusedSimpArgs false
set_option linter.unusedVariables false
open Go Go.RowKit Go.Proofs.YtikmanafbkiikaaW.PrintWords Go.Proofs.YtikmanafbkiikaaW.PrintMore Go.Proofs.Ytikmanafbkiikaa.RowK

theorem boolInfo : (Try.prog.info? 4).map (fun i => (i.zero, i.size, i.bytes)) = some (some (.bool false), 1, 1) := by kernel_rfl
/-- What holds at each round. -/
structure SI (w W : World) (pt pf gf pm gm gh k d : Nat) (rs : List Int) (own : Nat → Option Nat) (ent : Nat → Option Ent3) (hs : List Bool) : Prop where
  tl : TL w W pt pf gf pm gm k d rs own ent
  has : W.heap[gh]? = some (.cells (hs.map Value.bool).toArray 4 (0, 0))
  hl : hs.length = 64
  hu : ∀ u, u < 64 → hs[u]? = some (own u).isSome
  n1 : gh ≠ gf
  n2 : gh ≠ gm
  g0 : w.heap.size ≤ gh
  many : (takenTo rs k).length = 1 + cnt own
  len : rs.length = k
section
variable {w W W' : World} {pt pf gf pm gm gh k d : Nat} {rs : List Int} {own : Nat → Option Nat} {ent : Nat → Option Ent3} {hs : List Bool}
theorem SI.below (h : SI w W pt pf gf pm gm gh k d rs own ent hs) (hb : Below W.heap.size W W') : SI w W' pt pf gf pm gm gh k d rs own ent hs :=
  ⟨h.tl.below hb, (hb.block _ (blk_lt h.has)).trans h.has, h.hl, h.hu, h.n1, h.n2, h.g0, h.many, h.len⟩
theorem SI.cell (h : SI w W pt pf gf pm gm gh k d rs own ent hs) (u : Nat) (hu : u < 64) : W.cell? ⟨gh, u, none⟩ = some (.bool (own u).isSome) := by
  rw [cell_of_row _ _ _ _ _ _ h.has]
  simp [h.hu u hu]
/-- Behind Set, the row of upper parts not being written yet. -/
structure SJ (w W : World) (pt pf gf pm gm gh k d : Nat) (rs : List Int) (own own0 : Nat → Option Nat) (ent : Nat → Option Ent3) (hs : List Bool) : Prop where
  tl : TL w W pt pf gf pm gm k d rs own ent
  has : W.heap[gh]? = some (.cells (hs.map Value.bool).toArray 4 (0, 0))
  hl : hs.length = 64
  hu : ∀ u, u < 64 → hs[u]? = some (own0 u).isSome
  n1 : gh ≠ gf
  n2 : gh ≠ gm
  g0 : w.heap.size ≤ gh
  many : (takenTo rs k).length = 1 + cnt own
  len : rs.length = k
theorem SJ.below {own0 : Nat → Option Nat} (h : SJ w W pt pf gf pm gm gh k d rs own own0 ent hs) (hb : Below W.heap.size W W') : SJ w W' pt pf gf pm gm gh k d rs own own0 ent hs :=
  ⟨h.tl.below hb, (hb.block _ (blk_lt h.has)).trans h.has, h.hl, h.hu, h.n1, h.n2, h.g0, h.many, h.len⟩
theorem SJ.cell {own0 : Nat → Option Nat} (h : SJ w W pt pf gf pm gm gh k d rs own own0 ent hs) (u : Nat) (hu : u < 64) : W.cell? ⟨gh, u, none⟩ = some (.bool (own0 u).isSome) := by
  rw [cell_of_row _ _ _ _ _ _ h.has]
  simp [h.hu u hu]
theorem SJ.froz {own0 : Nat → Option Nat} (h : SJ w W pt pf gf pm gm gh k d rs own own0 ent hs) (u : Nat) : W.frozen? ⟨gh, u, none⟩ = false := frozen_of_row _ _ _ _ _ h.has
theorem SJ.keep (h : SJ w W pt pf gf pm gm gh k d rs own own ent hs) : SI w W pt pf gf pm gm gh k d rs own ent hs := ⟨h.tl, h.has, h.hl, h.hu, h.n1, h.n2, h.g0, h.many, h.len⟩
theorem SI.again {ent' : Nat → Option Ent3} (h : SI w W pt pf gf pm gm gh k d rs own ent hs) (ht : TS W' pt pf gf pm gm k d rs own ent') (ha : Agr (fun b => b ≠ gf ∧ b ≠ gm) W W') : SI w W' pt pf gf pm gm gh k d rs own ent' hs :=
  ⟨h.tl.agr ht ha, (ha.block gh (blk_lt h.has) ⟨h.n1, h.n2⟩).trans h.has, h.hl, h.hu, h.n1, h.n2, h.g0, h.many, h.len⟩
theorem TS.set_cell {W : World} (h : TS W pt pf gf pm gm k d rs own ent) (b j : Nat) (v : Value) (h1 : b ≠ pt) (h2 : b ≠ pf) (h3 : b ≠ gf) (h4 : b ≠ pm) (h5 : b ≠ gm) : TS (W.setCell ⟨b, j, none⟩ v) pt pf gf pm gm k d rs own ent := by
  obtain ⟨bs, ht, hi⟩ := h
  have hh : ∀ q, q ≠ b → (W.setCell ⟨b, j, none⟩ v).heap[q]? = W.heap[q]? := fun q hq => Below.heap_setCell W ⟨b, j, none⟩ v q hq
  exact ⟨bs, ⟨(hh _ (fun e => h1 e.symm)).trans ht.cell, ⟨(hh _ (fun e => h2 e.symm)).trans ht.frm.cell, (hh _ (fun e => h3 e.symm)).trans ht.frm.row, ht.frm.len, ht.frm.ne, ht.frm.lim, ht.frm.few⟩, ⟨(hh _ (fun e => h4 e.symm)).trans ht.mem.cell, (hh _ (fun e => h5 e.symm)).trans ht.mem.row, ht.mem.len, ht.mem.ne, ht.mem.lim⟩, ht.byt, ht.n1, ht.n2, ht.n3, ht.n4, ht.n5, ht.hd⟩, hi⟩
/-- The row of upper parts is written. -/
theorem SJ.put {own0 : Nat → Option Nat} {i u : Nat} (h : SJ w W pt pf gf pm gm gh k d rs (upd own0 u (some i)) own0 ent hs) (hu : u < 64) (h1 : gh ≠ pt) (h2 : gh ≠ pf) (h4 : gh ≠ pm) :
    SI w (W.setCell ⟨gh, u, none⟩ (.bool true)) pt pf gf pm gm gh k d rs (upd own0 u (some i)) ent (hs.set u true) := by
  refine ⟨⟨h.tl.ts.set_cell gh u _ h1 h2 h.n1 h4 h.n2, h.tl.bel.setCell (p := ⟨gh, u, none⟩) h.g0 _, h.tl.g1, h.tl.g2, h.tl.g3, h.tl.t1, h.tl.t2⟩, ?_, by rw [List.length_set]; exact h.hl, fun u' hu' => ?_, h.n1, h.n2, h.g0, h.many, h.len⟩
  · rw [heap_setCell_same W gh u _ _ _ h.has]
    simp [List.map_set]
  · rw [List.getElem?_set]
    by_cases e : u = u'
    · subst e
      rw [if_pos rfl, if_pos (by rw [h.hl]; exact hu), upd_same]
      rfl
    · rw [if_neg e, upd_other _ _ _ (fun e' => e e'.symm)]
      exact h.hu u' hu'
/-- What Set does: a page of a upper part that has a frame; of one that has none, with or without room. -/
theorem SI.set (h : SI w W pt pf gf pm gm gh k d rs own ent hs) (hk9 : k ≤ 1024) (p f : Int) (hp0 : 0 ≤ p) (hp1 : p < 4096) (hok : entOk f 1 = true) (u : Nat) (hu : (p / 64).toNat = u)
    (ht : TS W' pt pf gf pm gm k d (setR rs own p f 1) (setO rs own p f 1) (setT rs own ent p f 1 false)) (ha : Agr (fun b => b ≠ gf ∧ b ≠ gm) W W') :
    (∃ ent', own u ≠ none ∧ setE rs own p f 1 = none ∧ SJ w W' pt pf gf pm gm gh k d rs own own ent' hs) ∨ (own u = none ∧ cnt own + 1 = k ∧ setE rs own p f 1 = some 12 ∧ SJ w W' pt pf gf pm gm gh k d rs own own ent hs) ∨
      (∃ i ent', own u = none ∧ cnt own + 1 < k ∧ setE rs own p f 1 = none ∧ cnt (upd own u (some i)) = cnt own + 1 ∧ SJ w W' pt pf gf pm gm gh k d (rs.set i 1) (upd own u (some i)) own ent' hs) := by
  have hu64 : u < 64 := by omega
  have hfew : ∀ r ∈ rs, 0 ≤ r := fun r hr => (h.tl.ts.frm.few r hr).1
  have hh := (ha.block gh (blk_lt h.has) ⟨h.n1, h.n2⟩).trans h.has
  have hfull := firstZ_full hfew
  rw [h.len, h.many] at hfull
  cases ho : own u with
  | some n =>
    have e1 : setE rs own p f 1 = none := by unfold setE; rw [if_pos ⟨⟨hp0, hp1⟩, hok⟩, if_neg (by rw [hu, ho]; rintro ⟨x, _⟩; cases x)]
    have e2 : setR rs own p f 1 = rs := by unfold setR; rw [if_neg (by rw [hu, ho]; rintro ⟨_, x⟩; cases x)]
    have e3 : setO rs own p f 1 = own := by unfold setO; rw [if_neg (by rw [hu, ho]; rintro ⟨_, x⟩; cases x)]
    rw [e2, e3] at ht
    exact .inl ⟨_, by simp, e1, h.tl.agr ht ha, hh, h.hl, h.hu, h.n1, h.n2, h.g0, h.many, h.len⟩
  | none =>
    cases hz : firstZ rs with
    | none =>
      have e1 : setE rs own p f 1 = some 12 := by unfold setE; rw [if_pos ⟨⟨hp0, hp1⟩, hok⟩, if_pos ⟨by rw [hu, ho], hz⟩]
      have e2 : setR rs own p f 1 = rs := by unfold setR; rw [if_neg (by rw [e1]; rintro ⟨x, _⟩; cases x)]
      have e3 : setO rs own p f 1 = own := by unfold setO; rw [if_neg (by rw [e1]; rintro ⟨x, _⟩; cases x)]
      have e4 : setT rs own ent p f 1 false = ent := by unfold setT; rw [if_neg (by rw [e1]; intro x; cases x)]
      rw [e2, e3, e4] at ht
      have := hfull.1 hz
      exact .inr (.inl ⟨rfl, by omega, e1, h.tl.agr ht ha, hh, h.hl, h.hu, h.n1, h.n2, h.g0, h.many, h.len⟩)
    | some i =>
      have hr := (firstZ_some hz).1
      have hrl : i < rs.length := (List.getElem?_eq_some_iff.1 hr).1
      have e1 : setE rs own p f 1 = none := by unfold setE; rw [if_pos ⟨⟨hp0, hp1⟩, hok⟩, if_neg (by rw [hz]; rintro ⟨_, x⟩; cases x)]
      have e2 : setR rs own p f 1 = rs.set i 1 := by unfold setR; rw [if_pos ⟨e1, by rw [hu, ho]⟩, hz]
      have e3 : setO rs own p f 1 = upd own u (some i) := by unfold setO; rw [if_pos ⟨e1, by rw [hu, ho]⟩, hz, hu]
      rw [e2, e3] at ht
      have hc := cnt_upd own u i hu64 ho
      have hroom := takenTo_room rs i hr
      rw [h.len, h.many] at hroom
      have hm := takenTo_set rs i hr k
      rw [if_pos (by rw [← h.len]; exact hrl)] at hm
      exact .inr (.inr ⟨i, _, rfl, by omega, e1, hc, h.tl.agr ht ha, hh, h.hl, h.hu, h.n1, h.n2, h.g0, by rw [hm, hc, h.many]; omega, by rw [List.length_set]; exact h.len⟩)
end
end Go.Proofs.Ytikmanafbkiikaa
