/- A block that holds a row of structs, part by part: what is read of it and what stores make of it. No program. -/
import Derived.Test.YtepjcfhkbcchmaaFlat
import Derived.Laws.IdiomCopy
import Derived.Below
import Derived.Lib.SliceRun
namespace Go.Proofs.Ytepjcfhkbcchmaa.RowK
set_option linter.unusedSimpArgs false
set_option linter.unusedVariables false
open Go Go.RowKit Go.Proofs.YtepjcfhkbcchmaaW.PrintWords

theorem put_list (pre mid post vs : List Value) (h : mid.length = vs.length) (w : World) (g : Nat) (t : TypeId) : 
    w.heap[g]? = some (.cells (pre ++ mid ++ post).toArray t (0, 0)) → (w.setCells g pre.length vs).heap[g]? = some (.cells (pre ++ vs ++ post).toArray t (0, 0)) := by
  induction vs generalizing pre mid w with
  | nil =>
    intro hw
    have : mid = [] := List.length_eq_zero_iff.1 (by simpa using h)
    subst this
    exact hw
  | cons v r ih =>
    intro hw
    obtain ⟨m, mid', rfl⟩ : ∃ m mid', mid = m :: mid' := by
      cases mid with
      | nil => simp at h
      | cons m mid' => exact ⟨m, mid', rfl⟩
    have h1 := heap_setCell_same w g pre.length _ t v hw
    have h2 : (((pre ++ m :: mid' ++ post).toArray).setIfInBounds pre.length v) = ((pre ++ [v]) ++ mid' ++ post).toArray := by
      simp [List.set_append]
    rw [h2] at h1
    have := ih (pre ++ [v]) mid' (by simpa using h) _ h1
    show ((w.setCell ⟨g, pre.length, none⟩ v).setCells g (pre.length + 1) r).heap[g]? = _
    simpa using this
theorem setCells_other (w : World) (g : Nat) : ∀ (vs : List Value) (o : Nat) (w : World) (k : Nat), k ≠ g → (w.setCells g o vs).heap[k]? = w.heap[k]?
  | [], _, _, _, _ => rfl
  | v :: r, o, w, k, hk => by
    show ((w.setCell ⟨g, o, none⟩ v).setCells g (o + 1) r).heap[k]? = _
    rw [setCells_other w g r _ _ k hk]
    exact Below.heap_setCell _ _ _ _ hk
theorem setCells_same (g : Nat) : ∀ (vs : List Value) (o : Nat) (w : World), (w.setCells g o vs).os = w.os ∧ (w.setCells g o vs).tape = w.tape ∧ (w.setCells g o vs).output = w.output ∧ (w.setCells g o vs).heap.size = w.heap.size
  | [], _, _ => ⟨rfl, rfl, rfl, rfl⟩
  | v :: r, o, w => by
    obtain ⟨a, b, c, d⟩ := setCells_same g r (o + 1) (w.setCell ⟨g, o, none⟩ v)
    exact ⟨a.trans rfl, b.trans rfl, c.trans rfl, d.trans (by simp)⟩

/-- All but the block g is as it was. -/
structure Oth (w w' : World) (g : Nat) : Prop where
  os : w'.os = w.os
  tape : w'.tape = w.tape
  output : w'.output = w.output
  size : w.heap.size ≤ w'.heap.size
  block : ∀ k, k < w.heap.size → k ≠ g → w'.heap[k]? = w.heap[k]?
theorem Oth.refl (w : World) (g : Nat) : Oth w w g := ⟨rfl, rfl, rfl, Nat.le_refl _, fun _ _ _ => rfl⟩
theorem Oth.trans {a b c : World} {g : Nat} (h : Oth a b g) (k : Oth b c g) : Oth a c g :=
  ⟨k.os.trans h.os, k.tape.trans h.tape, k.output.trans h.output, Nat.le_trans h.size k.size, fun i hi hn => (k.block i (Nat.lt_of_lt_of_le hi h.size) hn).trans (h.block i hi hn)⟩
theorem Oth.of_below {w w' : World} {g : Nat} (h : Below w.heap.size w w') : Oth w w' g := ⟨h.os, h.tape, h.output, h.size, fun i hi _ => h.block i hi⟩
theorem Oth.below {w w' : World} {g B : Nat} (h : Oth w w' g) (hg : B ≤ g) (hB : B ≤ w.heap.size) : Below B w w' := ⟨h.os, h.tape, h.output, h.size, fun i hi => h.block i (by omega) (by omega)⟩
theorem Oth.put (w : World) (g o : Nat) (vs : List Value) : Oth w (w.setCells g o vs) g := by
  obtain ⟨a, b, c, d⟩ := setCells_same g vs o w
  exact ⟨a, b, c, by omega, fun k _ hk => setCells_other w g vs o w k hk⟩

section
variable {α : Type} {enc : α → List Value} {k : Nat}
/-- The block g holds the rows l, and rest behind them. -/
def Row (enc : α → List Value) (t : TypeId) (w : World) (g : Nat) (l : List α) (rest : List Value) : Prop := w.heap[g]? = some (.cells (l.flatMap enc ++ rest).toArray t (0, 0))
theorem Row.other {t : TypeId} {w w' : World} {g : Nat} {l : List α} {rest : List Value} (h : Row enc t w g l rest) (hb : Below w.heap.size w w') : Row enc t w' g l rest :=
  (hb.block g (by
    rcases Nat.lt_or_ge g w.heap.size with q | q
    · exact q
    · unfold Row at h; rw [Array.getElem?_eq_none q] at h; cases h)).trans h
theorem Row.lt {t : TypeId} {w : World} {g : Nat} {l : List α} {rest : List Value} (h : Row enc t w g l rest) : g < w.heap.size := by
  rcases Nat.lt_or_ge g w.heap.size with q | q
  · exact q
  · unfold Row at h; rw [Array.getElem?_eq_none q] at h; cases h
theorem Row.cell {t : TypeId} {w : World} {g : Nat} {p q : List α} {x : α} {rest : List Value} (hk : ∀ x, (enc x).length = k) (h : Row enc t w g (p ++ x :: q) rest) (i : Nat) (v : Value) (hv : (enc x)[i]? = some v) : w.cell? ⟨g, p.length * k + i, none⟩ = some v := by
  have hi : i < (enc x).length := (List.getElem?_eq_some_iff.1 hv).1
  have hl : (p.flatMap enc).length = p.length * k := SortK.flat_len hk p
  have hc : ((p ++ x :: q).flatMap enc ++ rest)[p.length * k + i]? = some v := by
    rw [List.flatMap_append, List.flatMap_cons, List.append_assoc, List.append_assoc, List.getElem?_append_right (by omega), hl, Nat.add_sub_cancel_left, List.getElem?_append_left hi]
    exact hv
  unfold Row at h
  simp only [World.cell?, h]
  simpa using hc
theorem Row.frozen {t : TypeId} {w : World} {g : Nat} {l : List α} {rest : List Value} (h : Row enc t w g l rest) (j : Nat) : w.frozen? ⟨g, j, none⟩ = false := frozen_of_row w g j _ t h
/-- One row is stored whole. -/
theorem Row.put {t : TypeId} {w : World} {g : Nat} {p q : List α} {y : α} {rest : List Value} (hk : ∀ x, (enc x).length = k) (h : Row enc t w g (p ++ y :: q) rest) (x : α) : Row enc t (w.setCells g (p.length * k) (enc x)) g (p ++ x :: q) rest := by
  have := put_list (p.flatMap enc) (enc y) (q.flatMap enc ++ rest) (enc x) (by rw [hk, hk]) w g t (by
    unfold Row at h
    rw [h]; simp)
  rw [SortK.flat_len hk] at this
  unfold Row
  rw [this]; simp
/-- One cell of a row is stored. -/
theorem Row.put1 {t : TypeId} {w : World} {g : Nat} {p q : List α} {y : α} {rest : List Value} (hk : ∀ x, (enc x).length = k) (h : Row enc t w g (p ++ y :: q) rest) (i : Nat) (v : Value) (x : α) (hi : i < k) (hx : enc x = (enc y).set i v) : Row enc t (w.setCell ⟨g, p.length * k + i, none⟩ v) g (p ++ x :: q) rest := by
  unfold Row at h ⊢
  rw [heap_setCell_same w g _ _ t v h]
  have hl : (p.flatMap enc).length = p.length * k := SortK.flat_len hk p
  have e1 : (p ++ y :: q).flatMap enc ++ rest = p.flatMap enc ++ (enc y ++ (q.flatMap enc ++ rest)) := by simp
  have e2 : (p ++ x :: q).flatMap enc ++ rest = p.flatMap enc ++ (enc x ++ (q.flatMap enc ++ rest)) := by simp
  rw [e1, e2, List.setIfInBounds_toArray, List.set_append_right _ _ (by omega), List.set_append_left _ _ (by rw [hk]; omega), hl, Nat.add_sub_cancel_left, hx]
theorem Oth.put1 (w : World) (g o : Nat) (v : Value) : Oth w (w.setCell ⟨g, o, none⟩ v) g := Oth.put w g o [v]
/-- Several rows are stored whole. -/
theorem Row.puts {t : TypeId} {w : World} {g : Nat} {p q r : List α} {rest : List Value} (hk : ∀ x, (enc x).length = k) (h : Row enc t w g (p ++ q) rest) (hr : r.length = q.length) : Row enc t (w.setCells g (p.length * k) (r.flatMap enc)) g (p ++ r) rest := by
  have := put_list (p.flatMap enc) (q.flatMap enc) rest (r.flatMap enc) (by rw [SortK.flat_len hk, SortK.flat_len hk, hr]) w g t (by
    unfold Row at h
    rw [h]; simp)
  rw [SortK.flat_len hk] at this
  unfold Row
  rw [this]; simp
theorem zero_cells (hk : ∀ x, (enc x).length = k) (zr : α) (n : Nat) : (Builtin.zeroCells (enc zr).toArray n).toList = (List.replicate n zr).flatMap enc := by
  apply List.ext_getElem?
  intro t
  by_cases h : t < n * k
  · rw [SortK.flat_get hk _ _ (by simpa using h)]
    have hk0 : 0 < k := by
      rcases Nat.eq_zero_or_pos k with h0 | h0
      · subst h0; simp at h
      · exact h0
    have hd : t / k < n := (Nat.div_lt_iff_lt_mul hk0).2 h
    have hm : t % k < (enc zr).length := by rw [hk]; exact Nat.mod_lt _ hk0
    rw [List.getElem?_replicate, if_pos hd]
    simp only [Builtin.zeroCells, Array.toList_map, Array.toList_range, List.size_toArray, hk, Option.bind_some]
    rw [List.getElem?_map, List.getElem?_range h]
    simp only [Option.map_some]
    rw [List.getElem?_eq_getElem hm]
    congr 1
    rw [getElem!_pos _ _ (by simpa using hm)]
    simp
  · rw [List.getElem?_eq_none (by simp [Builtin.zeroCells, hk]; omega), List.getElem?_eq_none (by rw [SortK.flat_len hk]; simp; omega)]
theorem run_clear_rows {P : Program} (hk : ∀ x, (enc x).length = k) (w : World) (t e ty : TypeId) (z : Value) (zr : α) (ht : P.underlying t = some (.slice e)) (hv : ∀ w, (zeroValue e).run P w = .ok z w) (hz : z.cells = (enc zr).toArray) (h1 : ∀ v ∈ enc zr, v.oneCell' = true) (b o n c : Nat) (hn : 0 < n)
    (hc : ∀ j, j < n * k → (w.cell? ⟨b, o + j, none⟩).isSome = true) (hf : ∀ j, j < n * k → w.frozen? ⟨b, o + j, none⟩ = false) :
    (Builtin.clear_ #[t] ty #[.slice (some ⟨b, o, none⟩) n c]).run P w = .ok (.tuple #[]) (w.setCells b o ((List.replicate n zr).flatMap enc)) := by
  have hzc := zero_cells hk zr n
  have hl : ((List.replicate n zr).flatMap enc).length = n * k := by rw [SortK.flat_len hk]; simp
  have hst := run_storeCells_cells (P := P) b o ((List.replicate n zr).flatMap enc) 0 w (by rw [hl]; simpa using hc) (by rw [hl]; simpa using hf) (by
    intro v hv'
    obtain ⟨x, hx, hvx⟩ := List.mem_flatMap.1 hv'
    rw [List.eq_of_mem_replicate hx] at hvx
    exact h1 v hvx)
  simp only [Nat.add_zero] at hst
  obtain ⟨m, rfl⟩ : ∃ m, n = m + 1 := ⟨n - 1, by omega⟩
  simp [Builtin.clear_, run_underlying ht, hv, hz, hzc, hst]
end
end Go.Proofs.Ytepjcfhkbcchmaa.RowK
