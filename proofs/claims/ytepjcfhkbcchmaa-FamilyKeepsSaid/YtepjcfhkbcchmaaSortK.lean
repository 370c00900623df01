/- A row of structs that the call owns, sorted by slices.SortFunc: between the print's words (Kd.R) and the shelf's (HoldsK, sortWorldK). No program. -/
import Derived.Shelf.SlSortCmp.WholeK
import Derived.Test.YtepjcfhkbcchmaaFlat
import Derived.Test.YtepjcfhkbcchmaaWKept
import Derived.Test.YtepjcfhkbcchmaaWWords
namespace Go.Proofs.Ytepjcfhkbcchmaa.SortK
set_option linter.unusedSimpArgs false
set_option linter.unusedVariables false
open Go Go.RowKit Go.Sort Go.Proofs.YtepjcfhkbcchmaaW.PrintWords


section
variable {α β : Type} [Inhabited β] {kd : Kd α} {e base g cap n : Nat} {w : World} {ok : Nat → Prop} {l : List α} {enc : α → List Value} {val : β → α}
theorem flatK_get (hk : ∀ x, (enc x).length = kd.sz) (d : Array β) (t : Nat) (h : t < d.size * kd.sz) : (((d.toList.map val).flatMap enc))[t]? = some (flatK (fun x => enc (val x)) kd.sz d)[t]! := by
  have hk0 : 0 < kd.sz := by
    rcases Nat.eq_zero_or_pos kd.sz with h0 | h0
    · rw [h0] at h; simp at h
    · exact h0
  have hq : t / kd.sz < d.size := Nat.div_lt_of_lt_mul (by rw [Nat.mul_comm]; exact h)
  rw [flat_get hk _ _ (by simpa using h), get_flatK _ _ _ _ h]
  have : (d.toList.map val)[t / kd.sz]? = some (val d[t / kd.sz]!) := by
    simp [hq]
  rw [this]
  have hm : t % kd.sz < (enc (val d[t / kd.sz]!)).length := by rw [hk]; exact Nat.mod_lt _ hk0
  simp [hm]
theorem holds_of (hk : ∀ x, (enc x).length = kd.sz) {cur : Array Value} (hb : w.heap[g]? = some (.cells cur e (0, 0))) (ht : cur.toList.take (l.length * kd.sz) = l.flatMap enc) (d : Array β) (hd : d.toList.map val = l) :
    HoldsK (fun x => enc (val x)) kd.sz w g 0 d := by
  intro j hj
  have hj' : j < d.size * kd.sz := by simpa using hj
  have hl : l.length = d.size := by rw [← hd]; simp
  refine ⟨?_, by simp [World.frozen?, hb]⟩
  have h1 : (cur.toList.take (l.length * kd.sz))[j]? = (l.flatMap enc)[j]? := by rw [ht]
  rw [List.getElem?_take_of_lt (by rw [hl]; exact hj')] at h1
  simp only [World.cell?, hb, Nat.zero_add]
  simp only [Option.isSome_none, Bool.false_eq_true, if_false]
  rw [← Array.getElem?_toList, h1, ← hd, flatK_get hk d j hj']
  rfl
theorem heap_after {os : Array Obj} {F : Array Value} {cur : Array Value} {fr : Nat × Nat} (hb : w.heap[g]? = some (.cells cur e fr)) :
    (grow (putRow id (Sort.ahead w n) g 0 F) os).heap[g]? = some (.cells (putCells id 0 F cur) e fr) := by
  have hg : g < w.heap.size := (Array.getElem?_eq_some_iff.1 hb).1
  rw [heap_grow_old _ _ (by simpa using hg)]
  simp [putRow, mapBlock, Sort.ahead, Array.getElem?_modify, hb, onCells]
theorem heap_other {os : Array Obj} {F : Array Value} {i : Nat} (hi : i < w.heap.size) (hne : i ≠ g) : (grow (putRow id (Sort.ahead w n) g 0 F) os).heap[i]? = w.heap[i]? := by
  rw [heap_grow_old _ _ (by simpa using hi)]
  have : g ≠ i := Ne.symm hne
  simp [putRow, mapBlock, Sort.ahead, Array.getElem?_modify, this]
theorem take_put (hk : ∀ x, (enc x).length = kd.sz) (cur : Array Value) (d : Array β) (h : d.size * kd.sz ≤ cur.size) :
    (putCells id 0 (flatK (fun x => enc (val x)) kd.sz d) cur).toList.take (d.size * kd.sz) = (d.toList.map val).flatMap enc := by
  apply List.ext_getElem?
  intro j
  by_cases hj : j < d.size * kd.sz
  · rw [List.getElem?_take_of_lt hj, Array.getElem?_toList, flatK_get hk d j hj]
    simp [putCells, hj, show j < cur.size by omega]
  · rw [List.getElem?_take_eq_none (by omega), List.getElem?_eq_none (by rw [flat_len hk]; simpa using hj)]
end
end Go.Proofs.Ytepjcfhkbcchmaa.SortK
