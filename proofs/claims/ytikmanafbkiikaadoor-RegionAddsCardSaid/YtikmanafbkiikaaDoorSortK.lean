/- A row of structs that the call owns, sorted by slices.SortFunc: between the print's words (Kd.R) and the shelf's (HoldsK, sortWorldK). No program. -/
import Derived.Shelf.SlSortCmp.WholeK
import Derived.Test.YtikmanafbkiikaaDoorWKept
import Derived.Test.YtikmanafbkiikaaDoorWWords
namespace Go.Proofs.YtikmanafbkiikaaDoor.SortK
set_option linter.unusedSimpArgs false
set_option linter.unusedVariables false
open Go Go.RowKit Go.Sort Go.Proofs.YtikmanafbkiikaaDoorW.PrintWords

section
variable {α : Type} {enc : α → List Value} {k : Nat}
theorem flat_get (hk : ∀ x, (enc x).length = k) : ∀ (l : List α) (t : Nat), t < l.length * k → (l.flatMap enc)[t]? = (l[t / k]?).bind fun x => (enc x)[t % k]? := by
  intro l
  induction l with
  | nil => intro t h; simp at h
  | cons x r ih =>
    intro t h
    rw [List.flatMap_cons]
    by_cases ht : t < k
    · rw [List.getElem?_append_left (by rw [hk]; exact ht), Nat.div_eq_of_lt ht, Nat.mod_eq_of_lt ht]
      simp
    · have h' : t - k < r.length * k := by
        rw [List.length_cons, Nat.add_mul, Nat.one_mul] at h; omega
      have hk0 : 0 < k := by
        rcases Nat.eq_zero_or_pos k with h0 | h0
        · subst h0; simp at h
        · exact h0
      have e1 : t / k = (t - k) / k + 1 := by
        have : t = (t - k) + k := by omega
        rw [this, Nat.add_div_right _ hk0]; simp
      have e2 : t % k = (t - k) % k := by
        have : t = (t - k) + k := by omega
        rw [this, Nat.add_mod_right]; simp
      rw [List.getElem?_append_right (by rw [hk]; omega), hk, ih _ h', e1, e2, List.getElem?_cons_succ]
theorem flat_len (hk : ∀ x, (enc x).length = k) (l : List α) : (l.flatMap enc).length = l.length * k := by
  induction l with
  | nil => simp
  | cons x r ih => rw [List.flatMap_cons, List.length_append, hk, ih, List.length_cons, Nat.add_mul, Nat.one_mul, Nat.add_comm]
theorem reps_flat {R : α → List Value → Prop} (hk : ∀ x, (enc x).length = k) (hR : ∀ x cs, R x cs → cs = enc x) : ∀ (l : List α) (cs : List Value), Reps R k l cs → cs = l.flatMap enc := by
  intro l
  induction l with
  | nil =>
    intro cs h
    have := h.1
    simp at this
    simp [this]
  | cons x r ih =>
    intro cs h
    have h0 := hR _ _ (h.2 0 x rfl)
    rw [Nat.zero_mul, List.drop_zero] at h0
    have ht : Reps R k r (cs.drop k) := by
      refine ⟨?_, fun j p hj => ?_⟩
      · rw [List.length_drop, h.1, List.length_cons, Nat.add_mul, Nat.one_mul]; omega
      · have := h.2 (j + 1) p (by rw [List.getElem?_cons_succ]; exact hj)
        rw [List.drop_drop, show k + j * k = (j + 1) * k by rw [Nat.add_mul, Nat.one_mul, Nat.add_comm]]
        exact this
    rw [List.flatMap_cons, ← ih _ ht, ← h0, List.take_append_drop]
theorem flat_reps {R : α → List Value → Prop} (hk : ∀ x, (enc x).length = k) (hR : ∀ x, R x (enc x)) : ∀ l : List α, Reps R k l (l.flatMap enc) := by
  intro l
  refine ⟨flat_len hk l, fun j p hj => ?_⟩
  have hl : j < l.length := (List.getElem?_eq_some_iff.1 hj).1
  have e : ((l.flatMap enc).drop (j * k)).take k = enc p := by
    apply List.ext_getElem?
    intro i
    by_cases hi : i < k
    · have hb : j * k + i < l.length * k := by
        have := Nat.mul_le_mul_right k (show j + 1 ≤ l.length from hl)
        rw [Nat.add_mul, Nat.one_mul] at this; omega
      have hk0 : 0 < k := by omega
      rw [List.getElem?_take_of_lt hi, List.getElem?_drop, flat_get hk l _ hb,
        show (j * k + i) / k = j by rw [Nat.add_comm, Nat.add_mul_div_right _ _ hk0, Nat.div_eq_of_lt hi, Nat.zero_add],
        show (j * k + i) % k = i by rw [Nat.add_comm, Nat.add_mul_mod_self_right, Nat.mod_eq_of_lt hi], hj]
      rfl
    · rw [List.getElem?_eq_none (by rw [List.length_take]; omega), List.getElem?_eq_none (by rw [hk]; omega)]
  rw [e]; exact hR p
end

section
variable {α β : Type} [Inhabited β] {kd : Kd α} {e base g cap n : Nat} {w : World} {ok : Nat → Prop} {l : List α} {enc : α → List Value} {val : β → α}
theorem flatK_get (hk : ∀ x, (enc x).length = kd.sz) (d : Array β) (t : Nat) (h : t < d.size * kd.sz) : (((d.toList.map val).flatMap enc))[t]? = some (flatK (fun x => enc (val x)) kd.sz d)[t]! := by
  have hk0 : 0 < kd.sz := by
    rcases Nat.eq_zero_or_pos kd.sz with h0 | h0
    · rw [h0] at h; simp at h
    · exact h0
  have hq : t / kd.sz < d.size := Nat.div_lt_of_lt_mul (by rw [Nat.mul_comm]; exact h)
  rw [flat_get hk _ _ (by simpa using h), get_flatK _ _ _ _ h]
  have : (d.toList.map val)[t / kd.sz]? = some (val d[t / kd.sz]!) := by
    simp [hq]
  rw [this]
  have hm : t % kd.sz < (enc (val d[t / kd.sz]!)).length := by rw [hk]; exact Nat.mod_lt _ hk0
  simp [hm]
theorem holds_of (hk : ∀ x, (enc x).length = kd.sz) {cur : Array Value} (hb : w.heap[g]? = some (.cells cur e (0, 0))) (ht : cur.toList.take (l.length * kd.sz) = l.flatMap enc) (d : Array β) (hd : d.toList.map val = l) :
    HoldsK (fun x => enc (val x)) kd.sz w g 0 d := by
  intro j hj
  have hj' : j < d.size * kd.sz := by simpa using hj
  have hl : l.length = d.size := by rw [← hd]; simp
  refine ⟨?_, by simp [World.frozen?, hb]⟩
  have h1 : (cur.toList.take (l.length * kd.sz))[j]? = (l.flatMap enc)[j]? := by rw [ht]
  rw [List.getElem?_take_of_lt (by rw [hl]; exact hj')] at h1
  simp only [World.cell?, hb, Nat.zero_add]
  simp only [Option.isSome_none, Bool.false_eq_true, if_false]
  rw [← Array.getElem?_toList, h1, ← hd, flatK_get hk d j hj']
  rfl
theorem heap_after {os : Array Obj} {F : Array Value} {cur : Array Value} {fr : Nat × Nat} (hb : w.heap[g]? = some (.cells cur e fr)) :
    (grow (putRow id (Sort.ahead w n) g 0 F) os).heap[g]? = some (.cells (putCells id 0 F cur) e fr) := by
  have hg : g < w.heap.size := (Array.getElem?_eq_some_iff.1 hb).1
  rw [heap_grow_old _ _ (by simpa using hg)]
  simp [putRow, mapBlock, Sort.ahead, Array.getElem?_modify, hb, onCells]
theorem heap_other {os : Array Obj} {F : Array Value} {i : Nat} (hi : i < w.heap.size) (hne : i ≠ g) : (grow (putRow id (Sort.ahead w n) g 0 F) os).heap[i]? = w.heap[i]? := by
  rw [heap_grow_old _ _ (by simpa using hi)]
  have : g ≠ i := Ne.symm hne
  simp [putRow, mapBlock, Sort.ahead, Array.getElem?_modify, this]
theorem take_put (hk : ∀ x, (enc x).length = kd.sz) (cur : Array Value) (d : Array β) (h : d.size * kd.sz ≤ cur.size) :
    (putCells id 0 (flatK (fun x => enc (val x)) kd.sz d) cur).toList.take (d.size * kd.sz) = (d.toList.map val).flatMap enc := by
  apply List.ext_getElem?
  intro j
  by_cases hj : j < d.size * kd.sz
  · rw [List.getElem?_take_of_lt hj, Array.getElem?_toList, flatK_get hk d j hj]
    simp [putCells, hj, show j < cur.size by omega]
  · rw [List.getElem?_take_eq_none (by omega), List.getElem?_eq_none (by rw [flat_len hk]; simpa using hj)]
end
end Go.Proofs.YtikmanafbkiikaaDoor.SortK
