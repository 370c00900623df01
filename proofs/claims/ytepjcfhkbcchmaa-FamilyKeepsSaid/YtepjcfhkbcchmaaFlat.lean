/- Rows of structs, laid flat. No program. -/
import Derived.Test.YtepjcfhkbcchmaaWKept
import Derived.Test.YtepjcfhkbcchmaaWWords
import Derived.Laws.Rows
namespace Go.Proofs.Ytepjcfhkbcchmaa.SortK
set_option linter.unusedSimpArgs false
set_option linter.unusedVariables false
open Go Go.RowKit Go.Proofs.YtepjcfhkbcchmaaW.PrintWords

section
variable {α : Type} {enc : α → List Value} {k : Nat}
theorem flat_get (hk : ∀ x, (enc x).length = k) : ∀ (l : List α) (t : Nat), t < l.length * k → (l.flatMap enc)[t]? = (l[t / k]?).bind fun x => (enc x)[t % k]? := by
  intro l
  induction l with
  | nil => intro t h; simp at h
  | cons x r ih =>
    intro t h
    rw [List.flatMap_cons]
    by_cases ht : t < k
    · rw [List.getElem?_append_left (by rw [hk]; exact ht), Nat.div_eq_of_lt ht, Nat.mod_eq_of_lt ht]
      simp
    · have h' : t - k < r.length * k := by
        rw [List.length_cons, Nat.add_mul, Nat.one_mul] at h; omega
      have hk0 : 0 < k := by
        rcases Nat.eq_zero_or_pos k with h0 | h0
        · subst h0; simp at h
        · exact h0
      have e1 : t / k = (t - k) / k + 1 := by
        have : t = (t - k) + k := by omega
        rw [this, Nat.add_div_right _ hk0]; simp
      have e2 : t % k = (t - k) % k := by
        have : t = (t - k) + k := by omega
        rw [this, Nat.add_mod_right]; simp
      rw [List.getElem?_append_right (by rw [hk]; omega), hk, ih _ h', e1, e2, List.getElem?_cons_succ]
theorem flat_len (hk : ∀ x, (enc x).length = k) (l : List α) : (l.flatMap enc).length = l.length * k := by
  induction l with
  | nil => simp
  | cons x r ih => rw [List.flatMap_cons, List.length_append, hk, ih, List.length_cons, Nat.add_mul, Nat.one_mul, Nat.add_comm]
theorem reps_flat {R : α → List Value → Prop} (hk : ∀ x, (enc x).length = k) (hR : ∀ x cs, R x cs → cs = enc x) : ∀ (l : List α) (cs : List Value), Reps R k l cs → cs = l.flatMap enc := by
  intro l
  induction l with
  | nil =>
    intro cs h
    have := h.1
    simp at this
    simp [this]
  | cons x r ih =>
    intro cs h
    have h0 := hR _ _ (h.2 0 x rfl)
    rw [Nat.zero_mul, List.drop_zero] at h0
    have ht : Reps R k r (cs.drop k) := by
      refine ⟨?_, fun j p hj => ?_⟩
      · rw [List.length_drop, h.1, List.length_cons, Nat.add_mul, Nat.one_mul]; omega
      · have := h.2 (j + 1) p (by rw [List.getElem?_cons_succ]; exact hj)
        rw [List.drop_drop, show k + j * k = (j + 1) * k by rw [Nat.add_mul, Nat.one_mul, Nat.add_comm]]
        exact this
    rw [List.flatMap_cons, ← ih _ ht, ← h0, List.take_append_drop]
theorem flat_reps {R : α → List Value → Prop} (hk : ∀ x, (enc x).length = k) (hR : ∀ x, R x (enc x)) : ∀ l : List α, Reps R k l (l.flatMap enc) := by
  intro l
  refine ⟨flat_len hk l, fun j p hj => ?_⟩
  have hl : j < l.length := (List.getElem?_eq_some_iff.1 hj).1
  have e : ((l.flatMap enc).drop (j * k)).take k = enc p := by
    apply List.ext_getElem?
    intro i
    by_cases hi : i < k
    · have hb : j * k + i < l.length * k := by
        have := Nat.mul_le_mul_right k (show j + 1 ≤ l.length from hl)
        rw [Nat.add_mul, Nat.one_mul] at this; omega
      have hk0 : 0 < k := by omega
      rw [List.getElem?_take_of_lt hi, List.getElem?_drop, flat_get hk l _ hb,
        show (j * k + i) / k = j by rw [Nat.add_comm, Nat.add_mul_div_right _ _ hk0, Nat.div_eq_of_lt hi, Nat.zero_add],
        show (j * k + i) % k = i by rw [Nat.add_comm, Nat.add_mul_mod_self_right, Nat.mod_eq_of_lt hi], hj]
      rfl
    · rw [List.getElem?_eq_none (by rw [List.length_take]; omega), List.getElem?_eq_none (by rw [hk]; omega)]
  rw [e]; exact hR p
end
end Go.Proofs.Ytepjcfhkbcchmaa.SortK
