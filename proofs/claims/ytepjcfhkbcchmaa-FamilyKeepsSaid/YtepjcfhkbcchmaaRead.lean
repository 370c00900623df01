/- What came in, read as the print's words tell it: whole numbers, texts, structs and rows of them, however deep. No program of its own. -/
import Derived.Test.YtepjcfhkbcchmaaWWords
import Derived.Deep.Slices
import Derived.SizedLaws
import Derived.OpenShut
namespace Go.Proofs.Ytepjcfhkbcchmaa
set_option linter.unusedSimpArgs false
set_option linter.unusedVariables false
open Go Go.RowKit Go.Deep Go.WideShapes Go.ChangeShapes Go.Proofs.YtepjcfhkbcchmaaW.PrintWords

/-- What is read at type t, as data of kind d; wf: what is known of it. -/
structure Rd (P : Program) (t : TypeId) {α : Type} (d : Kd α) (wf : α → Prop) : Prop where
  n : P.cellsOf t = d.sz
  rd : ∀ {H : Type} {enc : TypeId × Value → H} {w : World} {base : Nat} {sp : Nat → Bool} {held : Bool} {fuel : Nat} {cs : List Value} {x : DataW H × List MemPlace},
    DataW.trod enc P w base sp held fuel t cs = some x → (∀ m ∈ DataW.weights P t x.1, m ≤ 140737488351232) → ∃ a, d.K w a cs ∧ wf a

section
variable {P : Program} {t e : TypeId}
theorem Rd.int {k : IntKind} (ht : P.underlying t = some (.int k)) (hn : P.cellsOf t = 1) : Rd P t (Kd.int k) (fun a => (Lit.int k a).wf = true) :=
  ⟨hn, fun h _ => by
    obtain ⟨n, rfl, _, hw⟩ := DataW.trod_int ht h
    exact ⟨n, rfl, hw⟩⟩
theorem Rd.bool (ht : P.underlying t = some .bool) (hn : P.cellsOf t = 1) : Rd P t Kd.bool (fun _ => True) :=
  ⟨hn, fun h _ => by
    obtain ⟨b, rfl, _⟩ := DataW.trod_bool ht h
    exact ⟨b, rfl, trivial⟩⟩
theorem weights_all {H : Type} {e : TypeId} : ∀ {ds : List (DataW H)} {i : Nat} {d : DataW H}, ds[i]? = some d → ∀ m ∈ DataW.weights P e d, m ∈ DataW.weightsAll P e ds
  | d0 :: ds, 0, d, hd, m, hm => by
    simp only [List.getElem?_cons_zero, Option.some.injEq] at hd
    subst hd
    simp only [DataW.weightsAll, List.mem_append]
    exact .inl hm
  | d0 :: ds, i + 1, d, hd, m, hm => by
    simp only [List.getElem?_cons_succ] at hd
    simp only [DataW.weightsAll, List.mem_append]
    exact .inr (weights_all hd m hm)
theorem Rd.slice {α : Type} {d : Kd α} {wf : α → Prop} {B : Nat} (ht : P.underlying t = some (.slice e)) (hn : P.cellsOf t = 1) (he : Rd P e d wf) (hB : P.bytesOf e = B) :
    Rd P t (Kd.slice e d) (fun l => l.length ≤ maxLen ∧ l.length * B ≤ 140737488351232 ∧ ∀ x ∈ l, wf x) :=
  ⟨hn, fun {H enc w base sp held fuel cs x} h hw => by
    rcases open_slice ht h with ⟨rfl, rfl⟩ | ⟨a, len, cap, m, n, D, Pl, rfl, _, hl, hm, hmm, rfl, hi⟩
    · exact ⟨[], ⟨none, 0, rfl, Nat.le_refl _, Kd.C_nil _ _⟩, by simp, by simp, by simp⟩
    · have hlm : len ≤ m := by rw [hmm]; split <;> omega
      have hW : ∀ q ∈ DataW.weights P t (DataW.slice ((List.range len).map D) ((List.range (m - len)).map fun j => D (len + j)) : DataW H), q ≤ 140737488351232 := hw
      simp only [DataW.weights, ht, List.length_map, List.length_range] at hW
      have hbd := hW _ (List.mem_cons_self ..)
      rw [hB] at hbd
      have hel : ∀ i, i < len → ∃ p : α, (∃ c, c.length = d.sz ∧ d.K w p c ∧ ∀ j u, c[j]? = some u → w.cell? (a.add (i * d.sz + j)) = some u) ∧ wf p := by
        intro i hil
        obtain ⟨cs', hc, ht'⟩ := hi i (by omega)
        rw [he.n] at hc
        obtain ⟨_, hcl, hat⟩ := World.cells?_some hc
        have hDi : ((List.range len).map D)[i]? = some (D i) := by simp [hil]
        obtain ⟨p, hK, hwf⟩ := he.rd ht' (fun q hq => hW q (List.mem_cons_of_mem _ (List.mem_append.2 (.inl (weights_all hDi q hq)))))
        refine ⟨p, ⟨cs', hcl, hK, fun j u hj => ?_⟩, hwf⟩
        have hj' : j < d.sz := by rw [← hcl]; exact (List.getElem?_eq_some_iff.1 hj).1
        rw [← Go.Deep.add_add, hat j hj', hj]
      rcases Nat.eq_zero_or_pos len with h0 | h0
      · subst h0
        exact ⟨[], ⟨some a, cap, rfl, Nat.zero_le _, rfl, Nat.zero_le _, fun h => absurd h (by simp)⟩, by simp, by simp, by simp⟩
      · obtain ⟨p0, _⟩ := hel 0 h0
        have inh : Inhabited α := ⟨p0⟩
        obtain ⟨V, hV⟩ := choose_lt hel
        refine ⟨(List.range len).map V, ⟨some a, cap, by simp, by simpa using hl, by simp, ?_, fun _ => ⟨a, rfl, fun j p hj => ?_⟩⟩, ?_, ?_, ?_⟩
        · simp; unfold maxLen at hm; omega
        · have hj' : j < len := by have := (List.getElem?_eq_some_iff.1 hj).1; simpa using this
          obtain rfl : V j = p := by simpa [hj'] using hj
          exact (hV j hj').1
        · simp; omega
        · simp only [List.length_map, List.length_range]
          exact Nat.le_trans (Nat.mul_le_mul_right _ (by omega)) hbd
        · intro x hx
          obtain ⟨j, hj, rfl⟩ := List.mem_map.1 hx
          exact (hV j (List.mem_range.1 hj)).2⟩
/-- The cells of one field, and what stands behind. -/
theorem split_at (cs : List Value) (o s : Nat) : cs.drop o = (cs.drop o).take s ++ cs.drop (o + s) := by
  rw [← List.drop_drop, List.take_append_drop]
theorem last_at {cs : List Value} {o s : Nat} (h : cs.length = o + s) : (cs.drop o).take s = cs.drop o := List.take_of_length_le (by rw [List.length_drop]; omega)
end
section
variable {H : Type} {enc : TypeId × Value → H} {P : Program} {w : World} {t e : TypeId} {r : Reach} {base b0 : Nat} {sp : Nat → Bool} {held : Bool} {v : Value} {dd : DataW H} {ps : List MemPlace}
/-- What is bounded of one of the arguments. -/
theorem weigh {ts : List TypeId} {ds : List (DataW H)} {j : Nat} (hsz : (DataW.weightsEach P ts ds).all (· ≤ reachBytes) = true) (ht : ts[j]? = some t) (hd : ds[j]? = some dd) : ∀ m ∈ DataW.weights P t dd, m ≤ 140737488351232 := fun m hm => by
  have := List.all_eq_true.1 hsz m (DataW.weights_mem_each ht hd m hm)
  have e : reachBytes = 140737488351232 := by decide
  rw [e] at this
  simpa using this
theorem arg_slice {α : Type} {d : Kd α} {wf : List α → Prop} (ht : P.underlying t = some (.slice e)) (hR : Rd P t (Kd.slice e d) wf) (hv : Value.okWide P w r b0 t v) (h : DataW.Trod enc P w base sp held t v dd ps) (hw : ∀ m ∈ DataW.weights P t dd, m ≤ 140737488351232) :
    ∃ (A : Option Addr) (c : Nat) (l : List α), v = .slice A l.length c ∧ l.length ≤ c ∧ Kd.C d w A l.length l ∧ wf l := by
  obtain ⟨a, len, cap, rfl⟩ := okWide_slice ht hv
  obtain ⟨fuel, hf⟩ := h
  obtain ⟨l, ⟨A, c, hcs, hl, hC⟩, hwf⟩ := hR.rd hf hw
  have : (Value.slice a len cap).cells.toList = [.slice a len cap] := by simp [Value.cells]
  rw [this] at hcs
  injection hcs with h1
  exact ⟨A, c, l, h1, hl, hC, hwf⟩
end
end Go.Proofs.Ytepjcfhkbcchmaa
