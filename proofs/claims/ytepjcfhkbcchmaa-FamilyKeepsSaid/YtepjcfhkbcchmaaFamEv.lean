/- What the functions of package family answer, in plain words. No program in sight. -/
import Derived.Test.YtepjcfhkbcchmaaXFamx
import Derived.Lib.Hide
namespace Go.Proofs.Ytepjcfhkbcchmaa.FamEv
set_option linter.unusedSimpArgs false
set_option linter.unusedVariables false
open Go Go.RowKit Go.Proofs.Ytepjcfhkbcchmaa Go.Proofs.Ytepjcfhkbcchmaa.XFam

abbrev M := S25
abbrev zM : M := z25
theorem w64 {j : Nat} (h : j ≤ 1000000) : wrap64 ((j : Int) + 1) = ((j + 1 : Nat) : Int) := by unfold wrap64; omega
def fnd (l : List M) (p : Int) : Option M := l.find? fun x => decide (x.f0 = p)
theorem ix_none {l : List M} {p : Int} (h : fnd l p = none) : ixM l p = -1 := by
  unfold ixM Lib.idxBy
  rcases idx_spec (fun (_ y : M) => decide (y.f0 = p)) zM l 0 with ⟨e, _⟩ | ⟨a, y, b, rfl, e, hy, _⟩
  · exact e
  · unfold fnd at h
    rw [List.find?_eq_none] at h
    exact absurd hy (h y (by simp))
theorem ix_some {l : List M} {p : Int} {x : M} (h : fnd l p = some x) : ∃ i : Nat, ixM l p = (i : Int) ∧ i < l.length ∧ l.getD i zM = x := by
  unfold ixM Lib.idxBy
  rcases idx_spec (fun (_ y : M) => decide (y.f0 = p)) zM l 0 with ⟨e, hn⟩ | ⟨a, y, b, rfl, e, hy, hz⟩
  · unfold fnd at h
    have h1 := List.find?_some h
    rw [hn x (List.mem_of_find?_eq_some h)] at h1
    cases h1
  · refine ⟨a.length, by rw [e, Nat.zero_add], by simp, ?_⟩
    unfold fnd at h
    rw [List.find?_append, List.find?_eq_none.2 (fun z hzm => by rw [hz z hzm]; simp), Option.none_or, List.find?_cons_of_pos (by exact hy)] at h
    rw [← Option.some.inj h]
    simp
def aliveP (l : List M) (p : Int) : Bool := match fnd l p with | some x => !x.f2 | none => false
theorem at_ev (l : List M) (p : Int) : family_at.f l p = some (ixM l p, (fnd l p).isSome) := by
  unfold family_at.f
  cases h : fnd l p with
  | none => rw [ix_none h]; rfl
  | some x =>
    obtain ⟨i, e, _, _⟩ := ix_some h
    rw [e]
    simp
theorem alive_ev (l : List M) (p : Int) : family_alive.f l p = some (aliveP l p) := by
  unfold family_alive.f aliveP
  rw [at_ev, Option.bind_some]
  cases h : fnd l p with
  | none => rfl
  | some x =>
    obtain ⟨i, e, hi, hx⟩ := ix_some h
    simp only [Option.isSome_some, if_true, e]
    rw [if_pos (by omega), if_pos (by omega)]
    unfold rd_T25
    rw [Int.toNat_natCast]
    rw [show l.getD i z25 = x from hx]
/-- Does one come to the first one in d steps? -/
def ledP (l : List M) : Nat → Int → Bool
  | 0, p => p == 1
  | d + 1, p => p == 1 || match fnd l p with | none => false | some x => ledP l d x.f1
theorem leads_l0 (l : List M) (hl : l.length ≤ 1000) : ∀ (d j k : Nat) (p : Int), j + d = l.length → d < k → family_leads.l0 k l p (l.length : Int) (j : Int) = some (ledP l d p)
  | 0, j, k, p, hj, hk => by
    obtain ⟨n, rfl⟩ : ∃ n, k = n + 1 := ⟨k - 1, by omega⟩
    rw [family_leads.l0, if_neg (by omega)]
    rfl
  | d + 1, j, k, p, hj, hk => by
    obtain ⟨n, rfl⟩ : ∃ n, k = n + 1 := ⟨k - 1, by omega⟩
    rw [family_leads.l0, if_pos (by omega)]
    by_cases h1 : p = 1
    · rw [if_pos h1, ledP, h1]
      rfl
    · rw [if_neg h1, at_ev, Option.bind_some, ledP, beq_false_of_ne h1, Bool.false_or]
      cases h : fnd l p with
      | none => rfl
      | some x =>
        obtain ⟨i, e, hi, hx⟩ := ix_some h
        simp only [Option.isSome_some, if_true, e]
        rw [if_pos (by omega), if_pos (by omega), w64 (by omega), leads_l0 l hl d (j + 1) n _ (by omega) (by omega)]
        unfold rd_T25
        rw [Int.toNat_natCast, show l.getD i z25 = x from hx]
theorem leads_ev (l : List M) (hl : l.length ≤ 1000) (k : Nat) (hk : l.length < k) (p : Int) : family_leads.f k l p = some (ledP l l.length p) :=
  leads_l0 l hl l.length 0 k p (Nat.zero_add _) hk
def pidOk (p : Int) : Bool := decide (1 ≤ p ∧ p ≤ 99)
theorem pids_ev (p : Int) : pids_Check.f p = some (if pidOk p = true then none else some 22) := by
  unfold pids_Check.f pidOk
  by_cases h : 1 ≤ p ∧ p ≤ 99
  · rw [if_neg (by omega), if_neg (by omega), if_pos (decide_eq_true h)]
  · rw [if_neg (c := decide (1 ≤ p ∧ p ≤ 99) = true) (by simpa using h)]
    by_cases h1 : p < 1
    · rw [if_pos h1]
    · rw [if_neg h1, if_pos (by omega)]
/-- May one of members be, that stands at i? -/
def mayP (l : List M) (i : Nat) : Bool :=
  let m := l.getD i zM
  pidOk m.f0 && (decide (i = 0) || decide ((l.getD (i - 1) zM).f0 < m.f0)) && (m.f2 || m.f3 == 0) && (if i = 0 then m.f0 == 1 && m.f1 == 0 && !m.f2 else aliveP l m.f1 && ledP l l.length m.f0)
theorem may_ev (l : List M) (hl : l.length ≤ 1000) (k : Nat) (hk : l.length + 1 < k) (i : Nat) (hi : i < l.length) : family_may.f k l (i : Int) = some (mayP l i) := by
  obtain ⟨n, rfl⟩ : ∃ n, k = n + 1 := ⟨k - 1, by omega⟩
  unfold family_may.f mayP
  rw [if_pos (by omega), if_pos (by omega)]
  have hrd : rd_T25 l (i : Int) = l.getD i zM := by unfold rd_T25; rw [Int.toNat_natCast]
  rw [hrd]
  generalize l.getD i zM = m
  obtain ⟨m0, m1, m2, m3⟩ := m
  simp only [pids_ev, Option.bind_some]
  have key : ∀ b : Bool, family_may.j0 (n + 1) l (i : Int) b m0 m1 m2 m3 = some (if b = true then false else (if i = 0 then m0 == 1 && m1 == 0 && !m2 else aliveP l m1 && ledP l l.length m0)) := fun b => by
    rw [family_may.j0]
    cases b with
    | true => rfl
    | false =>
      rw [if_neg (show ¬ (false = true) by decide), if_neg (show ¬ (false = true) by decide)]
      by_cases h0 : i = 0
      · rw [if_pos (by omega), if_pos h0]
        by_cases a : m0 = 1
        · rw [if_pos a, a]
          by_cases b : m1 = 0
          · rw [if_pos b, b]; simp
          · rw [if_neg b, beq_false_of_ne b]; simp
        · rw [if_neg a, beq_false_of_ne a]; simp
      · rw [if_neg (by omega), if_neg h0, alive_ev, Option.bind_some]
        cases aliveP l m1 with
        | false => simp
        | true => rw [if_pos rfl, leads_ev l hl n (by omega), Option.bind_some, Bool.true_and]
  cases hp : pidOk m0 with
  | false =>
    simp
    exact key true
  | true =>
    simp only [Option.isNone_none, if_true, Bool.true_and]
    by_cases h0 : i = 0
    · rw [if_neg (by omega)]
      subst h0
      cases m2 with
      | true => rw [if_pos rfl, key]; simp
      | false =>
        rw [if_neg (by decide), key]
        by_cases h3 : m3 = 0
        · subst h3; simp
        · simp [h3]
    · have hw : wrap64 ((i : Int) - 1) = ((i - 1 : Nat) : Int) := by unfold wrap64; omega
      have hrd1 : rd_T25 l ((i - 1 : Nat) : Int) = l.getD (i - 1) zM := by unfold rd_T25; rw [Int.toNat_natCast]
      rw [if_pos (by omega), hw, if_pos (by omega), if_pos (by omega), hrd1]
      generalize l.getD (i - 1) zM = q
      by_cases hq : q.f0 ≥ m0
      · rw [if_pos hq, key, if_pos rfl]
        rw [decide_eq_false (show ¬ q.f0 < m0 by omega), decide_eq_false h0]
        simp
      · rw [if_neg hq, decide_eq_true (show q.f0 < m0 by omega), Bool.or_true, Bool.true_and]
        cases m2 with
        | true => rw [if_pos rfl, key]; simp [h0]
        | false =>
          rw [if_neg (by decide), key]
          by_cases h3 : m3 = 0
          · subst h3; simp [h0]
          · simp [h3]
/-- May members be? -/
def chkP (l : List M) : Bool := decide (1 ≤ l.length ∧ l.length ≤ 16) && (List.range l.length).all (mayP l)
theorem check_l0 (l : List M) (hl : l.length ≤ 1000) : ∀ (d j k : Nat), j + d = l.length → l.length + 1 + d < k → family_Check.l0 k l (l.length : Int) (j : Int) = some (if ((List.range d).all fun t => mayP l (j + t)) = true then none else some 22)
  | 0, j, k, hj, hk => by
    obtain ⟨n, rfl⟩ : ∃ n, k = n + 1 := ⟨k - 1, by omega⟩
    rw [family_Check.l0, if_neg (by omega)]
    rfl
  | d + 1, j, k, hj, hk => by
    obtain ⟨n, rfl⟩ : ∃ n, k = n + 1 := ⟨k - 1, by omega⟩
    rw [family_Check.l0, if_pos (by omega), may_ev l hl n (by omega) j (by omega), Option.bind_some, w64 (by omega), List.range_succ_eq_map, List.all_cons, List.all_map, Nat.add_zero]
    cases mayP l j with
    | false => rfl
    | true =>
      rw [if_pos rfl, check_l0 l hl d (j + 1) n (by omega) (by omega), Bool.true_and]
      have : (fun t => mayP l (j + 1 + t)) = ((fun t => mayP l (j + t)) ∘ Nat.succ) := by
        funext t
        show mayP l (j + 1 + t) = mayP l (j + (t + 1))
        rw [show j + 1 + t = j + (t + 1) by omega]
      rw [this]
theorem check_ev (l : List M) (hl : l.length ≤ 1000) (k : Nat) (hk : 2 * l.length + 3 < k) : family_Check.f k l = some (if chkP l = true then none else some 22) := by
  obtain ⟨n, rfl⟩ : ∃ n, k = n + 1 := ⟨k - 1, by omega⟩
  unfold family_Check.f chkP
  by_cases h : 1 ≤ l.length ∧ l.length ≤ 16
  · rw [if_neg (by omega), decide_eq_false (show ¬ (l.length : Int) > 16 by omega), family_Check.j0, if_neg (by decide), decide_eq_true h, Bool.true_and]
    have e := check_l0 l hl l.length 0 n (Nat.zero_add _) (by omega)
    simp only [Nat.zero_add] at e
    exact e
  · rw [decide_eq_false h, Bool.false_and, if_neg (show ¬ (false = true) by decide)]
    by_cases h1 : (l.length : Int) < 1
    · rw [if_pos h1, family_Check.j0, if_pos rfl]
    · rw [if_neg h1, decide_eq_true (show (l.length : Int) > 16 by omega), family_Check.j0, if_pos rfl]
end Go.Proofs.Ytepjcfhkbcchmaa.FamEv
