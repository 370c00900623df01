/- What the program's functions on regions come to, in plain words. -/
import Derived.Test.YtikmanafbkiikaaDoorRegMath
import Derived.Test.YtikmanafbkiikaaDoorXRegionx3
import Derived.Test.YtikmanafbkiikaaDoorXRegionx4
import Derived.Test.YtikmanafbkiikaaDoorXRegionx4
import Derived.Test.YtikmanafbkiikaaDoorXRegionx7
import Derived.Test.YtikmanafbkiikaaDoorXRegionx10
import Derived.Test.YtikmanafbkiikaaDoorXRegionx10
import Derived.Test.YtikmanafbkiikaaDoorXRegionx7
import Derived.Test.YtikmanafbkiikaaDoorXRegionx10
import Derived.Test.YtikmanafbkiikaaDoorXRegionx10
namespace Go.Proofs.YtikmanafbkiikaaDoor.XRegion
set_option linter.unusedSimpArgs false
set_option linter.unusedVariables false
open Go.RowKit Go.Proofs.YtikmanafbkiikaaDoorW.PrintWords Go.Proofs.YtikmanafbkiikaaDoorW.PrintLast

def big : Nat := 1000000000000
theorem wsm {i : Int} (h0 : -4611686018427387904 ≤ i) (h1 : i ≤ 4611686018427387904) : wrap64 i = i := by unfold wrap64; omega
theorem rd_here (p : List G) (r : G) (l : List G) : rd_T109 (p ++ r :: l) (p.length : Int) = r := by
  unfold rd_T109; simp
theorem ranged_eq (a b : Int) : region_ranged.f a b = some (decide (0 ≤ a ∧ a < b ∧ b ≤ 4096)) := by
  unfold region_ranged.f
  by_cases h1 : a ≥ 0
  · rw [if_pos h1]
    by_cases h2 : a < b
    · rw [if_pos h2]; congr 1; rw [Bool.eq_iff_iff]; simp; omega
    · rw [if_neg h2]; congr 1; rw [eq_comm, decide_eq_false_iff_not]; omega
  · rw [if_neg h1]; congr 1; rw [eq_comm, decide_eq_false_iff_not]; omega
theorem may_eq (a b p : Int) (hp : 0 ≤ p) : region_may.f a b p = some (decide (Gok ⟨a, b, p⟩)) := by
  unfold region_may.f
  rw [ranged_eq]
  simp only [Option.bind_some, decide_eq_true_eq]
  by_cases h : 0 ≤ a ∧ a < b ∧ b ≤ 4096
  · rw [if_pos h]
    by_cases h7 : p ≤ 7
    · rw [decide_eq_true h7, decide_eq_true (show Gok ⟨a, b, p⟩ from ⟨h.1, h.2.1, h.2.2, hp, h7⟩)]
    · rw [decide_eq_false h7, decide_eq_false (show ¬ Gok ⟨a, b, p⟩ from fun g => h7 g.2.2.2.2)]
  · rw [if_neg h, decide_eq_false (show ¬ Gok ⟨a, b, p⟩ from fun g => h ⟨g.1, g.2.1, g.2.2.1⟩)]
theorem meets_eq (a b p c d : Int) : region_meets.f a b p c d = some (decide (a < d ∧ c < b)) := by
  unfold region_meets.f
  by_cases h1 : a < d
  · rw [if_pos h1]; congr 1; rw [Bool.eq_iff_iff]; simp; omega
  · rw [if_neg h1]; congr 1; rw [eq_comm, decide_eq_false_iff_not]; omega
theorem without_eq (r : G) (a b : Int) : region_without.f r.f0 r.f1 r.f2 a b = some (cut1 r a b) := by
  unfold region_without.f cut1
  rw [meets_eq]
  simp only [Option.bind_some, decide_eq_true_eq, List.length_nil, List.nil_append, List.length_singleton]
  by_cases h1 : r.f0 < b ∧ a < r.f1 <;> by_cases h2 : r.f0 < a <;> by_cases h3 : b < r.f1
  all_goals simp [h1, h2, h3]

/-- What the program's Check goes by. -/
def okF : Option G → List G → Bool
  | _, [] => true
  | q, r :: l => decide (Gok r) && (match q with | none => true | some q => !decide (q.f1 > r.f0 ∨ q.f1 = r.f0 ∧ q.f2 = r.f2)) && okF (some r) l
theorem okF_cons (q : Option G) (r : G) (l : List G) : okF q (r :: l) = (decide (Gok r) && (match q with | none => true | some q => !decide (q.f1 > r.f0 ∨ q.f1 = r.f0 ∧ q.f2 = r.f2)) && okF (some r) l) := by cases q <;> rfl
theorem okF_some : ∀ {l : List G} {q : G}, okF (some q) l = true ↔ Ch q.f1 l ∧ Mx (q :: l)
  | [], q => by simp [okF, Ch, Mx]
  | r :: l, q => by
    rw [okF, Bool.and_eq_true, Bool.and_eq_true, okF_some]
    simp only [decide_eq_true_eq, Bool.not_eq_true', decide_eq_false_iff_not, Ch, Mx]
    constructor
    · rintro ⟨⟨h1, h2⟩, h3, h4⟩; exact ⟨⟨by omega, h1, h3⟩, fun e => h2 (.inr e), h4⟩
    · rintro ⟨⟨h1, h2, h3⟩, h4, h5⟩; exact ⟨⟨h2, fun e => e.elim (fun e => by omega) h4⟩, h3, h5⟩
theorem okF_none {l : List G} : okF none l = true ↔ Vd l := by
  cases l with
  | nil => simp [okF, Vd, Ch, Mx]
  | cons r l =>
    rw [okF, Bool.and_eq_true, Bool.and_eq_true, okF_some]
    simp only [decide_eq_true_eq, Vd, Ch]
    constructor
    · rintro ⟨⟨h1, _⟩, h3, h4⟩; exact ⟨⟨h1.1, h1, h3⟩, h4⟩
    · rintro ⟨⟨h1, h2, h3⟩, h4⟩; exact ⟨⟨h2, trivial⟩, h3, h4⟩
instance (l : List G) : Decidable (Vd l) := decidable_of_iff _ okF_none
/-- The numbers are such as they come: of their kind. -/
def Pn (l : List G) : Prop := ∀ x ∈ l, 0 ≤ x.f2
theorem Vd.pn {l : List G} (h : Vd l) : Pn l := fun x hx => ((keys_nodup h.1).2.2 x hx).2.2.2.2.1

theorem check_ev (l : List G) : ∀ (t p : List G), p ++ t = l → Pn l → l.length ≤ big → Ev (fun k => region_Check.l0 k l l (l.length : Int) (p.length : Int)) (if okF p.getLast? t = true then none else some 22) := by
  intro t
  induction t with
  | nil =>
    intro p hp hn hl
    refine Ev.step (fun k => by rw [region_Check.l0]) ?_
    have : ¬ ((p.length : Int) < (l.length : Int)) := by rw [← hp]; simp
    simp only [if_neg this]
    exact Ev.now _
  | cons r t ih =>
    intro p hp hn hl
    refine Ev.step (fun k => by rw [region_Check.l0]) ?_
    have h1 : (p.length : Int) < (l.length : Int) := by rw [← hp]; simp; omega
    have h0 : (0 : Int) ≤ (p.length : Int) := by omega
    have hr : rd_T109 l (p.length : Int) = r := by rw [← hp]; exact rd_here p r t
    have hrn : 0 ≤ r.f2 := hn r (by rw [← hp]; simp)
    simp only [if_pos h1, if_pos h0, hr, may_eq _ _ _ hrn, Option.bind_some, decide_eq_true_eq]
    rw [okF_cons]
    have hw : wrap64 ((p.length : Int) + 1) = ((p ++ [r]).length : Int) := by
      rw [wsm (by omega) (by unfold big at hl; omega)]; simp
    have hih := ih (p ++ [r]) (by rw [← hp]; simp) hn hl
    rw [List.getLast?_concat] at hih
    by_cases hg : Gok ⟨r.f0, r.f1, r.f2⟩
    · have hg' : Gok r := hg
      simp only [if_pos hg, hw, decide_eq_true hg', Bool.true_and]
      rcases List.eq_nil_or_concat p with rfl | ⟨p', q, hpq⟩
      · simp only [List.length_nil, Int.ofNat_zero, Int.natCast_zero, gt_iff_lt, Int.lt_irrefl, if_false]
        exact hih
      · rw [List.concat_eq_append] at hpq
        subst hpq
        have hpos : ((p' ++ [q]).length : Int) > 0 := by
          have h_ : (p' ++ [q]).length = p'.length + 1 := by simp
          omega
        have hwq : wrap64 (((p' ++ [q]).length : Int) - 1) = (p'.length : Int) := by
          rw [wsm (by omega) (by unfold big at hl; omega)] <;> simp
        have hq : rd_T109 l (p'.length : Int) = q := by rw [← hp, List.append_assoc]; exact rd_here p' q _
        have hq0 : (0 : Int) ≤ (p'.length : Int) := by omega
        have hq1 : (p'.length : Int) < (l.length : Int) := by rw [← hp]; simp; omega
        simp only [if_pos hpos, hwq, hq, if_pos hq0, if_pos hq1, List.getLast?_concat]
        by_cases c1 : q.f1 > r.f0
        · simp only [if_pos c1, decide_eq_true (show q.f1 > r.f0 ∨ q.f1 = r.f0 ∧ q.f2 = r.f2 from .inl c1), Bool.not_true, Bool.false_and, Bool.false_eq_true, if_false]
          exact Ev.now _
        · by_cases c2 : q.f1 = r.f0
          · by_cases c3 : q.f2 = r.f2
            · simp only [if_neg c1, if_pos c2, if_pos c3, decide_eq_true (show q.f1 > r.f0 ∨ q.f1 = r.f0 ∧ q.f2 = r.f2 from .inr ⟨c2, c3⟩), Bool.not_true, Bool.false_and, Bool.false_eq_true, if_false]
              exact Ev.now _
            · simp only [if_neg c1, if_pos c2, if_neg c3, decide_eq_false (show ¬ (q.f1 > r.f0 ∨ q.f1 = r.f0 ∧ q.f2 = r.f2) from fun e => e.elim c1 (fun e => c3 e.2)), Bool.not_false, Bool.true_and]
              exact hih
          · simp only [if_neg c1, if_neg c2, decide_eq_false (show ¬ (q.f1 > r.f0 ∨ q.f1 = r.f0 ∧ q.f2 = r.f2) from fun e => e.elim c1 (fun e => c2 e.1)), Bool.not_false, Bool.true_and]
            exact hih
    · have hg' : ¬ Gok r := hg
      simp only [if_neg hg, decide_eq_false hg', Bool.false_and, Bool.false_eq_true, if_false]
      exact Ev.now _
theorem Check_ev {l : List G} (hn : Pn l) (hl : l.length ≤ big) : Ev (fun k => region_Check.f k l) (if Vd l then none else some 22) := by
  have h := check_ev l l [] rfl hn hl
  have e : (if okF ([] : List G).getLast? l = true then none else some (22 : Int)) = if Vd l then none else some 22 := by
    have : okF ([] : List G).getLast? l = okF none l := rfl
    rw [this]
    by_cases hv : Vd l
    · rw [if_pos hv, if_pos (okF_none.2 hv)]
    · rw [if_neg hv, if_neg (fun h => hv (okF_none.1 h))]
  rw [e] at h
  exact h
theorem Check_vd {l : List G} (h : Vd l) : Ev (fun k => region_Check.f k l) none := by
  have := Check_ev h.pn (by have := h.len; unfold big; omega)
  rwa [if_pos h] at this

theorem cutloop_ev (l : List G) (a b : Int) : ∀ (t p acc : List G), p ++ t = l → l.length ≤ 4096 → acc.length ≤ 2 * p.length → Ev (fun k => region_Cut.l0 k a b acc l (l.length : Int) (p.length : Int)) (acc ++ cutL t a b, none) := by
  intro t
  induction t with
  | nil =>
    intro p acc hp hl ha
    refine Ev.step (fun k => by rw [region_Cut.l0]) ?_
    have : ¬ ((p.length : Int) < (l.length : Int)) := by rw [← hp]; simp
    simp only [if_neg this, cutL, List.flatMap_nil, List.append_nil]
    exact Ev.now _
  | cons r t ih =>
    intro p acc hp hl ha
    refine Ev.step (fun k => by rw [region_Cut.l0]) ?_
    have h1 : (p.length : Int) < (l.length : Int) := by rw [← hp]; simp; omega
    have h0 : (0 : Int) ≤ (p.length : Int) := by omega
    have hr : rd_T109 l (p.length : Int) = r := by rw [← hp]; exact rd_here p r t
    have hc : (cut1 r a b).length ≤ 2 := by unfold cut1; repeat' split
                                            all_goals simp
    have hpl : p.length < 4096 := by omega
    have hlim : acc.length + (cut1 r a b).length < 5864062014805 := by omega
    have hw : wrap64 ((p.length : Int) + 1) = ((p ++ [r]).length : Int) := by
      rw [wsm (by omega) (by omega)]; simp
    simp only [if_pos h1, if_pos h0, hr, without_eq, Option.bind_some, if_pos hlim, hw]
    have := ih (p ++ [r]) (acc ++ cut1 r a b) (by rw [← hp]; simp) hl (by simp; omega)
    rw [List.append_assoc] at this
    exact this
theorem Cut_ev {l : List G} (hn : Pn l) (hl : l.length ≤ big) (a b : Int) : Ev (fun k => region_Cut.f k l a b) (if Vd l ∧ 0 ≤ a ∧ a < b ∧ b ≤ 4096 then (cutL l a b, none) else ([], some 22)) := by
  unfold region_Cut.f
  refine Ev.bind (Check_ev hn hl) ?_
  by_cases hv : Vd l
  · simp only [if_pos hv, Option.isNone_none, if_true, ranged_eq, Option.bind_some]
    by_cases hr : 0 ≤ a ∧ a < b ∧ b ≤ 4096
    · simp only [decide_eq_true hr, Bool.not_true, if_pos (show Vd l ∧ 0 ≤ a ∧ a < b ∧ b ≤ 4096 from ⟨hv, hr⟩)]
      refine Ev.step (fun k => by rw [region_Cut.j0]) ?_
      simp only [Bool.false_eq_true, if_false]
      exact cutloop_ev l a b l [] [] rfl hv.len (by simp)
    · simp only [decide_eq_false hr, Bool.not_false, if_neg (show ¬ (Vd l ∧ 0 ≤ a ∧ a < b ∧ b ≤ 4096) from fun e => hr e.2)]
      refine Ev.step (fun k => by rw [region_Cut.j0]) ?_
      simp only [if_true]
      exact Ev.now _
  · simp only [if_neg hv, Option.isNone_some, Bool.false_eq_true, if_false, if_neg (show ¬ (Vd l ∧ 0 ≤ a ∧ a < b ∧ b ≤ 4096) from fun e => hv e.1)]
    refine Ev.step (fun k => by rw [region_Cut.j0]) ?_
    simp only [if_true]
    exact Ev.now _
end Go.Proofs.YtikmanafbkiikaaDoor.XRegion
