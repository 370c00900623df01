/- RegionKeeps, without the program: one page, seen through adding, cutting and protecting, is what the list says of it, and the list stays a checked one. -/
import Derived.Test.YtikmanafbkiikaaXRegionx11
import Derived.Test.YtikmanafbkiikaaRegEv2
namespace Go.Proofs.Ytikmanafbkiikaa.Pure
set_option linter.unusedSimpArgs false
set_option linter.unusedVariables false
open Go.RowKit Go.Proofs.Ytikmanafbkiikaa.XRegion Go.Proofs.YtikmanafbkiikaaW.PrintWords Go.Proofs.YtikmanafbkiikaaW.PrintLast

abbrev Ac := S48
theorem um_bd (a n : Int) (hn : 0 < n) (h : n ≤ 1000) : 0 ≤ wrap64 (Int.tmod (IntKind.u64.wrap a) n) ∧ wrap64 (Int.tmod (IntKind.u64.wrap a) n) < n := by
  have h0 : 0 ≤ IntKind.u64.wrap a := by simp [IntKind.wrap, IntKind.bits, IntKind.signed]; omega
  rw [Int.tmod_eq_emod_of_nonneg h0]
  have h1 := Int.emod_nonneg (IntKind.u64.wrap a) (show n ≠ 0 by omega)
  have h2 := Int.emod_lt_of_pos (IntKind.u64.wrap a) hn
  rw [wsm (by omega) (by omega)]
  exact ⟨h1, h2⟩
theorem u8_nn {a : Int} (h : (Lit.int .u8 a).wf = true) : 0 ≤ a ∧ a < 256 := by
  have := h
  simp [Lit.wf] at this
  simp [IntKind.min, IntKind.max, IntKind.bits, IntKind.signed] at this
  omega
/-- What is known of the page p: the list is a checked one, and b and v say of p what the list says. -/
def Inv (p : Int) (m : List G) (v : Int) (b : Bool) : Prop := Vd m ∧ b = (pm m p).isSome ∧ ∀ w, pm m p = some w → v = w
def Goes (x0 : List Ac) (p i : Int) : Prop := ∀ m v b, Inv p m v b → Ev (fun k => halterlaw13_RegionKeeps.l0 k x0 m p v b (wrap64 (i + 1))) true

theorem core {x0 : List Ac} {p i : Int} (hk : Goes x0 p i) {m : List G} {v : Int} {b : Bool} (h : Inv p m v b) :
    Ev (fun k => (region_At.f k m p).bind fun bt => ((region_Check.f k m).bind fun t => (if t.isNone = true then (if (bt.2.2.2 != b) = true then (some false) else (if b = true then (if bt.2.2.1 = v then (halterlaw13_RegionKeeps.l0 k x0 m p v b (wrap64 (i + 1))) else (some false)) else (halterlaw13_RegionKeeps.l0 k x0 m p v b (wrap64 (i + 1))))) else (some false)))) true := by
  have hk1 := hk m v b h
  obtain ⟨hv, hb, hw⟩ := h
  obtain ⟨u1, u2, c, hAt, hc⟩ := At_ev hv p
  refine Ev.bind hAt (Ev.bind (Check_vd hv) ?_)
  subst hb
  simp only [Option.isNone_none, if_true, bne_self_eq_false, Bool.false_eq_true, if_false]
  cases hp : pm m p with
  | none =>
    rw [hp] at hk1
    simpa using hk1
  | some w =>
    rw [hp] at hk1
    simp only [Option.isSome_some, if_true, if_pos (show c = v by rw [hc w hp, hw w hp])]
    exact hk1
theorem j5_ev {x0 : List Ac} {p i : Int} (hk : Goes x0 p i) {x5 x12 : List G} {v : Int} {b : Bool} {x13 : Option Int} (h5 : x13 ≠ none → Inv p x5 v b) (h12 : x13 = none → Inv p x12 v b) :
    Ev (fun k => halterlaw13_RegionKeeps.j5 k x0 x5 p v b i x12 x13) true := by
  refine Ev.step (fun k => by rw [halterlaw13_RegionKeeps.j5]) ?_
  cases x13 with
  | none =>
    simp only [Option.isNone_none, if_true]
    exact core hk (h12 rfl)
  | some e =>
    simp only [Option.isNone_some, Bool.false_eq_true, if_false]
    exact core hk (h5 (by simp))
theorem j2_ev {x0 : List Ac} {p i : Int} (hk : Goes x0 p i) (hi : 0 ≤ i) (hl : i < (x0.length : Int)) {m : List G} {v : Int} {b : Bool} (h : Inv p m v b) {a c r : Int} (ha : 0 ≤ a) (hac : a < c) (hc : c ≤ 4096) (hr0 : 0 ≤ r) (hr : r ≤ 7) :
    Ev (fun k => halterlaw13_RegionKeeps.j2 k x0 m p v b i (decide (a ≤ p ∧ p < c)) a c r) true := by
  refine Ev.step (fun k => by rw [halterlaw13_RegionKeeps.j2]) ?_
  simp only [if_pos hi, if_pos hl]
  generalize wrap64 (Int.tmod (IntKind.u64.wrap ((rd_T48 x0 i).f0)) 4) = kd
  have h' := h
  obtain ⟨hv, hb, hw⟩ := h'
  by_cases k2 : kd = 2
  · simp only [if_pos k2]
    refine Ev.bind (Cut_ok hv ⟨ha, hac, hc⟩) ?_
    simp only [Option.isNone_none, if_true]
    have hcp := cut_pm (a := a) (b := c) hv.1 p
    by_cases hbt : b = true
    · simp only [if_pos hbt]
      refine j5_ev hk (fun e => absurd rfl e) (fun _ => ⟨cut_vd hac hv, ?_, ?_⟩)
      · rw [hcp]
        by_cases hin : a ≤ p ∧ p < c
        · rw [if_pos hin]; simp [hin]
        · rw [if_neg hin, ← hb, hbt]; simp [hin]
      · intro w hpw
        rw [hcp] at hpw
        by_cases hin : a ≤ p ∧ p < c
        · rw [if_pos hin] at hpw; cases hpw
        · rw [if_neg hin] at hpw; exact hw w hpw
    · simp only [if_neg hbt]
      have hn : pm m p = none := by
        cases hq : pm m p with
        | none => rfl
        | some w => rw [hq] at hb; exact absurd hb hbt
      refine j5_ev hk (fun e => absurd rfl e) (fun _ => ⟨cut_vd hac hv, ?_, ?_⟩)
      · rw [hcp, hn]; simp
      · intro w hpw
        rw [hcp, hn] at hpw
        simp at hpw
  · simp only [if_neg k2]
    by_cases k3 : kd = 3
    · simp only [if_pos k3]
      by_cases hcov : ∀ q, a ≤ q → q < c → pm m q ≠ none
      · obtain ⟨n, hn, hnv, hnp⟩ := Protect_ok hv ⟨ha, hac, hc⟩ hr0 hr hcov
        refine Ev.bind hn ?_
        simp only [Option.isNone_none, if_true]
        refine Ev.step (fun k => by rw [halterlaw13_RegionKeeps.j3]) ?_
        have hq := hnp p
        by_cases hin : a ≤ p ∧ p < c
        · have hbt : b = true := by
            have := hcov p hin.1 hin.2
            rw [hb]
            cases hz : pm m p with
            | none => exact absurd hz this
            | some w => rfl
          rw [if_pos hin] at hq
          simp only [decide_eq_true hin, if_true, if_pos hbt]
          exact j5_ev hk (fun e => absurd rfl e) (fun _ => ⟨hnv, by rw [hq, hbt]; rfl, fun w hpw => by rw [hq] at hpw; exact Option.some.inj hpw⟩)
        · rw [if_neg hin] at hq
          simp only [decide_eq_false hin, Bool.false_eq_true, if_false]
          exact j5_ev hk (fun e => absurd rfl e) (fun _ => ⟨hnv, by rw [hq]; exact hb, fun w hpw => by rw [hq] at hpw; exact hw w hpw⟩)
      · refine Ev.bind (Protect_none hv ⟨ha, hac, hc⟩ hr hcov) ?_
        simp only [Option.isNone_some, Bool.false_eq_true, if_false]
        refine Ev.step (fun k => by rw [halterlaw13_RegionKeeps.j3]) ?_
        simp only [Bool.false_eq_true, if_false]
        exact j5_ev hk (fun _ => h) (fun e => by cases e)
    · simp only [if_neg k3]
      have hg : Gok ⟨a, c, r⟩ := ⟨ha, hac, hc, hr0, hr⟩
      by_cases hfr : ∀ q, a ≤ q → q < c → pm m q = none
      · obtain ⟨n, hn, hnv, hnp⟩ := Add_ok (r := ⟨a, c, r⟩) hv hg hfr
        refine Ev.bind hn ?_
        simp only [Option.isNone_none, if_true]
        refine Ev.step (fun k => by rw [halterlaw13_RegionKeeps.j4]) ?_
        have hq := hnp p
        simp only [] at hq
        by_cases hin : a ≤ p ∧ p < c
        · have hbt : ¬ b = true := by
            rw [hb, hfr p hin.1 hin.2]; simp
          rw [if_pos hin] at hq
          simp only [decide_eq_true hin, if_true, if_neg hbt]
          exact j5_ev hk (fun e => absurd rfl e) (fun _ => ⟨hnv, by rw [hq]; rfl, fun w hpw => by rw [hq] at hpw; exact Option.some.inj hpw⟩)
        · rw [if_neg hin] at hq
          simp only [decide_eq_false hin, Bool.false_eq_true, if_false]
          exact j5_ev hk (fun e => absurd rfl e) (fun _ => ⟨hnv, by rw [hq]; exact hb, fun w hpw => by rw [hq] at hpw; exact hw w hpw⟩)
      · refine Ev.bind (Add_meets (r := ⟨a, c, r⟩) hv hg hfr) ?_
        simp only [Option.isNone_some, Bool.false_eq_true, if_false]
        refine Ev.step (fun k => by rw [halterlaw13_RegionKeeps.j4]) ?_
        simp only [Bool.false_eq_true, if_false]
        exact j5_ev hk (fun _ => h) (fun e => by cases e)

theorem loop_ev (x0 : List Ac) (hx : ∀ x ∈ x0, 0 ≤ x.f1.f2) (p : Int) : ∀ (d n : Nat), n + d = 25 → ∀ (m : List G) (v : Int) (b : Bool), Inv p m v b → Ev (fun k => halterlaw13_RegionKeeps.l0 k x0 m p v b (n : Int)) true := by
  have fin : ∀ (n : Nat) (m : List G) (v : Int) (b : Bool), Ev (fun k => halterlaw13_RegionKeeps.j1 k x0 m p v b (n : Int) false) true := fun n m v b => by
    refine Ev.step (fun k => by rw [halterlaw13_RegionKeeps.j1]) ?_
    simp only [Bool.false_eq_true, if_false]
    exact Ev.bind sure_ev (Ev.now _)
  intro d
  induction d with
  | zero =>
    intro n hn m v b h
    refine Ev.step (fun k => by rw [halterlaw13_RegionKeeps.l0]) ?_
    simp only [show ¬ ((n : Int) < 25) by omega, decide_false, ite_self]
    exact fin n m v b
  | succ d ih =>
    intro n hn m v b h
    refine Ev.step (fun k => by rw [halterlaw13_RegionKeeps.l0]) ?_
    by_cases hl : (n : Int) < (x0.length : Int)
    · simp only [if_pos hl, show ((n : Int) < 25) by omega, decide_true]
      refine Ev.step (fun k => by rw [halterlaw13_RegionKeeps.j1]) ?_
      have hn0 : (0 : Int) ≤ (n : Int) := by omega
      simp only [if_true, if_pos hl, if_pos hn0]
      have hmem : rd_T48 x0 (n : Int) ∈ x0 := by
        unfold rd_T48
        have : n < x0.length := by omega
        simp [List.getD_eq_getElem?_getD, List.getElem?_eq_getElem this]
      have hp2 := hx _ hmem
      have u0 := um_bd (rd_T48 x0 (n : Int)).f1.f0 64 (by decide) (by decide)
      have u1 := um_bd (rd_T48 x0 (n : Int)).f1.f1 20 (by decide) (by decide)
      have u2 : 0 ≤ Int.tmod (rd_T48 x0 (n : Int)).f1.f2 8 ∧ Int.tmod (rd_T48 x0 (n : Int)).f1.f2 8 ≤ 7 := by
        rw [Int.tmod_eq_emod_of_nonneg hp2]; omega
      generalize wrap64 (Int.tmod (IntKind.u64.wrap ((rd_T48 x0 (n : Int)).f1.f0)) 64) = fr at u0 ⊢
      generalize wrap64 (Int.tmod (IntKind.u64.wrap ((rd_T48 x0 (n : Int)).f1.f1)) 20) = mm at u1 ⊢
      generalize Int.tmod (rd_T48 x0 (n : Int)).f1.f2 8 = pr at u2 ⊢
      have w1 : wrap64 (wrap64 (fr + 1) + mm) = fr + 1 + mm := by rw [wsm (i := fr + 1) (by omega) (by omega), wsm (by omega) (by omega)]
      simp only [w1]
      have hk : Goes x0 p (n : Int) := fun m' v' b' h' => by
        rw [wsm (by omega) (by omega)]
        have := ih (n + 1) (by omega) m' v' b' h'
        simpa using this
      have hj := j2_ev (a := fr) (c := fr + 1 + mm) (r := pr) hk hn0 hl h u0.1 (by omega) (by omega) u2.1 u2.2
      by_cases hge : p ≥ fr
      · simp only [if_pos hge]
        have : decide (fr ≤ p ∧ p < fr + 1 + mm) = decide (p < fr + 1 + mm) := by
          have : fr ≤ p := hge
          simp [this]
        rw [this] at hj
        exact hj
      · simp only [if_neg hge]
        have : decide (fr ≤ p ∧ p < fr + 1 + mm) = false := decide_eq_false (fun q => hge q.1)
        rw [this] at hj
        exact hj
    · simp only [if_neg hl]
      exact fin n m v b

theorem RegionKeeps : halterlaw13_RegionKeeps.Pure := by
  intro l0 a1 h ha
  obtain ⟨h1, h2, h3⟩ := h
  refine Ev.rounds (r := true) ?_
  unfold halterlaw13_RegionKeeps.f
  refine loop_ev l0 (fun x hx => (u8_nn (h3 x hx).2.2.2).1) _ 25 0 (by omega) [] 0 false ⟨vd_nil, rfl, fun w hw => by cases hw⟩
end Go.Proofs.Ytikmanafbkiikaa.Pure
