/- RegionSizes, without the program: what is cut out is as many pages less as were in it; laid down again it is as many as there were. -/
import Derived.Test.YtikmanafbkiikaaXRegionx12
import Derived.Test.YtikmanafbkiikaaRegEv2
namespace Go.Proofs.Ytikmanafbkiikaa.Pure
set_option linter.unusedSimpArgs false
set_option linter.unusedVariables false
open Go.RowKit Go.Proofs.Ytikmanafbkiikaa.XRegion Go.Proofs.YtikmanafbkiikaaW.PrintWords Go.Proofs.YtikmanafbkiikaaW.PrintLast

theorem um_bd (a n : Int) (hn : 0 < n) (h : n ≤ 1000) : 0 ≤ wrap64 (Int.tmod (IntKind.u64.wrap a) n) ∧ wrap64 (Int.tmod (IntKind.u64.wrap a) n) < n := by
  have h0 : 0 ≤ IntKind.u64.wrap a := by simp [IntKind.wrap, IntKind.bits, IntKind.signed]; omega
  rw [Int.tmod_eq_emod_of_nonneg h0]
  have h1 := Int.emod_nonneg (IntKind.u64.wrap a) (show n ≠ 0 by omega)
  have h2 := Int.emod_lt_of_pos (IntKind.u64.wrap a) hn
  rw [wsm (by omega) (by omega)]
  exact ⟨h1, h2⟩
theorem u8_nn {a : Int} (h : (Lit.int .u8 a).wf = true) : 0 ≤ a ∧ a < 256 := by
  have := h
  simp [Lit.wf] at this
  simp [IntKind.min, IntKind.max, IntKind.bits, IntKind.signed] at this
  omega
theorem pn_of {l : List S46} (h : ∀ x ∈ l, ((Lit.int .i64 x.f0).wf = true ∧ (Lit.int .i64 x.f1).wf = true ∧ (Lit.int .u8 x.f2).wf = true)) : Pn (l.map cv) := by
  intro x hx
  obtain ⟨y, hy, rfl⟩ := List.mem_map.1 hx
  exact (u8_nn (h y hy).2.2).1
theorem sure1 : Ev (fun k => (halterlaw13_sure.f k).bind fun t => some t) true := Ev.bind sure_ev (Ev.now _)
def cov (l : List G) (p : Int) : Bool := (pm l p).isSome

theorem fin_ev {x : List G} (hv : Vd x) {a b : Int} (n : Nat) (ha : 0 ≤ a) (ha2 : a ≤ 60) (hb : b = a + n) (hn : 1 ≤ n) (hn2 : n ≤ 9) :
    Ev (fun k => halterlaw13_RegionSizes.l0 k x a b (cnt (cov x) a n) b) true := by
  refine Ev.step (fun k => by rw [halterlaw13_RegionSizes.l0]) ?_
  have hr : 0 ≤ a ∧ a < b ∧ b ≤ 4096 := by omega
  have hcv := cut_vd hr.2.1 hv
  obtain ⟨z, hz, hzv, hzp⟩ := Add_ok (r := ⟨a, b, 1⟩) hcv (show Gok ⟨a, b, 1⟩ from ⟨hr.1, hr.2.1, hr.2.2, (by show (0 : Int) ≤ 1; omega), (by show (1 : Int) ≤ 7; omega)⟩) (fun p p1 p2 => by rw [cut_pm hv.1, if_pos ⟨p1, p2⟩])
  simp only [Int.lt_irrefl, if_false]
  refine Ev.bind (Cut_ok hv hr) (Ev.bind hz ?_)
  -- the sizes
  obtain ⟨n3, e3⟩ := Int.eq_ofNat_of_zero_le (a := 4096 - b) (by omega)
  obtain ⟨n1, e1⟩ := Int.eq_ofNat_of_zero_le (a := a) ha
  have hsplit : ∀ l : List G, Vd l → szL l = cnt (cov l) 0 n1 + cnt (cov l) a n + cnt (cov l) b n3 := by
    intro l hl
    rw [szL_cnt hl.1 (n1 + n + n3) (by omega)]
    show cnt (cov l) 0 (n1 + n + n3) = _
    rw [cnt_split, cnt_split, show (0 : Int) + (n1 : Int) = a by omega, show (0 : Int) + ((n1 + n : Nat) : Int) = b by omega]
  have sx := hsplit x hv
  have sc := hsplit _ hcv
  have sz := hsplit z hzv
  have c1 : cnt (cov (cutL x a b)) 0 n1 = cnt (cov x) 0 n1 := cnt_congr (fun p p1 p2 => by
    show (pm (cutL x a b) p).isSome = (pm x p).isSome
    rw [cut_pm hv.1, if_neg (by omega)])
  have c2 : cnt (cov (cutL x a b)) a n = 0 := cnt_none (fun p p1 p2 => by
    show (pm (cutL x a b) p).isSome = false
    rw [cut_pm hv.1, if_pos (by omega)]; rfl)
  have c3 : cnt (cov (cutL x a b)) b n3 = cnt (cov x) b n3 := cnt_congr (fun p p1 p2 => by
    show (pm (cutL x a b) p).isSome = (pm x p).isSome
    rw [cut_pm hv.1, if_neg (by omega)])
  have d1 : cnt (cov z) 0 n1 = cnt (cov x) 0 n1 := cnt_congr (fun p p1 p2 => by
    show (pm z p).isSome = (pm x p).isSome
    rw [hzp p, if_neg (by simp only []; omega), cut_pm hv.1, if_neg (by omega)])
  have d2 : cnt (cov z) a n = n := cnt_all (fun p p1 p2 => by
    show (pm z p).isSome = true
    rw [hzp p, if_pos (by simp only []; omega)]; rfl)
  have d3 : cnt (cov z) b n3 = cnt (cov x) b n3 := cnt_congr (fun p p1 p2 => by
    show (pm z p).isSome = (pm x p).isSome
    rw [hzp p, if_neg (by simp only []; omega), cut_pm hv.1, if_neg (by omega)])
  have bd := cnt_bd (cov x) a n
  have bx := szL_le hv.1 (by omega)
  have bz := szL_le hzv.1 (by omega)
  have bc := szL_le hcv.1 (by omega)
  have w1 : wrap64 (b - a) = n := by rw [wsm (by omega) (by omega)]; omega
  have w2 : wrap64 (szL x - cnt (cov x) a n) = szL x - cnt (cov x) a n := wsm (by omega) (by omega)
  have w3 : wrap64 (wrap64 (szL (cutL x a b) + b) - a) = szL (cutL x a b) + b - a := by
    rw [wsm (i := szL (cutL x a b) + b) (by omega) (by omega), wsm (by omega) (by omega)]
  have q1 : szL (cutL x a b) = szL x - cnt (cov x) a n := by omega
  have q2 : szL z = szL (cutL x a b) + b - a := by omega
  have hne : (szL z != wrap64 (wrap64 (szL (cutL x a b) + b) - a)) = false := by rw [w3, ← q2]; simp
  by_cases hc : ∀ q, a ≤ q → q < b → pm x q ≠ none
  · obtain ⟨p, hp, hpv, hpp⟩ := Protect_ok (p := 5) hv hr (by decide) (by decide) hc
    refine Ev.bind hp ?_
    have hall : cnt (cov x) a n = n := cnt_all (fun p p1 p2 => by
      have := hc p p1 (by omega)
      show (pm x p).isSome = true
      cases h : pm x p with
      | none => exact absurd h this
      | some v => rfl)
    have sp := hsplit p hpv
    have f1 : cnt (cov p) 0 n1 = cnt (cov x) 0 n1 := cnt_congr (fun q q1 q2 => by
      show (pm p q).isSome = (pm x q).isSome
      rw [hpp q, if_neg (by omega)])
    have f2 : cnt (cov p) a n = n := cnt_all (fun q q1 q2 => by
      show (pm p q).isSome = true
      rw [hpp q, if_pos (by omega)]; rfl)
    have f3 : cnt (cov p) b n3 = cnt (cov x) b n3 := cnt_congr (fun q q1 q2 => by
      show (pm p q).isSome = (pm x q).isSome
      rw [hpp q, if_neg (by omega)])
    have q3 : szL p = szL x := by omega
    have hb1 : (true != (cnt (cov x) a n == wrap64 (b - a))) = false := by rw [w1, hall]; simp
    simp only [Option.isNone_none, if_true, hb1, Bool.false_eq_true, if_false]
    refine Ev.bind (Size_ev hcv) (Ev.bind (Size_ev hv) ?_)
    simp only [if_pos (show szL (cutL x a b) = wrap64 (szL x - cnt (cov x) a n) by rw [w2]; exact q1)]
    refine Ev.bind (Size_ev hzv) (Ev.bind (Size_ev hcv) ?_)
    simp only [hne]
    refine Ev.step (fun k => by rw [halterlaw13_RegionSizes.j2]) ?_
    simp only [Bool.false_eq_true, if_false, Option.isNone_none, if_true]
    refine Ev.bind (Size_ev hpv) (Ev.bind (Size_ev hv) ?_)
    simp only [if_pos q3]
    exact sure1
  · refine Ev.bind (Protect_none (p := 5) hv hr (by decide) hc) ?_
    have hlt : ¬ cnt (cov x) a n = n := fun e => hc (fun q q1 q2 => by
      have := cnt_full e q q1 (by omega)
      intro h
      rw [cov, h] at this
      cases this)
    have hb1 : (false != (cnt (cov x) a n == wrap64 (b - a))) = false := by rw [w1]; simp; exact hlt
    simp only [Option.isNone_none, Option.isNone_some, if_true, hb1, Bool.false_eq_true, if_false, Option.getD_some]
    refine Ev.bind (Size_ev hcv) (Ev.bind (Size_ev hv) ?_)
    simp only [if_pos (show szL (cutL x a b) = wrap64 (szL x - cnt (cov x) a n) by rw [w2]; exact q1)]
    refine Ev.bind (Size_ev hzv) (Ev.bind (Size_ev hcv) ?_)
    simp only [hne]
    refine Ev.step (fun k => by rw [halterlaw13_RegionSizes.j2]) ?_
    simp only [Bool.false_eq_true, if_false, Option.isNone_some]
    exact sure1

theorem loop_ev {x : List G} (hv : Vd x) {a b : Int} (n : Nat) (ha : 0 ≤ a) (ha2 : a ≤ 60) (hb : b = a + n) (hn : 1 ≤ n) (hn2 : n ≤ 9) :
    ∀ (d i : Nat), i + d = n → Ev (fun k => halterlaw13_RegionSizes.l0 k x a b (cnt (cov x) a i) (a + i)) true := by
  intro d
  induction d with
  | zero =>
    intro i hi
    obtain rfl : i = n := by omega
    rw [← hb]
    exact fin_ev hv i ha ha2 hb hn hn2
  | succ d ih =>
    intro i hi
    refine Ev.step (fun k => by rw [halterlaw13_RegionSizes.l0]) ?_
    have hlt : a + (i : Int) < b := by omega
    simp only [if_pos hlt]
    obtain ⟨u, v, c, hAt, _⟩ := At_ev hv (a + (i : Int))
    refine Ev.bind hAt ?_
    have hi1 := ih (i + 1) (by omega)
    have bd := cnt_bd (cov x) a i
    have w1 : wrap64 (a + (i : Int) + 1) = a + ((i + 1 : Nat) : Int) := by rw [wsm (by omega) (by omega)]; omega
    have hc : cnt (cov x) a (i + 1) = cnt (cov x) a i + if (pm x (a + (i : Int))).isSome = true then 1 else 0 := rfl
    by_cases h : (pm x (a + (i : Int))).isSome = true
    · rw [if_pos h] at hc
      have w2 : wrap64 (cnt (cov x) a i + 1) = cnt (cov x) a (i + 1) := by rw [wsm (by omega) (by omega), hc]
      simp only [if_pos h, w1, w2]
      exact hi1
    · rw [if_neg h, Int.add_zero] at hc
      simp only [if_neg h, w1]
      rw [hc] at hi1
      exact hi1

theorem RegionSizes : halterlaw13_RegionSizes.Pure := by
  intro l0 a0 a1 ⟨h1, h2, h3⟩ ha
  refine Ev.rounds (r := true) ?_
  have hg := give_ev l0 (by omega)
  have hpn := pn_of h3
  have hlen : (l0.map cv).length = l0.length := List.length_map _
  unfold halterlaw13_RegionSizes.f
  refine Ev.bind hg ?_
  have hj : Ev (fun k => halterlaw13_RegionSizes.j0 k (l0.map cv) true a0 a1) true := by
    refine Ev.step (fun k => by rw [halterlaw13_RegionSizes.j0]) ?_
    simp only [if_true]
    exact sure1
  by_cases h20 : (l0.length : Int) > 20
  · simp only [if_pos h20]; exact hj
  · simp only [if_neg h20]
    refine Ev.bind (Check_ev hpn (by rw [hlen]; unfold big; omega)) ?_
    by_cases hv : Vd (l0.map cv)
    · simp only [if_pos hv, Option.isNone_none, if_true]
      refine Ev.step (fun k => by rw [halterlaw13_RegionSizes.j0]) ?_
      simp only [Bool.false_eq_true, if_false]
      have u0 := um_bd a0 60 (by decide) (by decide)
      have u1 := um_bd a1 9 (by decide) (by decide)
      generalize wrap64 (Int.tmod (IntKind.u64.wrap a0) 60) = fr at *
      generalize wrap64 (Int.tmod (IntKind.u64.wrap a1) 9) = m at *
      have w1 : wrap64 (wrap64 (fr + 1) + m) = fr + 1 + m := by rw [wsm (i := fr + 1) (by omega) (by omega), wsm (by omega) (by omega)]
      obtain ⟨n, en⟩ := Int.eq_ofNat_of_zero_le (a := 1 + m) (by omega)
      have hl := loop_ev hv n u0.1 (by omega) (b := fr + 1 + m) (by omega) (by omega) (by omega) n 0 (by omega)
      simp only [w1]
      simpa [cnt] using hl
    · simp only [if_neg hv, Option.isNone_some, Bool.false_eq_true, if_false]; exact hj
end Go.Proofs.Ytikmanafbkiikaa.Pure
