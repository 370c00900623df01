/- RegionHoles, without the program: a hole that is found is free and can be laid down; ahead of it none would do. -/
import Derived.Test.YtikmanafbkiikaaDoorXRegionx15
import Derived.Test.YtikmanafbkiikaaDoorRegEv2
namespace Go.Proofs.YtikmanafbkiikaaDoor.Pure
set_option linter.unusedSimpArgs false
set_option linter.unusedVariables false
open Go.RowKit Go.Proofs.YtikmanafbkiikaaDoor.XRegion Go.Proofs.YtikmanafbkiikaaDoorW.PrintWords Go.Proofs.YtikmanafbkiikaaDoorW.PrintLast

theorem um_bd (a n : Int) (hn : 0 < n) (h : n ≤ 1000) : 0 ≤ wrap64 (Int.tmod (IntKind.u64.wrap a) n) ∧ wrap64 (Int.tmod (IntKind.u64.wrap a) n) < n := by
  have h0 : 0 ≤ IntKind.u64.wrap a := by simp [IntKind.wrap, IntKind.bits, IntKind.signed]; omega
  rw [Int.tmod_eq_emod_of_nonneg h0]
  have h1 := Int.emod_nonneg (IntKind.u64.wrap a) (show n ≠ 0 by omega)
  have h2 := Int.emod_lt_of_pos (IntKind.u64.wrap a) hn
  rw [wsm (by omega) (by omega)]
  exact ⟨h1, h2⟩
theorem u8_nn {a : Int} (h : (Lit.int .u8 a).wf = true) : 0 ≤ a ∧ a < 256 := by
  have := h
  simp [Lit.wf] at this
  simp [IntKind.min, IntKind.max, IntKind.bits, IntKind.signed] at this
  omega
theorem pn_of {l : List S112} (h : ∀ x ∈ l, ((Lit.int .i64 x.f0).wf = true ∧ (Lit.int .i64 x.f1).wf = true ∧ (Lit.int .u8 x.f2).wf = true)) : Pn (l.map cv) := by
  intro x hx
  obtain ⟨y, hy, rfl⟩ := List.mem_map.1 hx
  exact (u8_nn (h y hy).2.2).1
theorem sure1 : Ev (fun k => (halterlaw13_sure.f k).bind fun t => some t) true := Ev.bind sure_ev (Ev.now _)
def cov (l : List G) (p : Int) : Bool := (pm l p).isSome

/-- What the last loop says: no page of 0 .. t would do. -/
theorem loop_ev {x : List G} (hv : Vd x) {n t : Int} (hn : 1 ≤ n) (hn2 : n ≤ 12) (ht : t < holF n x 0) (ht2 : t ≤ 100) {e : Option Int} (he : e = none ∨ e = some 12) :
    ∀ (d p : Nat), (p : Int) + d = t + 1 → Ev (fun k => halterlaw13_RegionHoles.l0 k x n e t (p : Int)) true := by
  intro d
  induction d with
  | zero =>
    intro p hp
    refine Ev.step (fun k => by rw [halterlaw13_RegionHoles.l0]) ?_
    simp only [if_neg (show ¬ ((p : Int) ≤ t) by omega)]
    rcases he with rfl | rfl
    · simp only [Option.isNone_none, if_true]
      exact sure1
    · simp only [Option.isNone_some, Bool.false_eq_true, if_false, Option.getD_some, halterlaw13_num.f, Option.bind_some, if_true]
      exact sure1
  | succ d ih =>
    intro p hp
    refine Ev.step (fun k => by rw [halterlaw13_RegionHoles.l0]) ?_
    simp only [if_pos (show ((p : Int) ≤ t) by omega)]
    obtain ⟨q, q1, q2, q3⟩ := (holF_free (n := n) (a := 0) hn hv.1).2 p (by omega) (by omega)
    have w1 : wrap64 ((p : Int) + n) = (p : Int) + n := wsm (by omega) (by omega)
    have w2 : wrap64 ((p : Int) + 1) = ((p + 1 : Nat) : Int) := by rw [wsm (by omega) (by omega)]; omega
    simp only [w1, w2]
    refine Ev.bind (Add_meets (r := ⟨p, (p : Int) + n, 0⟩) hv ⟨by show (0 : Int) ≤ (p : Int); omega, by show (p : Int) < (p : Int) + n; omega, by show (p : Int) + n ≤ 4096; omega, by show (0 : Int) ≤ 0; omega, by show (0 : Int) ≤ 7; omega⟩ (fun hf => q3 (hf q q1 q2))) ?_
    simp only [Option.isNone_some, Bool.false_eq_true, if_false]
    exact ih (p + 1) (by omega)

theorem all_ev {x : List G} (hv : Vd x) {n t : Int} (hn : 1 ≤ n) (hn2 : n ≤ 12) (ht : t < holF n x 0) (ht1 : -1 ≤ t) (ht2 : t ≤ 100) {e : Option Int} (he : e = none ∨ e = some 12) :
    Ev (fun k => halterlaw13_RegionHoles.l0 k x n e t 0) true := by
  obtain ⟨d, hd⟩ := Int.eq_ofNat_of_zero_le (a := t + 1) (by omega)
  have := loop_ev hv hn hn2 ht ht2 he d 0 (by omega)
  exact this

theorem add_size {x y : List G} (hx : Vd x) (hy : Vd y) {a n : Int} (ha : 0 ≤ a) (hn : 1 ≤ n) (hb : a + n ≤ 4096) {v : Int}
    (hf : ∀ p, a ≤ p → p < a + n → pm x p = none) (hp : ∀ p, pm y p = if a ≤ p ∧ p < a + n then some v else pm x p) : szL y = szL x + n := by
  obtain ⟨n1, e1⟩ := Int.eq_ofNat_of_zero_le (a := a) ha
  obtain ⟨n2, e2⟩ := Int.eq_ofNat_of_zero_le (a := n) (by omega)
  obtain ⟨n3, e3⟩ := Int.eq_ofNat_of_zero_le (a := 4096 - (a + n)) (by omega)
  have hsplit : ∀ l : List G, Vd l → szL l = cnt (cov l) 0 n1 + cnt (cov l) a n2 + cnt (cov l) (a + n) n3 := by
    intro l hl
    rw [szL_cnt hl.1 (n1 + n2 + n3) (by omega)]
    show cnt (cov l) 0 (n1 + n2 + n3) = _
    rw [cnt_split, cnt_split, show (0 : Int) + (n1 : Int) = a by omega, show (0 : Int) + ((n1 + n2 : Nat) : Int) = a + n by omega]
  have c1 : cnt (cov y) 0 n1 = cnt (cov x) 0 n1 := cnt_congr (fun p p1 p2 => by
    show (pm y p).isSome = (pm x p).isSome
    rw [hp p, if_neg (by omega)])
  have c2 : cnt (cov x) a n2 = 0 := cnt_none (fun p p1 p2 => by
    show (pm x p).isSome = false
    rw [hf p p1 (by omega)]; rfl)
  have c4 : cnt (cov y) a n2 = n2 := cnt_all (fun p p1 p2 => by
    show (pm y p).isSome = true
    rw [hp p, if_pos (by omega)]; rfl)
  have c3 : cnt (cov y) (a + n) n3 = cnt (cov x) (a + n) n3 := cnt_congr (fun p p1 p2 => by
    show (pm y p).isSome = (pm x p).isSome
    rw [hp p, if_neg (by omega)])
  have := hsplit x hx
  have := hsplit y hy
  omega

theorem RegionHoles : halterlaw13_RegionHoles.Pure := by
  intro l0 a1 h ha
  obtain ⟨h1, h2, h3⟩ := h
  refine Ev.rounds (r := true) ?_
  have hg := give_ev l0 (by omega)
  have hpn := pn_of h3
  have hlen : (l0.map cv).length = l0.length := List.length_map _
  unfold halterlaw13_RegionHoles.f
  refine Ev.bind hg ?_
  have hj : Ev (fun k => halterlaw13_RegionHoles.j0 k a1 (l0.map cv) true) true := by
    refine Ev.step (fun k => by rw [halterlaw13_RegionHoles.j0]) ?_
    simp only [if_true]
    exact sure1
  by_cases h20 : (l0.length : Int) > 20
  · simp only [if_pos h20]; exact hj
  · simp only [if_neg h20]
    refine Ev.bind (Check_ev hpn (by rw [hlen]; unfold big; omega)) ?_
    by_cases hv : Vd (l0.map cv)
    · simp only [if_pos hv, Option.isNone_none, if_true]
      generalize l0.map cv = x at hv
      refine Ev.step (fun k => by rw [halterlaw13_RegionHoles.j0]) ?_
      simp only [Bool.false_eq_true, if_false]
      have u0 := um_bd a1 12 (by decide) (by decide)
      generalize wrap64 (Int.tmod (IntKind.u64.wrap a1) 12) = m at *
      have w1 : wrap64 (1 + m) = 1 + m := wsm (by omega) (by omega)
      simp only [w1]
      generalize hn' : 1 + m = n at *
      have hn : 1 ≤ n := by omega
      have hn2 : n ≤ 12 := by omega
      have w2 : wrap64 (64 - n) = 64 - n := wsm (by omega) (by omega)
      simp only [w2]
      refine Ev.bind (Hole_ev hv ⟨by decide, by decide, by decide⟩ ⟨hn, by omega⟩) ?_
      have hb := holF_bd (n := n) (a := 0) hv.1 (by omega) (by omega)
      have hfr := (holF_free (n := n) (a := 0) hn hv.1).1
      unfold holR
      by_cases hc : 64 - holF n x 0 < n
      · simp only [if_pos hc, Option.isNone_some, Bool.false_eq_true, if_false, Option.getD_some]
        exact all_ev hv hn hn2 (by omega) (by omega) (by omega) (Or.inr rfl)
      · simp only [if_neg hc, Option.isNone_none, if_true, if_neg (show ¬ holF n x 0 < 0 by omega), decide_eq_false (show ¬ holF n x 0 > 64 - n by omega)]
        refine Ev.step (fun k => by rw [halterlaw13_RegionHoles.j1]) ?_
        have w3 : wrap64 (holF n x 0 + n) = holF n x 0 + n := wsm (by omega) (by omega)
        have w4 : wrap64 (holF n x 0 - 1) = holF n x 0 - 1 := wsm (by omega) (by omega)
        simp only [Bool.false_eq_true, if_false, w3, w4]
        obtain ⟨y, hy, hyv, hyp⟩ := Add_ok (r := ⟨holF n x 0, holF n x 0 + n, 2⟩) hv ⟨hb.1, by show holF n x 0 < holF n x 0 + n; omega, by show holF n x 0 + n ≤ 4096; omega, by show (0 : Int) ≤ 2; omega, by show (2 : Int) ≤ 7; omega⟩ hfr
        refine Ev.bind hy ?_
        simp only [Option.isNone_none, if_true]
        refine Ev.bind (Size_ev hyv) (Ev.bind (Size_ev hv) ?_)
        have bx := szL_le hv.1 (by omega)
        have hs := add_size hv hyv hb.1 hn (by omega) hfr hyp
        rw [wsm (i := szL x + n) (by omega) (by omega)]
        simp only [if_pos hs]
        exact all_ev hv hn hn2 (by omega) (by omega) (by omega) (Or.inl rfl)
    · simp only [if_neg hv, Option.isNone_some, Bool.false_eq_true, if_false]; exact hj
end Go.Proofs.YtikmanafbkiikaaDoor.Pure
