/- The reference's Add, At and Hole, beside the program's: both answer alike. -/
import Derived.Test.YtikmanafbkiikaaDoorXRegionx16
import Derived.Test.YtikmanafbkiikaaDoorXRegionx16
import Derived.Test.YtikmanafbkiikaaDoorXRegionx17
import Derived.Test.YtikmanafbkiikaaDoorRegRef
import Derived.Test.YtikmanafbkiikaaDoorRegAt
namespace Go.Proofs.YtikmanafbkiikaaDoor.XRegion
set_option linter.unusedSimpArgs false
set_option linter.unusedVariables false
open Go.RowKit Go.Proofs.YtikmanafbkiikaaDoorW.PrintWords Go.Proofs.YtikmanafbkiikaaDoorW.PrintLast
set_option linter.unusedVariables false
set_option linter.unusedSimpArgs false

/-! ### Add -/
theorem radd_ev {y : List G} {f : Int → Option Int} (hf : ∀ q v, f q = some v → 0 ≤ v ∧ v ≤ 7) {a b p : Int} (ha : 0 ≤ a) (hb : b ≤ 4096) (hp0 : 0 ≤ p) (hp7 : p ≤ 7) (hv : Vd y) (hy : ∀ q, pm y q = if a ≤ q ∧ q < b then some p else f q)
    (hc : ∀ q, a ≤ q → q < b → f q = none) :
    ∀ (d : Nat) (pg : Int) (m : List Int), pg + d = b → a ≤ pg → Mp m (fun q => if a ≤ q ∧ q < pg then some p else f q) → ∃ z, Ev (fun k => halterref13_Add.l0 k m pg a b p) (z, 0) ∧ z.map cv = y := by
  intro d
  induction d with
  | zero =>
    intro pg m hd hpg hm
    have hd' : pg = b := by omega
    subst hd'
    obtain ⟨z, hz, hzy⟩ := List_ev (y := y) hm (fun q v h => by
      by_cases e : a ≤ q ∧ q < pg
      · simp only [if_pos e] at h; have := Option.some.inj h; omega
      · simp only [if_neg e] at h; exact hf q v h) hv (fun q _ _ => hy q)
    refine ⟨z, Ev.step (fun k => by rw [halterref13_Add.l0]) ?_, hzy⟩
    simp only [Int.lt_irrefl, if_false]
    exact Ev.bind hz (Ev.now _)
  | succ d ih =>
    intro pg m hd hpg hm
    have w1 : wrap64 (pg + 1) = pg + 1 := wsm (by omega) (by omega)
    have w2 : wrap64 p = p := wsm (by omega) (by omega)
    obtain ⟨z, hz, hzy⟩ := ih (pg + 1) (m.set pg.toNat p) (by omega) (by omega) (hm.put (by omega) (by omega) (by rw [if_pos (by omega)]; rfl) (fun q q0 q1 hne => by
      by_cases e : a ≤ q ∧ q < pg
      · rw [if_pos e, if_pos (by omega)]
      · rw [if_neg e, if_neg (by omega)]))
    refine ⟨z, Ev.step (fun k => by rw [halterref13_Add.l0]) ?_, hzy⟩
    have hr : ¬ rd m pg ≥ 0 := by
      rw [hm.2 pg (by omega) (by omega)]
      simp only [if_neg (show ¬ (a ≤ pg ∧ pg < pg) by omega), hc pg hpg (by omega)]
      decide
    simp only [if_pos (show pg < b by omega), if_pos (show 0 ≤ pg by omega), if_pos (show pg < (m.length : Int) by rw [hm.1]; omega), if_neg hr, w1, w2]
    exact hz
theorem radd_no {f : Int → Option Int} {a b p : Int} (ha : 0 ≤ a) (hb : b ≤ 4096) (hp0 : 0 ≤ p) (hp7 : p ≤ 7) {c v : Int} (hc : f c = some v) (hv : 0 ≤ v) (hcb : c < b) :
    ∀ (d : Nat) (pg : Int) (m : List Int), pg + d = c → a ≤ pg → Mp m (fun q => if a ≤ q ∧ q < pg then some p else f q) → (∀ q, a ≤ q → q < c → f q = none) → Ev (fun k => halterref13_Add.l0 k m pg a b p) ([], 17) := by
  intro d
  induction d with
  | zero =>
    intro pg m hd hpg hm hcov
    have hd' : pg = c := by omega
    subst hd'
    refine Ev.step (fun k => by rw [halterref13_Add.l0]) ?_
    have hr : rd m pg ≥ 0 := by
      rw [hm.2 pg (by omega) (by omega)]
      simp only [if_neg (show ¬ (a ≤ pg ∧ pg < pg) by omega), hc]
      exact hv
    simp only [if_pos hcb, if_pos (show 0 ≤ pg by omega), if_pos (show pg < (m.length : Int) by rw [hm.1]; omega), if_pos hr]
    exact Ev.now _
  | succ d ih =>
    intro pg m hd hpg hm hcov
    have w1 : wrap64 (pg + 1) = pg + 1 := wsm (by omega) (by omega)
    have w2 : wrap64 p = p := wsm (by omega) (by omega)
    have hz := ih (pg + 1) (m.set pg.toNat p) (by omega) (by omega) (hm.put (by omega) (by omega) (by rw [if_pos (by omega)]; rfl) (fun q q0 q1 hne => by
      by_cases e : a ≤ q ∧ q < pg
      · rw [if_pos e, if_pos (by omega)]
      · rw [if_neg e, if_neg (by omega)])) hcov
    refine Ev.step (fun k => by rw [halterref13_Add.l0]) ?_
    have hr : ¬ rd m pg ≥ 0 := by
      rw [hm.2 pg (by omega) (by omega)]
      simp only [if_neg (show ¬ (a ≤ pg ∧ pg < pg) by omega), hcov pg hpg (by omega)]
      decide
    simp only [if_pos (show pg < b by omega), if_pos (show 0 ≤ pg by omega), if_pos (show pg < (m.length : Int) by rw [hm.1]; omega), if_neg hr, w1, w2]
    exact hz
/-- The first page of a .. b that is taken. -/
theorem first_yes {f : Int → Option Int} {a b : Int} (h : ¬ ∀ q, a ≤ q → q < b → f q = none) : ∃ c, a ≤ c ∧ c < b ∧ f c ≠ none ∧ ∀ q, a ≤ q → q < c → f q = none := by
  have key : ∀ (d : Nat) (s : Int), s + d = b → (∀ q, a ≤ q → q < s → f q = none) → a ≤ s → ∃ c, a ≤ c ∧ c < b ∧ f c ≠ none ∧ ∀ q, a ≤ q → q < c → f q = none := by
    intro d
    induction d with
    | zero => intro s hs hq ha; exact absurd (fun q q0 q1 => hq q q0 (by omega)) h
    | succ d ih =>
      intro s hs hq ha
      cases e : f s with
      | some v => exact ⟨s, ha, by omega, by rw [e]; simp, hq⟩
      | none => exact ih (s + 1) (by omega) (fun q q0 q1 => by
          by_cases e' : q = s
          · rw [e', e]
          · exact hq q q0 (by omega)) (by omega)
  by_cases hab : a ≤ b
  · obtain ⟨d, hd⟩ := Int.eq_ofNat_of_zero_le (a := b - a) (by omega)
    exact key d a (by omega) (fun q q0 q1 => by omega) (Int.le_refl _)
  · exact absurd (fun q q0 q1 => by omega) h
theorem RAdd_j {l : List R} (hv : Vd (l.map cv)) {a b p : Int} (hg : Gok ⟨a, b, p⟩) {r : List R × Int} (m : List Int) (hm : Ev (fun k => halterref13_Map.f k l) m) (hz : Ev (fun k => halterref13_Add.l0 k m a a b p) r) : Ev (fun k => halterref13_Add.f k l a b p) r := by
  have hl : l.length ≤ 4096 := by have := hv.len; rwa [cv_len] at this
  unfold halterref13_Add.f
  refine Ev.bind (May_ev hv.pn (by unfold big; omega)) ?_
  simp only [decide_eq_true hv, if_true, one_eq _ _ _ hg.2.2.2.1, Option.bind_some, decide_eq_true hg, Bool.not_true]
  refine Ev.step (fun k => by rw [halterref13_Add.j0]) ?_
  simp only [Bool.false_eq_true, if_false]
  exact Ev.bind hm hz
theorem RAdd_bad {l : List R} (hn : Pn (l.map cv)) (hl : l.length ≤ big) {a b p : Int} (hp : 0 ≤ p) (h : ¬ (Vd (l.map cv) ∧ Gok ⟨a, b, p⟩)) : Ev (fun k => halterref13_Add.f k l a b p) ([], 22) := by
  have hj : Ev (fun k => halterref13_Add.j0 k l true a b p) ([], 22) := by
    refine Ev.step (fun k => by rw [halterref13_Add.j0]) ?_
    simp only [if_true]
    exact Ev.now _
  unfold halterref13_Add.f
  refine Ev.bind (May_ev hn hl) ?_
  by_cases hv : Vd (l.map cv)
  · simp only [decide_eq_true hv, if_true, one_eq _ _ _ hp, Option.bind_some, decide_eq_false (show ¬ Gok ⟨a, b, p⟩ from fun e => h ⟨hv, e⟩), Bool.not_false]
    exact hj
  · simp only [decide_eq_false hv, Bool.false_eq_true, if_false]
    exact hj
theorem adds (l : List R) (hl : l.length ≤ 40) (hn : Pn (l.map cv)) (a b p : Int) (hp : 0 ≤ p) : ∃ x z e, Ev (fun k => region_Add.f k (l.map cv) a b p) (x, e) ∧ Ev (fun k => halterref13_Add.f k l a b p) (z, e.getD 0) ∧ z.map cv = x ∧ z.length ≤ big := by
  have hb : (l.map cv).length ≤ big := by rw [cv_len]; unfold big; omega
  have hb' : l.length ≤ big := by unfold big; omega
  by_cases h : Vd (l.map cv) ∧ Gok ⟨a, b, p⟩
  · obtain ⟨hv, hg⟩ := h
    obtain ⟨m, hm, hmp⟩ := Map_ev hv
    have g1 : 0 ≤ a := hg.1
    have g2 : a < b := hg.2.1
    have g3 : b ≤ 4096 := hg.2.2.1
    have g5 : p ≤ 7 := hg.2.2.2.2
    by_cases hc : ∀ q, a ≤ q → q < b → pm (l.map cv) q = none
    · obtain ⟨y, hy, hyv, hyp⟩ := Add_ok (r := ⟨a, b, p⟩) hv hg hc
      obtain ⟨d, hd⟩ := Int.eq_ofNat_of_zero_le (a := b - a) (by omega)
      obtain ⟨z, hz, hzy⟩ := radd_ev (fun q v hq => pm_perm hv.1 hq) g1 g3 hp g5 hyv hyp hc d a m (by omega) (Int.le_refl _) (hmp.congr (fun q _ _ => by rw [if_neg (by omega)]))
      refine ⟨y, z, none, hy, RAdd_j hv hg m hm hz, hzy, ?_⟩
      have := hyv.len
      rw [← hzy, cv_len] at this
      unfold big; omega
    · obtain ⟨c, c1, c2, c3, c4⟩ := first_yes hc
      obtain ⟨d, hd⟩ := Int.eq_ofNat_of_zero_le (a := c - a) (by omega)
      obtain ⟨v, hcv⟩ := Option.ne_none_iff_exists'.1 c3
      exact ⟨[], [], some 17, Add_meets (r := ⟨a, b, p⟩) hv hg hc, RAdd_j hv hg m hm (radd_no g1 g3 hp g5 hcv (pm_perm hv.1 hcv).1 c2 d a m (by omega) (Int.le_refl _) (hmp.congr (fun q _ _ => by rw [if_neg (by omega)])) c4), rfl, by unfold big; simp⟩
  · exact ⟨[], [], some 22, Add_bad hn hb hp h, RAdd_bad hn hb' hp h, rfl, by unfold big; simp⟩

/-! ### At -/
theorem rat_ev {l : List R} (hv : Vd (l.map cv)) (q : Int) : ∀ (t p : List R), p ++ t = l → Ev (fun k => halterref13_At.l0 k l q (p.length : Int)) (match (t.map cv).find? fun r => decide (r.f0 ≤ q ∧ q < r.f1) with | none => (0, 0, 0, false) | some r => (r.f0, r.f1, r.f2, true)) := by
  have hl : l.length ≤ 4096 := by have := hv.len; rwa [cv_len] at this
  intro t
  induction t with
  | nil =>
    intro p hp
    refine Ev.step (fun k => by rw [halterref13_At.l0]) ?_
    have : ¬ ((p.length : Int) < (l.length : Int)) := by rw [← hp]; simp
    simp only [if_neg this]
    refine Ev.step (fun k => by rw [halterref13_At.j1]) ?_
    simp only [Bool.false_eq_true, if_false]
    exact Ev.now _
  | cons r t ih =>
    intro p hp
    refine Ev.step (fun k => by rw [halterref13_At.l0]) ?_
    have h1 : (p.length : Int) < (l.length : Int) := by rw [← hp]; simp; omega
    have h0 : (0 : Int) ≤ (p.length : Int) := by omega
    have hr : rd_T112 l (p.length : Int) = r := by rw [← hp]; exact rrd_here p r t
    have hw : wrap64 ((p.length : Int) + 1) = ((p ++ [r]).length : Int) := by
      rw [wsm (by omega) (by omega)]; simp
    simp only [if_pos h1]
    refine Ev.bind (May_ev hv.pn (by unfold big; omega)) ?_
    refine Ev.step (fun k => by rw [halterref13_At.j1]) ?_
    have hih := ih (p ++ [r]) (by rw [← hp]; simp)
    simp only [decide_eq_true hv, if_true, if_pos h0, if_pos h1, hr, hw]
    rw [List.map_cons, List.find?_cons]
    by_cases c1 : q ≥ r.f0
    · by_cases c2 : q < r.f1
      · simp only [if_pos c1, if_pos c2, decide_eq_true (show (cv r).f0 ≤ q ∧ q < (cv r).f1 from ⟨c1, c2⟩)]
        exact Ev.now _
      · simp only [if_pos c1, if_neg c2, decide_eq_false (show ¬ ((cv r).f0 ≤ q ∧ q < (cv r).f1) from fun e => c2 e.2)]
        exact hih
    · simp only [if_neg c1, decide_eq_false (show ¬ ((cv r).f0 ≤ q ∧ q < (cv r).f1) from fun e => c1 e.1)]
      exact hih
theorem ats (l : List R) (hl : l.length ≤ 40) (hn : Pn (l.map cv)) (q : Int) : ∃ a b c d, Ev (fun k => region_At.f k (l.map cv) q) (a, b, c, d) ∧ Ev (fun k => halterref13_At.f k l q) (a, b, c, d) := by
  have hb : (l.map cv).length ≤ big := by rw [cv_len]; unfold big; omega
  have hb' : l.length ≤ big := by unfold big; omega
  by_cases hv : Vd (l.map cv)
  · have h := atloop_ev (l.map cv) q (l.map cv) [] rfl hv.len
    have h2 := rat_ev hv q l [] rfl
    have h3 : Ev (fun k => region_At.f k (l.map cv) q) (match (l.map cv).find? fun r => decide (r.f0 ≤ q ∧ q < r.f1) with | none => (0, 0, 0, false) | some r => (r.f0, r.f1, r.f2, true)) := by
      unfold region_At.f
      refine Ev.bind (Check_vd hv) ?_
      simp only [Option.isNone_none, if_true]
      exact h
    cases hf : (l.map cv).find? fun r => decide (r.f0 ≤ q ∧ q < r.f1) with
    | none =>
      rw [hf] at h2 h3
      exact ⟨_, _, _, _, h3, h2⟩
    | some r =>
      rw [hf] at h2 h3
      exact ⟨_, _, _, _, h3, h2⟩
  · refine ⟨0, 0, 0, false, ?_, ?_⟩
    · unfold region_At.f
      refine Ev.bind (Check_ev hn hb) ?_
      simp only [if_neg hv, Option.isNone_some, Bool.false_eq_true, if_false]
      exact Ev.now _
    · unfold halterref13_At.f
      have hj : Ev (fun k => halterref13_At.j1 k l q 0 false) (0, 0, 0, false) := by
        refine Ev.step (fun k => by rw [halterref13_At.j1]) ?_
        simp only [Bool.false_eq_true, if_false]
        exact Ev.now _
      refine Ev.step (fun k => by rw [halterref13_At.l0]) ?_
      by_cases h0 : (0 : Int) < (l.length : Int)
      · simp only [if_pos h0]
        refine Ev.bind (May_ev hn hb') ?_
        rw [decide_eq_false hv]
        exact hj
      · simp only [if_neg h0]
        exact hj

/-! ### Hole -/
theorem rhole_ev {f : Int → Option Int} (hf : ∀ q v, f q = some v → 0 ≤ v) {n b h : Int} (hb : b ≤ 4096) (hn : 1 ≤ n) (hn2 : n ≤ 4096) {a : Int} (ha : 0 ≤ a) {m : List Int} (hm : Mp m f)
    (hfree : ∀ p, h ≤ p → p < h + n → f p = none) (hleast : ∀ q, a ≤ q → q < h → ∃ p, q ≤ p ∧ p < q + n ∧ f p ≠ none) :
    ∀ (d : Nat) (pg r : Int), pg + d = b → 0 ≤ r → r < n → a ≤ pg - r → pg - r ≤ h → (∀ p, pg - r ≤ p → p < pg → f p = none) →
      Ev (fun k => halterref13_Hole.l0 k n b m r pg) (if b - h < n then (0, 12) else (h, 0)) := by
  intro d
  induction d with
  | zero =>
    intro pg r hd h0 h1 h2 h3 h4
    have hd' : pg = b := by omega
    subst hd'
    refine Ev.step (fun k => by rw [halterref13_Hole.l0]) ?_
    simp only [Int.lt_irrefl, if_false]
    rw [if_pos (by omega)]
    exact Ev.now _
  | succ d ih =>
    intro pg r hd h0 h1 h2 h3 h4
    refine Ev.step (fun k => by rw [halterref13_Hole.l0]) ?_
    have w1 : wrap64 (pg + 1) = pg + 1 := wsm (by omega) (by omega)
    have w2 : wrap64 (r + 1) = r + 1 := wsm (by omega) (by omega)
    have w3 : wrap64 (wrap64 (pg - n) + 1) = pg - n + 1 := by rw [wsm (i := pg - n) (by omega) (by omega), wsm (by omega) (by omega)]
    have hrd := hm.2 pg (by omega) (by omega)
    simp only [if_pos (show pg < b by omega), if_pos (show 0 ≤ pg by omega), if_pos (show pg < (m.length : Int) by rw [hm.1]; omega), w1, w2, w3]
    cases hfp : f pg with
    | some v =>
      rw [hfp] at hrd
      have hv := hf pg v hfp
      have hge : rd m pg ≥ 0 := by rw [hrd]; exact hv
      simp only [if_pos hge, if_neg (show ¬ (0 : Int) = n by omega)]
      have hlt : pg < h := by
        rcases Int.lt_or_le pg h with q | q
        · exact q
        · have := hfree pg q (by omega)
          rw [hfp] at this; cases this
      exact ih (pg + 1) 0 (by omega) (by omega) (by omega) (by omega) (by omega) (fun p p0 p1 => by omega)
    | none =>
      rw [hfp] at hrd
      have hge : ¬ rd m pg ≥ 0 := by rw [hrd]; decide
      simp only [if_neg hge]
      have h4' : ∀ p, pg - r ≤ p → p < pg + 1 → f p = none := fun p p0 p1 => by
        by_cases e : p = pg
        · rw [e, hfp]
        · exact h4 p p0 (by omega)
      by_cases hrn : r + 1 = n
      · simp only [if_pos hrn]
        have he : pg - r = h := by
          rcases Int.lt_or_le (pg - r) h with q | q
          · obtain ⟨p, p0, p1, p2⟩ := hleast (pg - r) h2 q
            exact absurd (h4' p p0 (by omega)) p2
          · omega
        rw [if_neg (by omega), show pg - n + 1 = h by omega]
        exact Ev.now _
      · simp only [if_neg hrn]
        exact ih (pg + 1) (r + 1) (by omega) (by omega) (by omega) (by omega) (by omega) (fun p p0 p1 => h4' p (by omega) p1)
theorem holes (l : List R) (hl : l.length ≤ 40) (hn : Pn (l.map cv)) (n a b : Int) : ∃ x e, Ev (fun k => region_Hole.f k (l.map cv) n a b) (x, e) ∧ Ev (fun k => halterref13_Hole.f k l n a b) (x, e.getD 0) := by
  have hb : (l.map cv).length ≤ big := by rw [cv_len]; unfold big; omega
  have hb' : l.length ≤ big := by unfold big; omega
  by_cases h : Vd (l.map cv) ∧ (0 ≤ a ∧ a < b ∧ b ≤ 4096) ∧ 1 ≤ n ∧ n ≤ 4096
  · obtain ⟨hv, hr, h1, h2⟩ := h
    have hH := Hole_ev hv hr ⟨h1, h2⟩
    obtain ⟨m, hm, hmp⟩ := Map_ev hv
    have hfr := holF_free (n := n) (a := a) h1 hv.1
    have hbd := holF_bd (n := n) (a := a) hv.1 hr.1 (by omega)
    obtain ⟨d, hd⟩ := Int.eq_ofNat_of_zero_le (a := b - a) (by omega)
    have hz := rhole_ev (f := pm (l.map cv)) (fun q v hq => (pm_perm hv.1 hq).1) hr.2.2 h1 h2 hr.1 hmp hfr.1 hfr.2 d a 0 (by omega) (by omega) (by omega) (by omega) (by omega) (fun p p0 p1 => by omega)
    have hrf : Ev (fun k => halterref13_Hole.f k l n a b) (if b - holF n (l.map cv) a < n then (0, 12) else (holF n (l.map cv) a, 0)) := by
      unfold halterref13_Hole.f
      refine Ev.bind (May_ev hv.pn hb') ?_
      simp only [decide_eq_true hv, if_true, range_eq, Option.bind_some, decide_eq_true hr, if_neg (show ¬ n < 1 by omega), decide_eq_false (show ¬ n > 4096 by omega)]
      refine Ev.step (fun k => by rw [halterref13_Hole.j0]) ?_
      simp only [Bool.false_eq_true, if_false]
      exact Ev.bind hm hz
    unfold holR at hH
    by_cases hc : b - holF n (l.map cv) a < n
    · rw [if_pos hc] at hH hrf
      exact ⟨_, _, hH, hrf⟩
    · rw [if_neg hc] at hH hrf
      exact ⟨_, _, hH, hrf⟩
  · refine ⟨0, some 22, Hole_bad hn hb h, ?_⟩
    have hj : Ev (fun k => halterref13_Hole.j0 k l n a b true) (0, 22) := by
      refine Ev.step (fun k => by rw [halterref13_Hole.j0]) ?_
      simp only [if_true]
      exact Ev.now _
    unfold halterref13_Hole.f
    refine Ev.bind (May_ev hn hb') ?_
    by_cases hv : Vd (l.map cv)
    · by_cases hr : 0 ≤ a ∧ a < b ∧ b ≤ 4096
      · by_cases h1 : n < 1
        · simp only [decide_eq_true hv, if_true, range_eq, Option.bind_some, decide_eq_true hr, if_pos h1]
          exact hj
        · have : n > 4096 := by
            rcases Int.lt_or_le 4096 n with q | q
            · exact q
            · exact absurd ⟨hv, hr, by omega, q⟩ h
          simp only [decide_eq_true hv, if_true, range_eq, Option.bind_some, decide_eq_true hr, if_neg h1, decide_eq_true this]
          exact hj
      · simp only [decide_eq_true hv, if_true, range_eq, Option.bind_some, decide_eq_false hr, Bool.false_eq_true, if_false]
        exact hj
    · simp only [decide_eq_false hv, Bool.false_eq_true, if_false]
      exact hj

/-! ### Size -/
theorem Size_bad {l : List G} (hn : Pn l) (hl : l.length ≤ big) (hv : ¬ Vd l) : Ev (fun k => region_Size.f k l) 0 := by
  unfold region_Size.f
  refine Ev.bind (Check_ev hn hl) ?_
  simp only [if_neg hv, Option.isNone_some, Bool.false_eq_true, if_false]
  exact Ev.now _
end Go.Proofs.YtikmanafbkiikaaDoor.XRegion
