/- What the reference's functions on regions come to: they lay a list out page by page and read it back. -/
import Derived.Test.YtikmanafbkiikaaDoorXRegionx12
import Derived.Test.YtikmanafbkiikaaDoorXRegionx12
import Derived.Test.YtikmanafbkiikaaDoorXRegionx13
import Derived.Test.YtikmanafbkiikaaDoorRegEv2
namespace Go.Proofs.YtikmanafbkiikaaDoor.XRegion
set_option linter.unusedSimpArgs false
set_option linter.unusedVariables false
open Go.RowKit Go.Proofs.YtikmanafbkiikaaDoorW.PrintWords Go.Proofs.YtikmanafbkiikaaDoorW.PrintLast
set_option linter.unusedVariables false
set_option linter.unusedSimpArgs false

abbrev R := S112
theorem cv_len (l : List R) : (l.map cv).length = l.length := List.length_map _
theorem rrd_here (p : List R) (r : R) (l : List R) : rd_T112 (p ++ r :: l) (p.length : Int) = r := by
  unfold rd_T112; simp

/-! ### May -/
theorem range_eq (a b : Int) : halterref13_Range.f a b = some (decide (0 ≤ a ∧ a < b ∧ b ≤ 4096)) := by
  unfold halterref13_Range.f
  by_cases h1 : a ≥ 0
  · by_cases h2 : a < b
    · rw [if_pos h1, if_pos h2]; congr 1
      have : 0 ≤ a := h1
      simp [this, h2]
    · rw [if_pos h1, if_neg h2, decide_eq_false (fun h => h2 h.2.1)]
  · rw [if_neg h1, decide_eq_false (fun h => h1 h.1)]
theorem one_eq (a b p : Int) (hp : 0 ≤ p) : halterref13_One.f a b p = some (decide (Gok ⟨a, b, p⟩)) := by
  unfold halterref13_One.f
  rw [range_eq, Option.bind_some]
  by_cases h : 0 ≤ a ∧ a < b ∧ b ≤ 4096
  · rw [decide_eq_true h, if_pos rfl]
    by_cases h7 : p ≤ 7
    · rw [decide_eq_true h7, decide_eq_true (show Gok ⟨a, b, p⟩ from ⟨h.1, h.2.1, h.2.2, hp, h7⟩)]
    · rw [decide_eq_false h7, decide_eq_false (show ¬ Gok ⟨a, b, p⟩ from fun g => h7 g.2.2.2.2)]
  · rw [decide_eq_false h, if_neg (by simp), decide_eq_false (show ¬ Gok ⟨a, b, p⟩ from fun g => h ⟨g.1, g.2.1, g.2.2.1⟩)]
theorem may_ev (l : List R) : ∀ (t p : List R), p ++ t = l → Pn (l.map cv) → l.length ≤ big → Ev (fun k => halterref13_May.l0 k l (p.length : Int)) (okF (p.map cv).getLast? (t.map cv)) := by
  intro t
  induction t with
  | nil =>
    intro p hp hn hl
    refine Ev.step (fun k => by rw [halterref13_May.l0]) ?_
    have : ¬ ((p.length : Int) < (l.length : Int)) := by rw [← hp]; simp
    simp only [if_neg this]
    exact Ev.now _
  | cons r t ih =>
    intro p hp hn hl
    refine Ev.step (fun k => by rw [halterref13_May.l0]) ?_
    have h1 : (p.length : Int) < (l.length : Int) := by rw [← hp]; simp; omega
    have h0 : (0 : Int) ≤ (p.length : Int) := by omega
    have hr : rd_T112 l (p.length : Int) = r := by rw [← hp]; exact rrd_here p r t
    have hrn : 0 ≤ r.f2 := hn (cv r) (by rw [← hp]; simp)
    simp only [if_pos h1, if_pos h0, hr, one_eq _ _ _ hrn, Option.bind_some, decide_eq_true_eq]
    rw [List.map_cons, okF_cons]
    have hw : wrap64 ((p.length : Int) + 1) = ((p ++ [r]).length : Int) := by
      rw [wsm (by omega) (by unfold big at hl; omega)]; simp
    have hih := ih (p ++ [r]) (by rw [← hp]; simp) hn hl
    rw [List.map_append, List.map_cons, List.map_nil, List.getLast?_concat] at hih
    by_cases hg : Gok ⟨r.f0, r.f1, r.f2⟩
    · have hg' : Gok (cv r) := hg
      simp only [if_pos hg, hw, decide_eq_true hg', Bool.true_and]
      rcases List.eq_nil_or_concat p with rfl | ⟨p', q, hpq⟩
      · simp only [List.length_nil, Int.ofNat_zero, Int.natCast_zero, gt_iff_lt, Int.lt_irrefl, if_false]
        exact hih
      · rw [List.concat_eq_append] at hpq
        subst hpq
        have hpos : ((p' ++ [q]).length : Int) > 0 := by
          have h_ : (p' ++ [q]).length = p'.length + 1 := by simp
          omega
        have hwq : wrap64 (((p' ++ [q]).length : Int) - 1) = (p'.length : Int) := by
          rw [wsm (by omega) (by unfold big at hl; omega)] <;> simp
        have hq : rd_T112 l (p'.length : Int) = q := by rw [← hp, List.append_assoc]; exact rrd_here p' q _
        have hq0 : (0 : Int) ≤ (p'.length : Int) := by omega
        have hq1 : (p'.length : Int) < (l.length : Int) := by rw [← hp]; simp; omega
        rw [List.map_append, List.map_cons, List.map_nil]
        simp only [if_pos hpos, hwq, hq, if_pos hq0, if_pos hq1, List.getLast?_concat]
        by_cases c1 : q.f1 > r.f0
        · simp only [if_pos c1, decide_eq_true (show (cv q).f1 > (cv r).f0 ∨ (cv q).f1 = (cv r).f0 ∧ (cv q).f2 = (cv r).f2 from .inl c1), Bool.not_true, Bool.false_and, Bool.false_eq_true, if_false]
          exact Ev.now _
        · by_cases c2 : q.f1 = r.f0
          · by_cases c3 : q.f2 = r.f2
            · simp only [if_neg c1, if_pos c2, if_pos c3, decide_eq_true (show (cv q).f1 > (cv r).f0 ∨ (cv q).f1 = (cv r).f0 ∧ (cv q).f2 = (cv r).f2 from .inr ⟨c2, c3⟩), Bool.not_true, Bool.false_and, Bool.false_eq_true, if_false]
              exact Ev.now _
            · simp only [if_neg c1, if_pos c2, if_neg c3, decide_eq_false (show ¬ ((cv q).f1 > (cv r).f0 ∨ (cv q).f1 = (cv r).f0 ∧ (cv q).f2 = (cv r).f2) from fun e => e.elim c1 (fun e => c3 e.2)), Bool.not_false, Bool.true_and]
              exact hih
          · simp only [if_neg c1, if_neg c2, decide_eq_false (show ¬ ((cv q).f1 > (cv r).f0 ∨ (cv q).f1 = (cv r).f0 ∧ (cv q).f2 = (cv r).f2) from fun e => e.elim c1 (fun e => c2 e.1)), Bool.not_false, Bool.true_and]
            exact hih
    · have hg' : ¬ Gok (cv r) := hg
      simp only [if_neg hg, decide_eq_false hg', Bool.false_and, Bool.false_eq_true, if_false]
      exact Ev.now _
theorem May_ev {l : List R} (hn : Pn (l.map cv)) (hl : l.length ≤ big) : Ev (fun k => halterref13_May.f k l) (decide (Vd (l.map cv))) := by
  have h := may_ev l l [] rfl hn hl
  have e : okF (([] : List R).map cv).getLast? (l.map cv) = decide (Vd (l.map cv)) := by
    have : okF (([] : List R).map cv).getLast? (l.map cv) = okF none (l.map cv) := rfl
    rw [this]
    by_cases hv : Vd (l.map cv)
    · rw [decide_eq_true hv]; exact okF_none.2 hv
    · rw [decide_eq_false hv]
      cases hq : okF none (l.map cv) with
      | false => rfl
      | true => exact absurd (okF_none.1 hq) hv
  rw [e] at h
  exact h

/-! ### pages laid out -/
def Mp (m : List Int) (f : Int → Option Int) : Prop := m.length = 4096 ∧ ∀ q, 0 ≤ q → q < 4096 → rd m q = (f q).getD (-1)
theorem rd_put {m : List Int} {i v : Int} (h0 : 0 ≤ i) (h1 : i < (m.length : Int)) {q : Int} (hq : 0 ≤ q) : rd (m.set i.toNat v) q = if q = i then v else rd m q := by
  unfold rd
  rw [List.getD_eq_getElem?_getD, List.getElem?_set, List.getD_eq_getElem?_getD]
  by_cases h : q = i
  · subst h
    rw [if_pos rfl, if_pos (by omega), if_pos rfl]; rfl
  · rw [if_neg (by omega), if_neg h]
theorem Mp.put {m : List Int} {f g : Int → Option Int} (h : Mp m f) {i v : Int} (h0 : 0 ≤ i) (h1 : i < 4096) (hv : v = (g i).getD (-1)) (hg : ∀ q, 0 ≤ q → q < 4096 → q ≠ i → g q = f q) : Mp (m.set i.toNat v) g := by
  refine ⟨by rw [List.length_set]; exact h.1, fun q q0 q1 => ?_⟩
  rw [rd_put h0 (by rw [h.1]; exact h1) q0]
  by_cases e : q = i
  · rw [if_pos e, e, hv]
  · rw [if_neg e, hg q q0 q1 e, h.2 q q0 q1]
theorem Mp.congr {m : List Int} {f g : Int → Option Int} (h : Mp m f) (hg : ∀ q, 0 ≤ q → q < 4096 → g q = f q) : Mp m g :=
  ⟨h.1, fun q q0 q1 => by rw [hg q q0 q1, h.2 q q0 q1]⟩
theorem map2_ev {l : List R} (hl : l.length ≤ 4096) {x : List G} {p : List R} {r : R} {t : List R} (hp : p ++ r :: t = l) (hg : Gok (cv r)) (hx : ∀ q, r.f0 ≤ q → q < r.f1 → pm x q = some r.f2)
    (K : ∀ m, Mp m (fun q => if q < r.f1 then pm x q else none) → ∃ z, Ev (fun k => halterref13_Map.l1 k l m ((p ++ [r]).length : Int)) z ∧ Mp z (pm x)) :
    ∀ (d : Nat) (pg : Int) (m : List Int), pg + d = r.f1 → r.f0 ≤ pg → Mp m (fun q => if q < pg then pm x q else none) → ∃ z, Ev (fun k => halterref13_Map.l2 k l m (p.length : Int) pg) z ∧ Mp z (pm x) := by
  have h1 : (p.length : Int) < (l.length : Int) := by rw [← hp]; simp; omega
  have h0 : (0 : Int) ≤ (p.length : Int) := by omega
  have hr : rd_T112 l (p.length : Int) = r := by rw [← hp]; exact rrd_here p r t
  have hw : wrap64 ((p.length : Int) + 1) = ((p ++ [r]).length : Int) := by
    rw [wsm (by omega) (by omega)]; simp
  have g0 : 0 ≤ r.f0 := hg.1
  have g1 : r.f1 ≤ 4096 := hg.2.2.1
  have g2 : 0 ≤ r.f2 := hg.2.2.2.1
  have g3 : r.f2 ≤ 7 := hg.2.2.2.2
  intro d
  induction d with
  | zero =>
    intro pg m hd hpg hm
    have hd' : pg = r.f1 := by omega
    subst hd'
    obtain ⟨z, hz, hzp⟩ := K m hm
    refine ⟨z, Ev.step (fun k => by rw [halterref13_Map.l2]) ?_, hzp⟩
    simp only [if_pos h0, if_pos h1, hr, Int.lt_irrefl, if_false, hw]
    exact hz
  | succ d ih =>
    intro pg m hd hpg hm
    have w1 : wrap64 (pg + 1) = pg + 1 := wsm (by omega) (by omega)
    have w2 : wrap64 r.f2 = r.f2 := wsm (by omega) (by omega)
    have hm' : Mp (m.set pg.toNat r.f2) (fun q => if q < pg + 1 then pm x q else none) := by
      refine hm.put (by omega) (by omega) ?_ ?_
      · rw [if_pos (by omega), hx pg hpg (by omega)]; rfl
      · intro q q0 q1 hne
        by_cases hlt : q < pg
        · rw [if_pos hlt, if_pos (by omega)]
        · rw [if_neg hlt, if_neg (by omega)]
    obtain ⟨z, hz, hzp⟩ := ih (pg + 1) _ (by omega) (by omega) hm'
    refine ⟨z, Ev.step (fun k => by rw [halterref13_Map.l2]) ?_, hzp⟩
    have hml : pg < (m.length : Int) := by rw [hm.1]; omega
    have hlt : pg < r.f1 := by omega
    have hge : 0 ≤ pg := by omega
    simp only [if_pos h0, if_pos h1, hr, if_pos hlt, if_pos hge, if_pos hml, w1, w2]
    exact hz
theorem map1_ev {l : List R} (hl : l.length ≤ 4096) {x : List G} : ∀ (t p : List R) (c : Int) (m : List Int), p ++ t = l → Ch c (t.map cv) → 0 ≤ c → (∀ q, c ≤ q → pm x q = pm (t.map cv) q) →
    Mp m (fun q => if q < c then pm x q else none) → ∃ z, Ev (fun k => halterref13_Map.l1 k l m (p.length : Int)) z ∧ Mp z (pm x) := by
  intro t
  induction t with
  | nil =>
    intro p c m hp hc h0 hx hm
    refine ⟨m, Ev.step (fun k => by rw [halterref13_Map.l1]) ?_, hm.congr (fun q q0 q1 => ?_)⟩
    · have : ¬ ((p.length : Int) < (l.length : Int)) := by rw [← hp]; simp
      simp only [if_neg this]
      exact Ev.now _
    · by_cases h : q < c
      · simp only [if_pos h]
      · simp only [if_neg h]
        rw [hx q (by omega)]; rfl
  | cons r t ih =>
    intro p c m hp hc h0 hx hm
    obtain ⟨c1, c2, c3⟩ := hc
    have c1' : c ≤ r.f0 := c1
    have c2' : r.f0 < r.f1 := c2.2.1
    have hin : ∀ q, r.f0 ≤ q → q < r.f1 → pm x q = some r.f2 := fun q q1 q2 => by
      rw [hx q (by omega), List.map_cons, pm, if_pos (show (cv r).f0 ≤ q ∧ q < (cv r).f1 from ⟨q1, q2⟩)]; rfl
    have hx' : ∀ q, r.f1 ≤ q → pm x q = pm (t.map cv) q := fun q q1 => by
      rw [hx q (by omega), List.map_cons, pm, if_neg (show ¬ ((cv r).f0 ≤ q ∧ q < (cv r).f1) from fun e => by have : q < r.f1 := e.2; omega)]
    obtain ⟨d, hd⟩ := Int.eq_ofNat_of_zero_le (a := r.f1 - r.f0) (by omega)
    obtain ⟨z, hz, hzp⟩ := map2_ev hl hp c2 hin (fun m' hm' => ih (p ++ [r]) r.f1 m' (by rw [← hp]; simp) c3 (by have := c2.1; have : 0 ≤ r.f0 := this; omega) hx' hm') d r.f0 m (by omega) (Int.le_refl _)
      (hm.congr (fun q q0 q1 => by
        by_cases h : q < c
        · rw [if_pos h, if_pos (by omega)]
        · rw [if_neg h]
          by_cases h' : q < r.f0
          · rw [if_pos h', hx q (by omega)]
            exact pm_lt (lo := r.f0) ⟨Int.le_refl _, c2, c3⟩ h'
          · rw [if_neg h']))
    refine ⟨z, Ev.step (fun k => by rw [halterref13_Map.l1]) ?_, hzp⟩
    have h1 : (p.length : Int) < (l.length : Int) := by rw [← hp]; simp; omega
    have h0' : (0 : Int) ≤ (p.length : Int) := by omega
    have hr : rd_T112 l (p.length : Int) = r := by rw [← hp]; exact rrd_here p r t
    simp only [if_pos h1, if_pos h0', hr]
    exact hz
theorem map0_ev {l : List R} {P : List Int → Prop} (K : ∀ m, Mp m (fun _ => none) → ∃ z, Ev (fun k => halterref13_Map.l1 k l m 0) z ∧ P z) :
    ∀ (d i : Nat) (m : List Int), i + d = 4096 → m.length = 4096 → (∀ q : Int, 0 ≤ q → q < i → rd m q = -1) → ∃ z, Ev (fun k => halterref13_Map.l0 k l m (i : Int)) z ∧ P z := by
  intro d
  induction d with
  | zero =>
    intro i m hi hm hq
    obtain ⟨z, hz, hP⟩ := K m ⟨hm, fun q q0 q1 => hq q q0 (by omega)⟩
    refine ⟨z, Ev.step (fun k => by rw [halterref13_Map.l0]) ?_, hP⟩
    simp only [if_neg (show ¬ ((i : Int) < 4096) by omega)]
    exact hz
  | succ d ih =>
    intro i m hi hm hq
    obtain ⟨z, hz, hP⟩ := ih (i + 1) (m.set ((i : Int).toNat) (-1)) (by omega) (by rw [List.length_set]; exact hm) (fun q q0 q1 => by
      rw [rd_put (by omega) (by omega) q0]
      by_cases e : q = (i : Int)
      · rw [if_pos e]
      · rw [if_neg e]; exact hq q q0 (by omega))
    refine ⟨z, Ev.step (fun k => by rw [halterref13_Map.l0]) ?_, hP⟩
    have w1 : wrap64 ((i : Int) + 1) = ((i + 1 : Nat) : Int) := by rw [wsm (by omega) (by omega)]; omega
    simp only [if_pos (show ((i : Int) < 4096) by omega), if_pos (show (0 : Int) ≤ (i : Int) by omega), if_pos (show (i : Int) < (m.length : Int) by omega), w1]
    exact hz
theorem Map_ev {l : List R} (hv : Vd (l.map cv)) : ∃ z, Ev (fun k => halterref13_Map.f k l) z ∧ Mp z (pm (l.map cv)) := by
  have hl : l.length ≤ 4096 := by have := hv.len; rwa [cv_len] at this
  have := map0_ev (l := l) (P := fun z => Mp z (pm (l.map cv))) (fun m hm => map1_ev hl l [] 0 m rfl hv.1 (Int.le_refl _) (fun q _ => rfl) (hm.congr (fun q q0 q1 => by
    show (if q < 0 then _ else _) = _
    rw [if_neg (by omega)]))) 4096 0 (List.replicate 4096 0) (by omega) (List.length_replicate) (fun q q0 q1 => by omega)
  obtain ⟨z, hz, hP⟩ := this
  refine ⟨z, ?_, hP⟩
  unfold halterref13_Map.f
  simp only [if_pos (show (4096 : Nat) ≤ 35184372088832 by decide)]
  exact hz

/-! ### pages read back -/
theorem pm_mem : ∀ {l : List G} {lo : Int}, Ch lo l → ∀ r ∈ l, ∀ q, r.f0 ≤ q → q < r.f1 → pm l q = some r.f2
  | a :: l, lo, ⟨c1, c2, c3⟩, r, hr, q, h0, h1 => by
    rcases List.mem_cons.1 hr with rfl | hr
    · rw [pm, if_pos ⟨h0, h1⟩]
    · have h := pm_mem c3 r hr q h0 h1
      have : a.f1 ≤ q := (pm_range c3 h).1
      rw [pm, if_neg (by omega)]
      exact h
theorem ch_last : ∀ {l : List G} {g : G} {lo : Int}, Ch lo (l ++ [g]) → Gok g ∧ lo ≤ g.f0 ∧ (∀ r ∈ l, r.f1 ≤ g.f0) ∧ Ch lo l
  | [], g, lo, ⟨c1, c2, _⟩ => ⟨c2, c1, (fun r hr => absurd hr List.not_mem_nil), trivial⟩
  | a :: l, g, lo, ⟨c1, c2, c3⟩ => by
    obtain ⟨i1, i2, i3, i4⟩ := ch_last (l := l) c3
    have := c2.2.1
    refine ⟨i1, by omega, fun r hr => ?_, c1, c2, i4⟩
    rcases List.mem_cons.1 hr with rfl | hr
    · exact i2
    · exact i3 r hr
theorem ch_snoc {l : List G} {g : G} {lo : Int} (h : Ch lo l) (hl : ∀ r ∈ l, r.f1 ≤ g.f0) (h0 : lo ≤ g.f0) (hg : Gok g) : Ch lo (l ++ [g]) :=
  Ch_append h hl h0 ⟨Int.le_refl _, hg, trivial⟩
theorem pm_snoc : ∀ {l : List G} {g : G} {q : Int}, pm (l ++ [g]) q = if pm l q = none then (if g.f0 ≤ q ∧ q < g.f1 then some g.f2 else none) else pm l q
  | [], g, q => by
    show pm [g] q = _
    rw [if_pos (show pm [] q = none from rfl)]; rfl
  | a :: l, g, q => by
    rw [List.cons_append, pm, pm]
    by_cases h : a.f0 ≤ q ∧ q < a.f1
    · rw [if_pos h, if_pos h, if_neg (by simp)]
    · rw [if_neg h, if_neg h]; exact pm_snoc
theorem pm_above : ∀ {l : List G} {q : Int}, (∀ r ∈ l, r.f1 ≤ q) → pm l q = none
  | [], _, _ => rfl
  | a :: l, q, h => by
    have := h a List.mem_cons_self
    rw [pm, if_neg (by omega)]
    exact pm_above (fun r hr => h r (List.mem_cons_of_mem _ hr))
/-- What has been read back of the pages below i. -/
def Bk (f : Int → Option Int) (i : Int) (z : List G) : Prop := Ch 0 z ∧ Mx z ∧ (∀ r ∈ z, r.f1 ≤ i) ∧ ∀ q, pm z q = if 0 ≤ q ∧ q < i then f q else none
theorem Bk.skip {f : Int → Option Int} {i : Int} {z : List G} (h : Bk f i z) (hf : f i = none) : Bk f (i + 1) z := by
  refine ⟨h.1, h.2.1, fun r hr => by have := h.2.2.1 r hr; omega, fun q => ?_⟩
  rw [h.2.2.2 q]
  by_cases e : q = i
  · subst e
    rw [if_neg (by omega), hf]; simp
  · by_cases e' : 0 ≤ q ∧ q < i
    · rw [if_pos e', if_pos (by omega)]
    · rw [if_neg e', if_neg (by omega)]
theorem Bk.snoc {f : Int → Option Int} {i v : Int} {z : List G} (h : Bk f i z) (h0 : 0 ≤ i) (h1 : i < 4096) (hv : 0 ≤ v ∧ v ≤ 7) (hf : f i = some v) (hn : 0 < i → f (i - 1) ≠ some v) : Bk f (i + 1) (z ++ [⟨i, i + 1, v⟩]) := by
  obtain ⟨a1, a2, a3, a4⟩ := h
  have hg : Gok ⟨i, i + 1, v⟩ := ⟨h0, by show i < i + 1; omega, by show i + 1 ≤ 4096; omega, hv.1, hv.2⟩
  have hc : Ch 0 (z ++ [⟨i, i + 1, v⟩]) := ch_snoc a1 a3 h0 hg
  have hzi : pm z i = none := pm_above a3
  have hp : ∀ q, pm (z ++ [⟨i, i + 1, v⟩]) q = if 0 ≤ q ∧ q < i + 1 then f q else none := by
    intro q
    rw [pm_snoc]
    by_cases e : q = i
    · subst e
      rw [if_pos hzi, if_pos (show q ≤ q ∧ q < q + 1 by omega), if_pos (by omega), hf]
    · have hout : ¬ (i ≤ q ∧ q < i + 1) := by omega
      have := a4 q
      by_cases hq : pm z q = none
      · rw [if_pos hq]
        simp only [if_neg hout]
        rw [hq] at this
        by_cases e' : 0 ≤ q ∧ q < i
        · rw [if_pos e'] at this; rw [if_pos (by omega), ← this]
        · rw [if_neg (by omega)]
      · rw [if_neg hq, this]
        by_cases e' : 0 ≤ q ∧ q < i
        · rw [if_pos e', if_pos (by omega)]
        · rw [if_neg e', if_neg (by omega)]
  refine ⟨hc, (Mx_iff hc).2 (fun r hr => ?_), fun r hr => ?_, hp⟩
  · rw [hp]
    rcases List.mem_append.1 hr with hr | hr
    · have hle := a3 r hr
      have hm := (Mx_iff a1).1 a2 r hr
      have hgr := ((keys_nodup a1).2.2 r hr).2
      rw [a4] at hm
      by_cases e : r.f1 = i
      · rw [e, if_pos (by omega), hf]
        intro e2
        have e3 : v = r.f2 := Option.some.inj e2
        have := pm_mem a1 r hr (i - 1) (by have := hgr.2.1; omega) (by omega)
        rw [a4, if_pos (by have := hgr.1; have := hgr.2.1; omega), ← e3] at this
        exact hn (by have := hgr.1; have := hgr.2.1; omega) this
      · have : 0 ≤ r.f1 ∧ r.f1 < i := by have := hgr.1; have := hgr.2.1; omega
        rw [if_pos this] at hm
        rw [if_pos (by omega)]; exact hm
    · obtain rfl := List.mem_singleton.1 hr
      rw [if_neg (by show ¬ (0 ≤ i + 1 ∧ i + 1 < i + 1); omega)]
      simp
  · rcases List.mem_append.1 hr with hr | hr
    · have := a3 r hr; omega
    · obtain rfl := List.mem_singleton.1 hr
      exact Int.le_refl _
theorem Bk.more {f : Int → Option Int} {i v : Int} {z : List G} (h : Bk f i z) (h0 : 0 < i) (h1 : i < 4096) (hf : f i = some v) (hp : f (i - 1) = some v) :
    ∃ y g, z = y ++ [g] ∧ Bk f (i + 1) (y ++ [⟨g.f0, i + 1, g.f2⟩]) := by
  obtain ⟨a1, a2, a3, a4⟩ := h
  have hz1 : pm z (i - 1) = some v := by rw [a4, if_pos (by omega), hp]
  rcases List.eq_nil_or_concat z with rfl | ⟨y, g, hy⟩
  · cases hz1
  rw [List.concat_eq_append] at hy
  subst hy
  obtain ⟨l1, l2, l3, l4⟩ := ch_last a1
  have hgi : g.f1 ≤ i := a3 g (by simp)
  have hyn : pm y (i - 1) = none := pm_above (fun r hr => by have := l3 r hr; have := l1.2.1; omega)
  rw [pm_snoc, if_pos hyn] at hz1
  have hin : g.f0 ≤ i - 1 ∧ i - 1 < g.f1 := by
    by_cases e : g.f0 ≤ i - 1 ∧ i - 1 < g.f1
    · exact e
    · rw [if_neg e] at hz1; cases hz1
  rw [if_pos hin] at hz1
  have hg2 : g.f2 = v := Option.some.inj hz1
  have hg1 : g.f1 = i := by omega
  refine ⟨y, g, rfl, ?_⟩
  have hg : Gok ⟨g.f0, i + 1, g.f2⟩ := ⟨l1.1, by show g.f0 < i + 1; omega, by show i + 1 ≤ 4096; omega, l1.2.2.2.1, l1.2.2.2.2⟩
  have hc : Ch 0 (y ++ [⟨g.f0, i + 1, g.f2⟩]) := ch_snoc l4 l3 l2 hg
  have hyi : pm y i = none := pm_above (fun r hr => by have := l3 r hr; omega)
  have hpp : ∀ q, pm (y ++ [⟨g.f0, i + 1, g.f2⟩]) q = if 0 ≤ q ∧ q < i + 1 then f q else none := by
    intro q
    have hq := a4 q
    rw [pm_snoc] at hq ⊢
    by_cases e : q = i
    · subst e
      rw [if_pos hyi, if_pos (show g.f0 ≤ q ∧ q < q + 1 by omega), if_pos (by omega), hf, hg2]
    · have e1 : (g.f0 ≤ q ∧ q < i + 1) ↔ (g.f0 ≤ q ∧ q < g.f1) := by omega
      have e2 : (0 ≤ q ∧ q < i + 1) ↔ (0 ≤ q ∧ q < i) := by omega
      simp only [e1, e2]
      exact hq
  refine ⟨hc, (Mx_iff hc).2 (fun r hr => ?_), fun r hr => ?_, hpp⟩
  · rw [hpp]
    rcases List.mem_append.1 hr with hr | hr
    · have hle := l3 r hr
      have hm := (Mx_iff a1).1 a2 r (List.mem_append_left _ hr)
      have hgr := ((keys_nodup l4).2.2 r hr).2
      have : 0 ≤ r.f1 ∧ r.f1 < i := by have := hgr.1; have := hgr.2.1; have := l1.2.1; omega
      rw [a4, if_pos this] at hm
      rw [if_pos (by omega)]; exact hm
    · obtain rfl := List.mem_singleton.1 hr
      rw [if_neg (by show ¬ (0 ≤ i + 1 ∧ i + 1 < i + 1); omega)]
      simp
  · rcases List.mem_append.1 hr with hr | hr
    · have := l3 r hr; have := l1.2.1; omega
    · obtain rfl := List.mem_singleton.1 hr
      exact Int.le_refl _
theorem list_ev {m : List Int} {f : Int → Option Int} (hm : Mp m f) (hf : ∀ q v, f q = some v → 0 ≤ v ∧ v ≤ 7) : ∀ (d i : Nat) (z : List R), i + d = 4096 → z.length ≤ i → Bk f i (z.map cv) →
    ∃ y, Ev (fun k => halterref13_List.l0 k m z (i : Int)) y ∧ Bk f 4096 (y.map cv) := by
  intro d
  induction d with
  | zero =>
    intro i z hi hz hb
    refine ⟨z, Ev.step (fun k => by rw [halterref13_List.l0]) ?_, by rw [show (4096 : Int) = (i : Int) by omega]; exact hb⟩
    simp only [if_neg (show ¬ ((i : Int) < 4096) by omega)]
    exact Ev.now _
  | succ d ih =>
    intro i z hi hz hb
    have hi0 : (0 : Int) ≤ (i : Int) := by omega
    have hi1 : (i : Int) < 4096 := by omega
    have hi2 : (i : Int) < (m.length : Int) := by rw [hm.1]; omega
    have w1 : wrap64 ((i : Int) + 1) = ((i + 1 : Nat) : Int) := by rw [wsm (by omega) (by omega)]; omega
    have c1 : ((i + 1 : Nat) : Int) = (i : Int) + 1 := by omega
    have hri := hm.2 i hi0 hi1
    cases hfi : f (i : Int) with
    | none =>
      obtain ⟨y, hy, hyb⟩ := ih (i + 1) z (by omega) (by omega) (by rw [c1]; exact hb.skip hfi)
      refine ⟨y, Ev.step (fun k => by rw [halterref13_List.l0]) ?_, hyb⟩
      rw [hfi] at hri
      have hneg : rd m (i : Int) < 0 := by rw [hri]; decide
      simp only [if_pos hi1, if_pos hi0, if_pos hi2, if_pos hneg, w1]
      exact hy
    | some v =>
      have hv := hf _ _ hfi
      rw [hfi] at hri
      have hri' : rd m (i : Int) = v := hri
      have hnn : ¬ rd m (i : Int) < 0 := by rw [hri']; omega
      have hvm : v % 256 = v := by omega
      have hlim : z.length < 5864062014805 := by omega
      by_cases hs : 0 < (i : Int) ∧ f ((i : Int) - 1) = some v
      · obtain ⟨hpos, hp⟩ := hs
        obtain ⟨yy, g, hyg, hbk⟩ := hb.more hpos hi1 hfi hp
        rcases List.eq_nil_or_concat z with rfl | ⟨z', s, hzs⟩
        · simp at hyg
        rw [List.concat_eq_append] at hzs
        subst hzs
        rw [List.map_append, List.map_cons, List.map_nil] at hyg
        obtain ⟨e1, e2⟩ := List.append_inj' hyg rfl
        have e2' : cv s = g := (List.cons.inj e2).1
        subst e2'
        subst e1
        have hl1 : (z' ++ [s]).length = z'.length + 1 := by simp
        have w2 : wrap64 ((i : Int) - 1) = (i : Int) - 1 := wsm (by omega) (by omega)
        have w3 : wrap64 (((z' ++ [s]).length : Int) - 1) = (z'.length : Int) := by rw [wsm (by omega) (by omega)]; omega
        have hrp : rd m ((i : Int) - 1) = rd m (i : Int) := by
          rw [hm.2 _ (by omega) (by omega), hp, hri']; rfl
        obtain ⟨y, hy, hyb⟩ := ih (i + 1) (z' ++ [⟨s.f0, (i : Int) + 1, s.f2⟩]) (by omega) (by simp at hz ⊢; omega) (by rw [c1, List.map_append]; exact hbk)
        refine ⟨y, Ev.step (fun k => by rw [halterref13_List.l0]) ?_, hyb⟩
        have hset : (z' ++ [s]).set ((z'.length : Int)).toNat ⟨s.f0, (i : Int) + 1, s.f2⟩ = z' ++ [⟨s.f0, (i : Int) + 1, s.f2⟩] := by simp
        have hrd : rd_T112 (z' ++ [s]) (z'.length : Int) = s := rrd_here z' s []
        have hi3 : (i : Int) > 0 := hpos
        have hi4 : (0 : Int) ≤ (i : Int) - 1 := by omega
        have hi5 : (i : Int) - 1 < (m.length : Int) := by omega
        have hi6 : (0 : Int) ≤ (z'.length : Int) := by omega
        have hi7 : (z'.length : Int) < ((z' ++ [s]).length : Int) := by omega
        simp only [if_pos hi1, if_pos hi0, if_pos hi2, if_neg hnn, if_pos hi3, w2, if_pos hi4, if_pos hi5, if_pos hrp, w3, if_pos hi6, if_pos hi7, hrd, w1, c1, hset]
        rw [c1] at hy
        exact hy
      · obtain ⟨y, hy, hyb⟩ := ih (i + 1) (z ++ [⟨(i : Int), (i : Int) + 1, v⟩]) (by omega) (by simp; omega) (by
          rw [c1, List.map_append]
          exact hb.snoc hi0 hi1 hv hfi (fun q e => hs ⟨q, e⟩))
        refine ⟨y, Ev.step (fun k => by rw [halterref13_List.l0]) ?_, hyb⟩
        rw [c1] at hy
        have hvn : ¬ v < 0 := by omega
        by_cases hpos : (i : Int) > 0
        · have w2 : wrap64 ((i : Int) - 1) = (i : Int) - 1 := wsm (by omega) (by omega)
          have hi4 : (0 : Int) ≤ (i : Int) - 1 := by omega
          have hi5 : (i : Int) - 1 < (m.length : Int) := by omega
          have hrp : ¬ rd m ((i : Int) - 1) = v := by
            rw [hm.2 _ (by omega) (by omega)]
            cases hq : f ((i : Int) - 1) with
            | none => intro e; have : (-1 : Int) = v := e; omega
            | some u =>
              intro e
              have e' : u = v := e
              exact hs ⟨hpos, by rw [hq, e']⟩
          simp only [if_pos hi1, if_pos hi0, if_pos hi2, hri', if_neg hvn, if_pos hpos, w2, if_pos hi4, if_pos hi5, if_neg hrp, hvm, if_pos hlim, w1, c1]
          exact hy
        · simp only [if_pos hi1, if_pos hi0, if_pos hi2, hri', if_neg hvn, if_neg hpos, hvm, if_pos hlim, w1, c1]
          exact hy
theorem List_ev {m : List Int} {f : Int → Option Int} (hm : Mp m f) (hf : ∀ q v, f q = some v → 0 ≤ v ∧ v ≤ 7) {y : List G} (hv : Vd y) (hy : ∀ q, 0 ≤ q → q < 4096 → pm y q = f q) :
    ∃ z, Ev (fun k => halterref13_List.f k m) z ∧ z.map cv = y := by
  obtain ⟨z, hz, b1, b2, b3, b4⟩ := list_ev hm hf 4096 0 [] (by omega) (by simp) ⟨trivial, trivial, (fun r hr => absurd hr List.not_mem_nil), (fun q => by
    show none = _
    rw [if_neg (by omega)])⟩
  refine ⟨z, hz, uniq b1 b2 hv.1 hv.2 (fun q => ?_)⟩
  rw [b4]
  by_cases h : 0 ≤ q ∧ q < 4096
  · rw [if_pos h, hy q h.1 h.2]
  · rw [if_neg h]
    by_cases h' : q < 0
    · exact (pm_lt hv.1 h').symm
    · exact (pm_ge hv.1 (by omega)).symm

/-! ### Cut, Protect, areRegions -/
theorem are_ev {l : List R} (hl : l.length ≤ big) : ∀ (t p : List R), p ++ t = l → Ev (fun k => halterlaw13_areRegions.l0 k (l.map cv) l (p.length : Int)) true := by
  intro t
  induction t with
  | nil =>
    intro p hp
    refine Ev.step (fun k => by rw [halterlaw13_areRegions.l0]) ?_
    have : ¬ ((p.length : Int) < ((l.map cv).length : Int)) := by rw [cv_len, ← hp]; simp
    simp only [if_neg this]
    exact Ev.now _
  | cons r t ih =>
    intro p hp
    refine Ev.step (fun k => by rw [halterlaw13_areRegions.l0]) ?_
    have h1 : (p.length : Int) < (l.length : Int) := by rw [← hp]; simp; omega
    have h1' : (p.length : Int) < ((l.map cv).length : Int) := by rw [cv_len]; exact h1
    have h0 : (0 : Int) ≤ (p.length : Int) := by omega
    have hr : rd_T112 l (p.length : Int) = r := by rw [← hp]; exact rrd_here p r t
    have hr' : rd_T109 (l.map cv) (p.length : Int) = cv r := by
      rw [← hp, List.map_append, List.map_cons, ← cv_len p]; exact rd_here (p.map cv) (cv r) (t.map cv)
    have hw : wrap64 ((p.length : Int) + 1) = ((p ++ [r]).length : Int) := by
      rw [wsm (by omega) (by unfold big at hl; omega)]; simp
    simp only [if_pos h1', if_pos h0, if_pos h1, hr, hr', hw]
    have := ih (p ++ [r]) (by rw [← hp]; simp)
    simpa [cv] using this
theorem Are_ev {l : List R} (hl : l.length ≤ big) {x : List G} (hx : l.map cv = x) : Ev (fun k => halterlaw13_areRegions.f k x l) true := by
  subst hx
  unfold halterlaw13_areRegions.f
  simp only [if_pos (show ((l.map cv).length : Int) = (l.length : Int) by rw [cv_len])]
  exact are_ev hl l [] rfl
end Go.Proofs.YtikmanafbkiikaaDoor.XRegion
