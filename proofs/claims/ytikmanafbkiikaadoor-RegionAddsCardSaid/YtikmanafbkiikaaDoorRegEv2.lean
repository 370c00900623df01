/- What the program's functions on regions come to, in plain words: the others. -/
import Derived.Test.YtikmanafbkiikaaDoorRegEv
namespace Go.Proofs.YtikmanafbkiikaaDoor.XRegion
set_option linter.unusedSimpArgs false
set_option linter.unusedVariables false
open Go.RowKit Go.Proofs.YtikmanafbkiikaaDoorW.PrintWords Go.Proofs.YtikmanafbkiikaaDoorW.PrintLast

/-! ### covered -/
def covF : List G → Int → Int → Bool
  | [], _, _ => false
  | r :: l, a, b => if (r.f0 < b ∧ a < r.f1) ∧ r.f0 ≤ a then (if b ≤ r.f1 then true else covF l r.f1 b) else (if b ≤ a then true else covF l a b)
theorem covF_far : ∀ {l : List G} {lo a b : Int}, Ch lo l → a < lo → a < b → covF l a b = false
  | [], _, _, _, _, _, _ => rfl
  | r :: l, lo, a, b, ⟨h1, h2, h3⟩, ha, hab => by
    have hr := h2.2.1
    rw [covF, if_neg (by omega), if_neg (by omega)]
    exact covF_far h3 (by omega) hab
theorem covF_iff : ∀ {l : List G} {lo a b : Int}, Ch lo l → a < b → (covF l a b = true ↔ ∀ p, a ≤ p → p < b → pm l p ≠ none)
  | [], _, a, b, _, hab => by
    simp only [covF, Bool.false_eq_true, pm, ne_eq, not_true_eq_false, false_iff]
    exact fun h => h a (Int.le_refl _) hab
  | r :: l, lo, a, b, ⟨h1, h2, h3⟩, hab => by
    have hr := h2.2.1
    rw [covF]
    by_cases c : (r.f0 < b ∧ a < r.f1) ∧ r.f0 ≤ a
    · rw [if_pos c]
      by_cases d : b ≤ r.f1
      · rw [if_pos d]
        refine ⟨fun _ p p1 p2 => ?_, fun _ => rfl⟩
        rw [pm, if_pos (by omega)]; simp
      · rw [if_neg d, covF_iff h3 (by omega)]
        constructor
        · intro h p p1 p2
          rw [pm]
          split
          · simp
          · exact h p (by omega) p2
        · intro h p p1 p2
          have := h p (by omega) p2
          rwa [pm, if_neg (by omega)] at this
    · rw [if_neg c, if_neg (by omega)]
      by_cases d : r.f1 ≤ a
      · rw [covF_iff h3 hab]
        constructor
        · intro h p p1 p2
          rw [pm, if_neg (by omega)]
          exact h p p1 p2
        · intro h p p1 p2
          have := h p p1 p2
          rwa [pm, if_neg (by omega)] at this
      · rw [covF_far h3 (by omega) hab]
        refine ⟨fun h => (by cases h), fun h => ?_⟩
        exact absurd (show pm (r :: l) a = none by rw [pm, if_neg (by omega)]; exact pm_lt h3 (by omega)) (h a (Int.le_refl _) hab)
theorem covered_ev (l : List G) (b : Int) : ∀ (t p : List G) (a : Int), p ++ t = l → l.length ≤ 4096 → Ev (fun k => region_covered.l0 k a b l (l.length : Int) (p.length : Int)) (covF t a b) := by
  intro t
  induction t with
  | nil =>
    intro p a hp hl
    refine Ev.step (fun k => by rw [region_covered.l0]) ?_
    have : ¬ ((p.length : Int) < (l.length : Int)) := by rw [← hp]; simp
    simp only [if_neg this, covF]
    exact Ev.now _
  | cons r t ih =>
    intro p a hp hl
    refine Ev.step (fun k => by rw [region_covered.l0]) ?_
    have h1 : (p.length : Int) < (l.length : Int) := by rw [← hp]; simp; omega
    have h0 : (0 : Int) ≤ (p.length : Int) := by omega
    have hr : rd_T109 l (p.length : Int) = r := by rw [← hp]; exact rd_here p r t
    have hw : wrap64 ((p.length : Int) + 1) = ((p ++ [r]).length : Int) := by
      rw [wsm (by omega) (by omega)]; simp
    have hih := fun a => ih (p ++ [r]) a (by rw [← hp]; simp) hl
    simp only [if_pos h1, if_pos h0, hr, meets_eq, Option.bind_some, decide_eq_true_eq]
    rw [covF]
    by_cases c1 : r.f0 < b ∧ a < r.f1
    · by_cases c2 : r.f0 ≤ a
      · simp only [if_pos c1, decide_eq_true c2, if_pos (show (r.f0 < b ∧ a < r.f1) ∧ r.f0 ≤ a from ⟨c1, c2⟩)]
        refine Ev.step (fun k => by rw [region_covered.j1]) ?_
        by_cases c3 : b ≤ r.f1
        · simp only [if_true, ge_iff_le, if_pos c3]; exact Ev.now _
        · simp only [if_true, ge_iff_le, if_neg c3, hw]; exact hih _
      · simp only [if_pos c1, decide_eq_false c2, if_neg (show ¬ ((r.f0 < b ∧ a < r.f1) ∧ r.f0 ≤ a) from fun e => c2 e.2)]
        refine Ev.step (fun k => by rw [region_covered.j1]) ?_
        by_cases c3 : b ≤ a
        · simp only [Bool.false_eq_true, if_false, ge_iff_le, if_pos c3]; exact Ev.now _
        · simp only [Bool.false_eq_true, if_false, ge_iff_le, if_neg c3, hw]; exact hih _
    · simp only [if_neg c1, if_neg (show ¬ ((r.f0 < b ∧ a < r.f1) ∧ r.f0 ≤ a) from fun e => c1 e.1)]
      refine Ev.step (fun k => by rw [region_covered.j1]) ?_
      by_cases c3 : b ≤ a
      · simp only [Bool.false_eq_true, if_false, ge_iff_le, if_pos c3]; exact Ev.now _
      · simp only [Bool.false_eq_true, if_false, ge_iff_le, if_neg c3, hw]; exact hih _

/-! ### joined -/
theorem joinloop_ev (l : List G) : ∀ (t p init : List G) (cur : G), p ++ t = l → l.length ≤ 100000 → (init.length : Int) < p.length → Ev (fun k => region_joined.l0 k (init ++ [cur]) l (l.length : Int) (p.length : Int)) (init ++ jn cur t) := by
  intro t
  induction t with
  | nil =>
    intro p init cur hp hl hi
    refine Ev.step (fun k => by rw [region_joined.l0]) ?_
    have : ¬ ((p.length : Int) < (l.length : Int)) := by rw [← hp]; simp
    simp only [if_neg this, jn]
    exact Ev.now _
  | cons r t ih =>
    intro p init cur hp hl hi
    refine Ev.step (fun k => by rw [region_joined.l0]) ?_
    have h1 : (p.length : Int) < (l.length : Int) := by rw [← hp]; simp; omega
    have h0 : (0 : Int) ≤ (p.length : Int) := by omega
    have hr : rd_T109 l (p.length : Int) = r := by rw [← hp]; exact rd_here p r t
    have hw : wrap64 ((p.length : Int) + 1) = ((p ++ [r]).length : Int) := by
      rw [wsm (by omega) (by omega)]; simp
    have hil : (init ++ [cur]).length = init.length + 1 := by simp
    have hpos : ((init ++ [cur]).length : Int) > 0 := by omega
    have hwq : wrap64 (((init ++ [cur]).length : Int) - 1) = (init.length : Int) := by
      rw [hil, wsm (by omega) (by omega)]; omega
    have hq : rd_T109 (init ++ [cur]) (init.length : Int) = cur := rd_here init cur []
    have hq0 : (0 : Int) ≤ (init.length : Int) := by omega
    have hq1 : (init.length : Int) < ((init ++ [cur]).length : Int) := by omega
    have hset : (init ++ [cur]).set ((init.length : Int) : Int).toNat (⟨cur.f0, r.f1, cur.f2⟩ : G) = init ++ [⟨cur.f0, r.f1, cur.f2⟩] := by
      simp
    have hlim : (init ++ [cur]).length < 5864062014805 := by omega
    simp only [if_pos h1, if_pos h0, hr, if_pos hpos, hwq, hq, if_pos hq0, if_pos hq1, hset, if_pos hlim, hw]
    rw [jn]
    have ha := ih (p ++ [r]) init ⟨cur.f0, r.f1, cur.f2⟩ (by rw [← hp]; simp) hl (by simp; omega)
    have hb := ih (p ++ [r]) (init ++ [cur]) r (by rw [← hp]; simp) hl (by simp; omega)
    by_cases c1 : cur.f1 = r.f0
    · by_cases c2 : cur.f2 = r.f2
      · simp only [if_pos c1, if_pos c2, if_pos (show cur.f1 = r.f0 ∧ cur.f2 = r.f2 from ⟨c1, c2⟩)]; exact ha
      · simp only [if_pos c1, if_neg c2, if_neg (show ¬ (cur.f1 = r.f0 ∧ cur.f2 = r.f2) from fun e => c2 e.2)]
        rw [show init ++ cur :: jn r t = init ++ [cur] ++ jn r t by simp]; exact hb
    · simp only [if_neg c1, if_neg (show ¬ (cur.f1 = r.f0 ∧ cur.f2 = r.f2) from fun e => c1 e.1)]
      rw [show init ++ cur :: jn r t = init ++ [cur] ++ jn r t by simp]; exact hb
def jnL : List G → List G
  | [] => []
  | c :: t => jn c t
theorem joing_ev {l : List G} (hl : l.length ≤ 100000) : Ev (fun k => region_joined.g k l) (jnL l) := by
  unfold region_joined.g
  cases l with
  | nil =>
    refine Ev.step (fun k => by rw [region_joined.l0]) ?_
    simp only [List.length_nil, Int.ofNat_zero, Int.natCast_zero, Int.lt_irrefl, if_false]
    exact Ev.now _
  | cons r t =>
    refine Ev.step (fun k => by rw [region_joined.l0]) ?_
    have h1 : (0 : Int) < ((r :: t).length : Int) := by rw [List.length_cons]; omega
    have h0 : (0 : Int) ≤ 0 := by omega
    have hr : rd_T109 (r :: t) 0 = r := rfl
    have hw : wrap64 (0 + 1) = (([r] : List G).length : Int) := by rw [wsm (by omega) (by omega)]; rfl
    have hlim : ([] : List G).length < 5864062014805 := by simp
    simp only [if_pos h1, if_pos h0, hr, List.length_nil, Int.ofNat_zero, Int.natCast_zero, gt_iff_lt, Int.lt_irrefl, if_false, hw]
    have := joinloop_ev (r :: t) t [r] [] r rfl hl (by simp)
    exact this
/-- What joined makes of regions and one more that meets none of them. -/
theorem joined_ev {l : List G} {r : G} {lo : Int} (hl : Ch lo l) (h0 : 0 ≤ lo) (hlo : lo ≤ r.f0) (hr : Gok r) (hn : ∀ p, r.f0 ≤ p → p < r.f1 → pm l p = none) :
    ∃ m, Ev (fun k => region_joined.f k (l ++ [r])) m ∧ Ch lo m ∧ Mx m ∧ ∀ p, pm m p = if r.f0 ≤ p ∧ p < r.f1 then some r.f2 else pm l p := by
  have hi := ins_ch hr hl hlo hn
  have hk := keys_nodup hi.1
  have hpm := ins_perm r l
  have hnd : ((l ++ [r]).map (·.f0)).Nodup := (List.Perm.nodup_iff (hpm.map (·.f0))).1 hk.1
  have hs : srt (l ++ [r]) = ins r l := (srt_unique hnd hpm hk.2.1).symm
  have hlen := ch_len hl (by have := hr.2.2.1; have := hr.2.1; omega)
  have hok : srtOk (l ++ [r]) = true := by
    simp only [srtOk, Bool.and_eq_true, List.all_eq_true, decide_eq_true_eq]
    refine ⟨⟨fun x hx => ?_, hnd⟩, by simp, by simp; omega⟩
    have := hk.2.2 x (hpm.mem_iff.2 hx)
    have g := this.2
    have g1 := g.1; have g2 := g.2.1; have g3 := g.2.2.1
    omega
  have hlr : (ins r l).length ≤ 100000 := by rw [hpm.length_eq]; simp; omega
  refine ⟨jnL (ins r l), ?_, ?_⟩
  · unfold region_joined.f
    simp only [if_pos hok, hs]
    exact joing_ev hlr
  · cases hc : ins r l with
    | nil =>
      have := hpm.length_eq
      rw [hc] at this
      simp at this
    | cons c t =>
      rw [hc] at hi
      obtain ⟨j1, j2, j3⟩ := jn_ok hi.1
      exact ⟨j1, j2, fun p => (j3 p).trans (hi.2 p)⟩

/-! ### Add, Protect -/
theorem any_meets {l : List G} {r : G} {lo : Int} (hl : Ch lo l) (hr : Gok r) : (l.any fun x => decide (x.f0 < r.f1) && decide (r.f0 < x.f1)) = false ↔ ∀ p, r.f0 ≤ p → p < r.f1 → pm l p = none := by
  induction l generalizing lo with
  | nil => simp [pm]
  | cons s l ih =>
    obtain ⟨h1, h2, h3⟩ := hl
    have hs := h2.2.1
    have hr1 := hr.2.1
    rw [List.any_cons, Bool.or_eq_false_iff, ih h3]
    constructor
    · rintro ⟨a, b⟩ p p1 p2
      simp only [Bool.and_eq_false_iff, decide_eq_false_iff_not] at a
      rw [pm, if_neg (by omega)]
      exact b p p1 p2
    · intro h
      refine ⟨?_, fun p p1 p2 => ?_⟩
      · simp only [Bool.and_eq_false_iff, decide_eq_false_iff_not]
        rcases Int.lt_or_le s.f0 r.f1 with a | a
        · rcases Int.lt_or_le r.f0 s.f1 with b | b
          · have := h (max r.f0 s.f0) (by omega) (by omega)
            rw [pm, if_pos (by omega)] at this
            cases this
          · exact .inr (by omega)
        · exact .inl (by omega)
      · have := h p p1 p2
        rw [pm] at this
        split at this
        · cases this
        · exact this
theorem Add_bad {l : List G} {a b p : Int} (hn : Pn l) (hl : l.length ≤ big) (hp : 0 ≤ p) (h : ¬ (Vd l ∧ Gok ⟨a, b, p⟩)) : Ev (fun k => region_Add.f k l a b p) ([], some 22) := by
  unfold region_Add.f
  refine Ev.bind (Check_ev hn hl) ?_
  by_cases hv : Vd l
  · simp only [if_pos hv, Option.isNone_none, if_true, may_eq _ _ _ hp, Option.bind_some, decide_eq_false (show ¬ Gok ⟨a, b, p⟩ from fun g => h ⟨hv, g⟩), Bool.not_false]
    refine Ev.step (fun k => by rw [region_Add.j0]) ?_
    simp only [if_true]
    exact Ev.now _
  · simp only [if_neg hv, Option.isNone_some, Bool.false_eq_true, if_false]
    refine Ev.step (fun k => by rw [region_Add.j0]) ?_
    simp only [if_true]
    exact Ev.now _
theorem Add_meets {l : List G} {r : G} (hv : Vd l) (hr : Gok r) (h : ¬ ∀ p, r.f0 ≤ p → p < r.f1 → pm l p = none) : Ev (fun k => region_Add.f k l r.f0 r.f1 r.f2) ([], some 17) := by
  unfold region_Add.f
  refine Ev.bind (Check_vd hv) ?_
  simp only [Option.isNone_none, if_true, may_eq _ _ _ hr.2.2.2.1, Option.bind_some, decide_eq_true (show Gok ⟨r.f0, r.f1, r.f2⟩ from hr), Bool.not_true]
  refine Ev.step (fun k => by rw [region_Add.j0]) ?_
  have ha : (l.any fun x => decide (x.f0 < r.f1) && decide (r.f0 < x.f1)) = true := by
    cases hc : (l.any fun x => decide (x.f0 < r.f1) && decide (r.f0 < x.f1)) with
    | true => rfl
    | false => exact absurd ((any_meets hv.1 hr).1 hc) h
  simp only [Bool.false_eq_true, if_false, api_Region_92.f, Option.bind_some, ha, if_true]
  exact Ev.now _
theorem Add_ok {l : List G} {r : G} (hv : Vd l) (hr : Gok r) (h : ∀ p, r.f0 ≤ p → p < r.f1 → pm l p = none) :
    ∃ m, Ev (fun k => region_Add.f k l r.f0 r.f1 r.f2) (m, none) ∧ Vd m ∧ ∀ p, pm m p = if r.f0 ≤ p ∧ p < r.f1 then some r.f2 else pm l p := by
  obtain ⟨m, hm, h1, h2, h3⟩ := joined_ev hv.1 (Int.le_refl _) hr.1 hr h
  refine ⟨m, ?_, ⟨h1, h2⟩, h3⟩
  unfold region_Add.f
  refine Ev.bind (Check_vd hv) ?_
  simp only [Option.isNone_none, if_true, may_eq _ _ _ hr.2.2.2.1, Option.bind_some, decide_eq_true (show Gok ⟨r.f0, r.f1, r.f2⟩ from hr), Bool.not_true]
  refine Ev.step (fun k => by rw [region_Add.j0]) ?_
  have hl := hv.len
  have hlim : l.length < 5864062014805 := by omega
  have hlim2 : l.length + ([r] : List G).length < 5864062014805 := by simp; omega
  simp only [Bool.false_eq_true, if_false, api_Region_92.f, Option.bind_some, (any_meets hv.1 hr).2 h, api_Region_95.f, if_pos hlim, if_pos hlim2]
  exact Ev.bind hm (Ev.now _)
theorem Cut_ok {l : List G} (hv : Vd l) {a b : Int} (h : 0 ≤ a ∧ a < b ∧ b ≤ 4096) : Ev (fun k => region_Cut.f k l a b) (cutL l a b, none) := by
  have := Cut_ev hv.pn (by have := hv.len; unfold big; omega) a b
  rwa [if_pos ⟨hv, h⟩] at this
theorem Protect_ok {l : List G} {a b p : Int} (hv : Vd l) (hr : 0 ≤ a ∧ a < b ∧ b ≤ 4096) (h0 : 0 ≤ p) (h7 : p ≤ 7) (h : ∀ q, a ≤ q → q < b → pm l q ≠ none) :
    ∃ m, Ev (fun k => region_Protect.f k l a b p) (m, none) ∧ Vd m ∧ ∀ q, pm m q = if a ≤ q ∧ q < b then some p else pm l q := by
  have hcv := cut_vd hr.2.1 hv
  have hg : Gok ⟨a, b, p⟩ := ⟨hr.1, hr.2.1, hr.2.2, h0, h7⟩
  obtain ⟨m, hm, h1, h2, h3⟩ := joined_ev (r := ⟨a, b, p⟩) hcv.1 (Int.le_refl _) hr.1 hg (fun q q1 q2 => by rw [cut_pm hv.1, if_pos ⟨q1, q2⟩])
  refine ⟨m, ?_, ⟨h1, h2⟩, fun q => ?_⟩
  · unfold region_Protect.f
    refine Ev.bind (Check_vd hv) ?_
    simp only [Option.isNone_none, if_true, ranged_eq, Option.bind_some, decide_eq_true_eq, if_pos hr, decide_eq_false (show ¬ p > 7 by omega)]
    refine Ev.step (fun k => by rw [region_Protect.j0]) ?_
    simp only [Bool.false_eq_true, if_false]
    have hc := covered_ev l b l [] a rfl hv.len
    rw [(covF_iff hv.1 hr.2.1).2 h] at hc
    refine Ev.bind (a := true) hc ?_
    simp only [if_true]
    refine Ev.bind (Cut_ok hv hr) ?_
    have hl := hcv.len
    have hlim : (cutL l a b).length < 5864062014805 := by omega
    simp only [Option.isNone_none, if_true, if_pos hlim]
    exact Ev.bind hm (Ev.now _)
  · rw [h3 q, cut_pm hv.1]
    show (if a ≤ q ∧ q < b then some p else if a ≤ q ∧ q < b then none else pm l q) = _
    split <;> rfl

/-! ### Size -/
def szL : List G → Int
  | [] => 0
  | r :: l => (r.f1 - r.f0) + szL l
theorem szL_le : ∀ {l : List G} {lo : Int}, Ch lo l → lo ≤ 4096 → 0 ≤ szL l ∧ szL l ≤ 4096 - lo
  | [], _, _, h => by simp [szL]; omega
  | r :: l, lo, ⟨h1, h2, h3⟩, h => by
    have hr := h2.2.1
    have := szL_le h3 h2.2.2.1
    rw [szL]; omega
theorem sizeloop_ev (l : List G) : ∀ (t p : List G) (acc lo : Int), p ++ t = l → l.length ≤ 4096 → Ch lo t → 0 ≤ acc → acc ≤ lo → lo ≤ 4096 → Ev (fun k => region_Size.l0 k acc l (l.length : Int) (p.length : Int)) (acc + szL t) := by
  intro t
  induction t with
  | nil =>
    intro p acc lo hp hl hc ha ha2 hlo2
    refine Ev.step (fun k => by rw [region_Size.l0]) ?_
    have : ¬ ((p.length : Int) < (l.length : Int)) := by rw [← hp]; simp
    simp only [if_neg this, szL, Int.add_zero]
    exact Ev.now _
  | cons r t ih =>
    intro p acc lo hp hl hc ha ha2 hlo2
    refine Ev.step (fun k => by rw [region_Size.l0]) ?_
    have h1 : (p.length : Int) < (l.length : Int) := by rw [← hp]; simp; omega
    have h0 : (0 : Int) ≤ (p.length : Int) := by omega
    have hr : rd_T109 l (p.length : Int) = r := by rw [← hp]; exact rd_here p r t
    have hw : wrap64 ((p.length : Int) + 1) = ((p ++ [r]).length : Int) := by
      rw [wsm (by omega) (by omega)]; simp
    obtain ⟨c1, c2, c3⟩ := hc
    have hg1 := c2.2.1
    have hg2 := c2.2.2.1
    have hw2 : wrap64 (acc + wrap64 (r.f1 - r.f0)) = acc + (r.f1 - r.f0) := by
      rw [wsm (i := r.f1 - r.f0) (by omega) (by omega), wsm (by omega) (by omega)]
    simp only [if_pos h1, if_pos h0, hr, hw, hw2, szL]
    have := ih (p ++ [r]) (acc + (r.f1 - r.f0)) r.f1 (by rw [← hp]; simp) hl c3 (by omega) (by omega) hg2
    rw [Int.add_assoc] at this
    exact this
theorem Size_ev {l : List G} (hv : Vd l) : Ev (fun k => region_Size.f k l) (szL l) := by
  have h := sizeloop_ev l l [] 0 0 rfl hv.len hv.1 (Int.le_refl _) (Int.le_refl _) (by omega)
  rw [Int.zero_add] at h
  unfold region_Size.f
  refine Ev.bind (Check_vd hv) ?_
  simp only [Option.isNone_none, if_true]
  exact h
/-! ### Hole -/
def holF (n : Int) : List G → Int → Int
  | [], a => a
  | r :: l, a => if r.f1 ≤ a then holF n l a else if r.f0 - a ≥ n then a else holF n l r.f1
theorem holF_bd {n : Int} : ∀ {l : List G} {lo a : Int}, Ch lo l → 0 ≤ a → a ≤ 4096 → a ≤ holF n l a ∧ holF n l a ≤ 4096
  | [], _, a, _, h0, h1 => ⟨Int.le_refl _, h1⟩
  | r :: l, lo, a, ⟨c1, c2, c3⟩, h0, h1 => by
    have g0 := c2.1; have g1 := c2.2.1; have g2 := c2.2.2.1
    rw [holF]
    split
    · exact holF_bd c3 h0 h1
    · split
      · exact ⟨Int.le_refl _, h1⟩
      · have := holF_bd (n := n) (a := r.f1) c3 (by omega) g2
        omega
/-- What is found is free, and nothing ahead of it would do. -/
theorem holF_free {n : Int} (hn : 1 ≤ n) : ∀ {l : List G} {lo a : Int}, Ch lo l → 
    (∀ p, holF n l a ≤ p → p < holF n l a + n → pm l p = none) ∧ ∀ q, a ≤ q → q < holF n l a → ∃ p, q ≤ p ∧ p < q + n ∧ pm l p ≠ none
  | [], _, a, _ => ⟨fun _ _ _ => rfl, fun q h1 h2 => by rw [holF] at h2; omega⟩
  | r :: l, lo, a, ⟨c1, c2, c3⟩ => by
    have g0 := c2.1; have g1 := c2.2.1; have g2 := c2.2.2.1
    rw [holF]
    split
    · rename_i h
      obtain ⟨i1, i2⟩ := holF_free (a := a) hn c3
      have hge : a ≤ holF n l a := by
        have key : ∀ (m : List G) (x lo : Int), Ch lo m → x ≤ holF n m x := by
          intro m
          induction m with
          | nil => intro x _ _; exact Int.le_refl _
          | cons s m ihm =>
            intro x lo ⟨d1, d2, d3⟩
            rw [holF]
            split
            · exact ihm x _ d3
            · split
              · exact Int.le_refl _
              · have := ihm s.f1 _ d3; omega
        exact key l a _ c3
      refine ⟨fun p p1 p2 => ?_, fun q q1 q2 => ?_⟩
      · rw [pm, if_neg (by omega)]; exact i1 p p1 p2
      · obtain ⟨p, p1, p2, p3⟩ := i2 q q1 q2
        exact ⟨p, p1, p2, by rw [pm, if_neg (by omega)]; exact p3⟩
    · rename_i h
      split
      · rename_i h2
        refine ⟨fun p p1 p2 => ?_, fun q q1 q2 => by omega⟩
        rw [pm, if_neg (by omega)]; exact pm_lt c3 (by omega)
      · rename_i h2
        obtain ⟨i1, i2⟩ := holF_free (a := r.f1) hn c3
        have hge : r.f1 ≤ holF n l r.f1 := by
          have key : ∀ (m : List G) (x lo : Int), Ch lo m → x ≤ holF n m x := by
            intro m
            induction m with
            | nil => intro x _ _; exact Int.le_refl _
            | cons s m ihm =>
              intro x lo ⟨d1, d2, d3⟩
              rw [holF]
              split
              · exact ihm x _ d3
              · split
                · exact Int.le_refl _
                · have := ihm s.f1 _ d3; omega
          exact key l r.f1 _ c3
        refine ⟨fun p p1 p2 => ?_, fun q q1 q2 => ?_⟩
        · rw [pm, if_neg (by omega)]; exact i1 p p1 p2
        · rcases Int.lt_or_le q r.f1 with hq | hq
          · refine ⟨max q r.f0, by omega, by omega, ?_⟩
            rw [pm, if_pos (by omega)]; simp
          · obtain ⟨p, p1, p2, p3⟩ := i2 q hq q2
            exact ⟨p, p1, p2, by rw [pm, if_neg (by omega)]; exact p3⟩
def holR (n a b : Int) (h : Int) : Int × Option Int := if b - h < n then (0, some 12) else (h, none)
theorem holeloop_ev (l : List G) (n b : Int) (hb0 : 0 ≤ b) (hb : b ≤ 4096) (hn : n ≤ 4096) : ∀ (t p : List G) (a lo : Int), p ++ t = l → l.length ≤ 4096 → Ch lo t → 0 ≤ a → a ≤ 4096 → Ev (fun k => region_Hole.l0 k n a b l (l.length : Int) (p.length : Int)) (holR n a b (holF n t a)) := by
  intro t
  induction t with
  | nil =>
    intro p a lo hp hl hc h0 h1
    refine Ev.step (fun k => by rw [region_Hole.l0]) ?_
    have : ¬ ((p.length : Int) < (l.length : Int)) := by rw [← hp]; simp
    have hw : wrap64 (b - a) = b - a := wsm (by omega) (by omega)
    simp only [if_neg this, hw]
    rw [show holF n [] a = a from rfl]
    by_cases c : b - a < n
    · simp only [if_pos c]; rw [holR, if_pos c]; exact Ev.now _
    · simp only [if_neg c]; rw [holR, if_neg c]; exact Ev.now _
  | cons r t ih =>
    intro p a lo hp hl hc h0 h1
    refine Ev.step (fun k => by rw [region_Hole.l0]) ?_
    have h1' : (p.length : Int) < (l.length : Int) := by rw [← hp]; simp; omega
    have h0' : (0 : Int) ≤ (p.length : Int) := by omega
    have hr : rd_T109 l (p.length : Int) = r := by rw [← hp]; exact rd_here p r t
    have hw : wrap64 ((p.length : Int) + 1) = ((p ++ [r]).length : Int) := by
      rw [wsm (by omega) (by omega)]; simp
    obtain ⟨c1, c2, c3⟩ := hc
    have g0 := c2.1; have g1 := c2.2.1; have g2 := c2.2.2.1
    have hw2 : wrap64 (r.f0 - a) = r.f0 - a := wsm (by omega) (by omega)
    have hw3 : wrap64 (b - a) = b - a := wsm (by omega) (by omega)
    simp only [if_pos h1', if_pos h0', hr, hw, hw2, hw3, holF]
    by_cases d1 : r.f1 ≤ a
    · simp only [if_pos d1]
      exact ih (p ++ [r]) a _ (by rw [← hp]; simp) hl c3 h0 h1
    · by_cases d2 : r.f0 - a ≥ n
      · simp only [if_neg d1, if_pos d2, holR]
        by_cases c : b - a < n
        · simp only [if_pos c]; first | exact Ev.now _ | (rw [if_pos c]; exact Ev.now _)
        · simp only [if_neg c]; first | exact Ev.now _ | (rw [if_neg c]; exact Ev.now _)
      · simp only [if_neg d1, if_neg d2]
        exact ih (p ++ [r]) r.f1 _ (by rw [← hp]; simp) hl c3 (by omega) g2
theorem Hole_ev {l : List G} {n a b : Int} (hv : Vd l) (hr : 0 ≤ a ∧ a < b ∧ b ≤ 4096) (hn : 1 ≤ n ∧ n ≤ 4096) : Ev (fun k => region_Hole.f k l n a b) (holR n a b (holF n l a)) := by
  unfold region_Hole.f
  refine Ev.bind (Check_vd hv) ?_
  simp only [Option.isNone_none, if_true, ranged_eq, Option.bind_some, decide_eq_true_eq, if_pos hr, if_neg (show ¬ n < 1 by omega), decide_eq_false (show ¬ n > 4096 by omega)]
  refine Ev.step (fun k => by rw [region_Hole.j0]) ?_
  simp only [Bool.false_eq_true, if_false]
  exact holeloop_ev l n b (by omega) hr.2.2 hn.2 l [] a 0 rfl hv.len hv.1 hr.1 (by omega)
theorem Hole_bad {l : List G} {n a b : Int} (hp : Pn l) (hl : l.length ≤ big) (h : ¬ (Vd l ∧ (0 ≤ a ∧ a < b ∧ b ≤ 4096) ∧ 1 ≤ n ∧ n ≤ 4096)) : Ev (fun k => region_Hole.f k l n a b) (0, some 22) := by
  unfold region_Hole.f
  refine Ev.bind (Check_ev hp hl) ?_
  have hj : Ev (fun k => region_Hole.j0 k l n a b true) (0, some 22) := by
    refine Ev.step (fun k => by rw [region_Hole.j0]) ?_
    simp only [if_true]
    exact Ev.now _
  by_cases hv : Vd l
  · simp only [if_pos hv, Option.isNone_none, if_true, ranged_eq, Option.bind_some, decide_eq_true_eq]
    by_cases hr : 0 ≤ a ∧ a < b ∧ b ≤ 4096
    · simp only [if_pos hr]
      by_cases h1 : n < 1
      · simp only [if_pos h1]; exact hj
      · have : decide (n > 4096) = true := decide_eq_true (by
          rcases Int.lt_or_le 4096 n with q | q
          · exact q
          · exact absurd ⟨hv, hr, by omega, q⟩ h)
        simp only [if_neg h1, this]
        exact hj
    · simp only [if_neg hr]; exact hj
  · simp only [if_neg hv, Option.isNone_some, Bool.false_eq_true, if_false]
    exact hj

/-! ### sure, and what is given -/
theorem vd_nil : Vd [] := ⟨trivial, trivial⟩
theorem sure_ev : Ev (fun k => halterlaw13_sure.f k) true := by
  have g1 : Gok ⟨2, 6, 3⟩ := by decide
  obtain ⟨m, hm, hv, hp⟩ := Add_ok (l := []) (r := ⟨2, 6, 3⟩) vd_nil g1 (fun _ _ _ => rfl)
  have v1 : Vd [⟨2, 6, 3⟩] := ⟨⟨by decide, g1, trivial⟩, trivial⟩
  have e1 : m = [⟨2, 6, 3⟩] := uniq hv.1 hv.2 v1.1 v1.2 (fun p => by rw [hp p]; rfl)
  subst e1
  have hc : Ev (fun k => region_Cut.f k [⟨2, 6, 3⟩] 3 4) ([⟨2, 3, 3⟩, ⟨4, 6, 3⟩], none) := Cut_ok v1 (by decide)
  obtain ⟨n, hn, hnv, hnp⟩ := Protect_ok (a := 2) (b := 3) (p := 1) v1 (by decide) (by decide) (by decide) (fun q q1 q2 => by
    obtain rfl : q = 2 := by omega
    decide)
  have v2 : Vd [⟨2, 3, 1⟩, ⟨3, 6, 3⟩] := by decide
  have e2 : n = [⟨2, 3, 1⟩, ⟨3, 6, 3⟩] := uniq hnv.1 hnv.2 v2.1 v2.2 (fun p => by
    rw [hnp p]
    simp only [pm]
    repeat' split
    all_goals first | rfl | omega)
  subst e2
  have v3 : Vd [⟨2, 3, 3⟩, ⟨4, 6, 3⟩] := by decide
  have hh : Ev (fun k => region_Hole.f k [⟨2, 3, 3⟩, ⟨4, 6, 3⟩] 1 2 9) (3, none) := Hole_ev v3 (by decide) (by decide)
  have hs : Ev (fun k => region_Size.f k [⟨2, 3, 3⟩, ⟨4, 6, 3⟩]) 3 := Size_ev v3
  unfold halterlaw13_sure.f
  refine Ev.bind hm (Ev.bind hc (Ev.bind hn (Ev.bind hh ?_)))
  simp only [Option.isNone_none, if_true]
  refine Ev.congr (f := fun k => (region_Size.f k [⟨2, 3, 3⟩, ⟨4, 6, 3⟩]).bind fun t => some (t == 3)) (fun k => rfl) ?_
  exact Ev.bind hs (Ev.now _)
def cv (r : S112) : G := ⟨r.f0, r.f1, r.f2⟩
theorem give_ev (l : List S112) (hl : l.length ≤ 5864062014800) : Ev (fun k => halterlaw13_giveRegions.f k l) (l.map cv) := by
  have key : ∀ (t p : List S112), p ++ t = l → Ev (fun k => halterlaw13_giveRegions.l0 k l (p.map cv) (p.length : Int)) (l.map cv) := by
    intro t
    induction t with
    | nil =>
      intro p hp
      refine Ev.step (fun k => by rw [halterlaw13_giveRegions.l0]) ?_
      have : ¬ ((p.length : Int) < (l.length : Int)) := by rw [← hp]; simp
      simp only [if_neg this]
      rw [← hp, List.append_nil]
      exact Ev.now _
    | cons r t ih =>
      intro p hp
      refine Ev.step (fun k => by rw [halterlaw13_giveRegions.l0]) ?_
      have h1 : (p.length : Int) < (l.length : Int) := by rw [← hp]; simp; omega
      have h0 : (0 : Int) ≤ (p.length : Int) := by omega
      have hr : rd_T112 l (p.length : Int) = r := by rw [← hp]; unfold rd_T112; simp
      have hw : wrap64 ((p.length : Int) + 1) = ((p ++ [r]).length : Int) := by
        rw [wsm (by omega) (by omega)]; simp
      have hlim : (p.map cv).length < 5864062014805 := by rw [List.length_map]; omega
      simp only [if_pos h1, if_pos h0, hr, hw, if_pos hlim]
      have := ih (p ++ [r]) (by rw [← hp]; simp)
      rw [List.map_append] at this
      exact this
  exact key l [] rfl
end Go.Proofs.YtikmanafbkiikaaDoor.XRegion
