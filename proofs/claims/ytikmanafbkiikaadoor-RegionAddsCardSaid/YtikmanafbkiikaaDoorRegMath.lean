/- Regions as lists: plain facts, page by page. -/
import Derived.Test.YtikmanafbkiikaaDoorXRegionx0
namespace Go.Proofs.YtikmanafbkiikaaDoor.XRegion
set_option linter.unusedSimpArgs false
set_option linter.unusedVariables false
open Go.RowKit Go.Proofs.YtikmanafbkiikaaDoorW.PrintWords Go.Proofs.YtikmanafbkiikaaDoorW.PrintLast

abbrev G := S109
/-- May a region be? -/
def Gok (r : G) : Prop := 0 ≤ r.f0 ∧ r.f0 < r.f1 ∧ r.f1 ≤ 4096 ∧ 0 ≤ r.f2 ∧ r.f2 ≤ 7
instance (r : G) : Decidable (Gok r) := inferInstanceAs (Decidable (0 ≤ r.f0 ∧ r.f0 < r.f1 ∧ r.f1 ≤ 4096 ∧ 0 ≤ r.f2 ∧ r.f2 ≤ 7))
/-- Ascending from lo on, apart. -/
def Ch : Int → List G → Prop
  | _, [] => True
  | lo, r :: l => lo ≤ r.f0 ∧ Gok r ∧ Ch r.f1 l
/-- No two that touch are used alike. -/
def Mx : List G → Prop
  | a :: b :: l => ¬ (a.f1 = b.f0 ∧ a.f2 = b.f2) ∧ Mx (b :: l)
  | _ => True
/-- How a page is used. -/
def pm : List G → Int → Option Int
  | [], _ => none
  | r :: l, p => if r.f0 ≤ p ∧ p < r.f1 then some r.f2 else pm l p
def Vd (l : List G) : Prop := Ch 0 l ∧ Mx l

theorem Ch.mono {lo lo' : Int} (h : lo' ≤ lo) : ∀ {l : List G}, Ch lo l → Ch lo' l
  | [], _ => trivial
  | _ :: _, ⟨a, b, c⟩ => ⟨by omega, b, c⟩
theorem pm_lt : ∀ {l : List G} {lo p : Int}, Ch lo l → p < lo → pm l p = none
  | [], _, _, _, _ => rfl
  | r :: l, lo, p, ⟨a, b, c⟩, h => by
    have hb := b.2.1
    rw [pm, if_neg (by omega)]
    exact pm_lt c (by omega)
theorem pm_ge : ∀ {l : List G} {lo p : Int}, Ch lo l → 4096 ≤ p → pm l p = none
  | [], _, _, _, _ => rfl
  | r :: l, lo, p, ⟨a, b, c⟩, h => by
    have hb := b.2.2.1
    rw [pm, if_neg (by omega)]
    exact pm_ge c h
theorem pm_range {l : List G} {lo p : Int} (h : Ch lo l) {v : Int} (hp : pm l p = some v) : lo ≤ p ∧ p < 4096 := by
  constructor
  · rcases Int.lt_or_le p lo with h1 | h1
    · rw [pm_lt h h1] at hp; cases hp
    · exact h1
  · rcases Int.lt_or_le p 4096 with h1 | h1
    · exact h1
    · rw [pm_ge h h1] at hp; cases hp
theorem pm_perm : ∀ {l : List G} {lo p v : Int}, Ch lo l → pm l p = some v → 0 ≤ v ∧ v ≤ 7
  | [], _, _, _, _, h => by cases h
  | r :: l, lo, p, v, ⟨a, b, c⟩, h => by
    rw [pm] at h
    split at h
    · obtain rfl := Option.some.inj h; exact ⟨b.2.2.2.1, b.2.2.2.2⟩
    · exact pm_perm c h
theorem Mx.tail : ∀ {a : G} {l : List G}, Mx (a :: l) → Mx l
  | _, [], _ => trivial
  | _, _ :: _, h => h.2

/-- Two lists that may be, and use each page alike, are the same. -/
theorem uniq : ∀ {l l' : List G} {lo lo' : Int}, Ch lo l → Mx l → Ch lo' l' → Mx l' → (∀ p, pm l p = pm l' p) → l = l'
  | [], [], _, _, _, _, _, _, _ => rfl
  | [], r :: l', lo, lo', _, _, ⟨a, b, c⟩, _, h => by
    have := h r.f0
    have hb := b.2.1
    rw [pm, pm, if_pos (by omega)] at this
    cases this
  | r :: l, [], lo, lo', ⟨a, b, c⟩, _, _, _, h => by
    have := h r.f0
    have hb := b.2.1
    rw [pm, pm, if_pos (by omega)] at this
    cases this
  | r :: l, s :: m, lo, lo', ⟨a, b, c⟩, hM, ⟨a', b', c'⟩, hM', h => by
    have hb := b.2.1
    have hb' := b'.2.1
    have h0 : r.f0 = s.f0 := by
      rcases Int.lt_trichotomy r.f0 s.f0 with h1 | h1 | h1
      · have := h r.f0
        rw [pm, pm, if_pos (by omega), if_neg (by omega), pm_lt c' (by omega)] at this
        cases this
      · exact h1
      · have := h s.f0
        rw [pm, pm, if_neg (by omega), if_pos (by omega), pm_lt c (by omega)] at this
        cases this
    have h2 : r.f2 = s.f2 := by
      have := h r.f0
      rw [pm, pm, if_pos (by omega), if_pos (by omega)] at this
      exact Option.some.inj this
    have key : ∀ {x y : G} {k : List G}, Ch x.f1 k → Mx (x :: k) → x.f0 = y.f0 → x.f2 = y.f2 → x.f0 < x.f1 → x.f1 < y.f1 → pm (x :: k) x.f1 ≠ some y.f2 := by
      intro x y k hk hMk e0 e2 hx hlt hp
      rw [pm, if_neg (by omega)] at hp
      cases k with
      | nil => cases hp
      | cons z k =>
        have hz := hk.1
        have hz2 := hk.2.1.2.1
        rw [pm] at hp
        split at hp
        · have hzz := Option.some.inj hp
          exact hMk.1 ⟨by omega, by omega⟩
        · rw [pm_lt hk.2.2 (by omega)] at hp; cases hp
    have h1 : r.f1 = s.f1 := by
      rcases Int.lt_trichotomy r.f1 s.f1 with h1 | h1 | h1
      · refine absurd ?_ (key (y := s) c hM h0 h2 hb h1)
        rw [h r.f1, pm, if_pos (by omega)]
      · exact h1
      · refine absurd ?_ (key (y := r) c' hM' h0.symm h2.symm hb' h1)
        rw [← h s.f1, pm, if_pos (by omega)]
    have hrs : r = s := by
      cases r; cases s; simp only at h0 h1 h2; subst h0; subst h1; subst h2; rfl
    subst hrs
    have hl : l = m := uniq c hM.tail c' hM'.tail (fun p => by
      rcases Int.lt_or_le p r.f1 with hp | hp
      · rw [pm_lt c hp, pm_lt c' hp]
      · have := h p
        rwa [pm, if_neg (by omega), pm, if_neg (by omega)] at this)
    rw [hl]

/-! ### What is left of regions behind a cut -/
def cut1 (r : G) (a b : Int) : List G :=
  if r.f0 < b ∧ a < r.f1 then (if r.f0 < a then [⟨r.f0, a, r.f2⟩] else []) ++ (if b < r.f1 then [⟨b, r.f1, r.f2⟩] else []) else [r]
def cutL (l : List G) (a b : Int) : List G := l.flatMap fun r => cut1 r a b
theorem pm_append_none {l m : List G} {p : Int} (h : pm l p = none) : pm (l ++ m) p = pm m p := by
  induction l with
  | nil => rfl
  | cons r l ih =>
    rw [pm] at h
    split at h
    · cases h
    · rename_i hn
      rw [List.cons_append, pm, if_neg hn, ih h]
theorem cut_pm {a b : Int} : ∀ {l : List G} {lo : Int}, Ch lo l → ∀ p, pm (cutL l a b) p = if a ≤ p ∧ p < b then none else pm l p
  | [], _, _, p => by simp [cutL, pm]
  | r :: l, lo, ⟨h1, h2, h3⟩, p => by
    have ih := cut_pm (a := a) (b := b) h3 p
    have hr := h2.2.1
    show pm (cut1 r a b ++ cutL l a b) p = _
    by_cases hp : r.f0 ≤ p ∧ p < r.f1
    · have hl : pm (cutL l a b) p = none := by rw [ih, pm_lt h3 hp.2]; split <;> rfl
      unfold cut1
      rw [pm, if_pos hp]
      by_cases hm : r.f0 < b ∧ a < r.f1
      · rw [if_pos hm]
        by_cases q1 : r.f0 < a <;> by_cases q2 : b < r.f1
        · rw [if_pos q1, if_pos q2]
          simp only [List.cons_append, List.nil_append, pm, hl]
          repeat' split
          all_goals first | rfl | omega
        · rw [if_pos q1, if_neg q2]
          simp only [List.cons_append, List.nil_append, pm, hl]
          repeat' split
          all_goals first | rfl | omega
        · rw [if_neg q1, if_pos q2]
          simp only [List.cons_append, List.nil_append, pm, hl]
          repeat' split
          all_goals first | rfl | omega
        · rw [if_neg q1, if_neg q2]
          simp only [List.nil_append, hl]
          repeat' split
          all_goals first | rfl | omega
      · rw [if_neg hm]
        simp only [List.cons_append, List.nil_append, pm, hl, if_pos hp]
        repeat' split
        all_goals first | rfl | omega
    · rw [pm, if_neg hp, pm_append_none, ih]
      unfold cut1
      repeat' split
      all_goals first | rfl | (simp only [List.cons_append, List.nil_append, pm]; repeat' split) | skip
      all_goals first | rfl | omega
theorem Ch_append {l : List G} : ∀ {ps : List G} {lo hi : Int}, Ch lo ps → (∀ r ∈ ps, r.f1 ≤ hi) → lo ≤ hi → Ch hi l → Ch lo (ps ++ l)
  | [], lo, hi, _, _, hl, h => h.mono hl
  | r :: ps, lo, hi, ⟨a, b, c⟩, h2, hl, h => ⟨a, b, Ch_append c (fun x hx => h2 x (List.mem_cons_of_mem _ hx)) (h2 r (List.mem_cons_self ..)) h⟩
theorem cut1_ch {r : G} (h : Gok r) {a b : Int} (hab : a < b) : Ch r.f0 (cut1 r a b) ∧ ∀ x ∈ cut1 r a b, x.f1 ≤ r.f1 := by
  obtain ⟨g0, g1, g2, g3, g4⟩ := h
  unfold cut1
  repeat' split
  all_goals simp [Ch, Gok]
  all_goals omega
theorem cut_ch {a b : Int} (hab : a < b) : ∀ {l : List G} {lo : Int}, Ch lo l → Ch lo (cutL l a b)
  | [], _, _ => trivial
  | r :: l, lo, ⟨h1, h2, h3⟩ => by
    have hc := cut1_ch h2 hab
    have hr := h2.2.1
    exact Ch_append (hc.1.mono h1) hc.2 (by omega) (cut_ch hab h3)
/-- Another form: the page behind a region is not used as it is. -/
theorem Mx_iff : ∀ {l : List G} {lo : Int}, Ch lo l → (Mx l ↔ ∀ r ∈ l, pm l r.f1 ≠ some r.f2)
  | [], _, _ => by simp [Mx]
  | [r], lo, ⟨h1, h2, h3⟩ => by
    have := h2.2.1
    simp only [Mx, List.mem_singleton, forall_eq, true_iff, pm]
    rw [if_neg (by omega)]
    simp
  | r :: s :: l, lo, ⟨h1, h2, h3⟩ => by
    have hr := h2.2.1
    have hs := h3.1
    have hs1 := h3.2.1.2.1
    have ih := Mx_iff h3
    have hrest : ∀ x ∈ s :: l, pm (r :: s :: l) x.f1 = pm (s :: l) x.f1 := by
      intro x hx
      have hx1 : r.f1 < x.f1 := by
        have : ∀ {m : List G} {q : Int}, Ch q m → ∀ y ∈ m, q < y.f1 := by
          intro m
          induction m with
          | nil => intro q _ y hy; cases hy
          | cons z m ihm =>
            intro q hq y hy
            have hz := hq.2.1.2.1
            have hz0 := hq.1
            rcases List.mem_cons.1 hy with rfl | hy
            · omega
            · have := ihm hq.2.2 y hy; omega
        exact this h3 x hx
      rw [pm, if_neg (by omega)]
    constructor
    · rintro ⟨hm1, hm2⟩ x hx
      rcases List.mem_cons.1 hx with rfl | hx
      · rw [pm, if_neg (by omega), pm]
        split
        · intro e; exact hm1 ⟨by omega, (Option.some.inj e).symm⟩
        · rw [pm_lt h3.2.2 (by omega)]; simp
      · rw [hrest x hx]; exact ih.1 hm2 x hx
    · intro h
      refine ⟨fun e => ?_, ih.2 (fun x hx => by rw [← hrest x hx]; exact h x (List.mem_cons_of_mem _ hx))⟩
      refine h r (List.mem_cons_self ..) ?_
      rw [pm, if_neg (by omega), pm, if_pos (by omega), e.2]
theorem cut_mx {l : List G} {lo a b : Int} (hab : a < b) (h : Ch lo l) (hM : Mx l) : Mx (cutL l a b) := by
  rw [Mx_iff (cut_ch hab h)]
  intro x hx
  obtain ⟨r, hr, hx⟩ := List.mem_flatMap.1 hx
  have hMr := (Mx_iff h).1 hM r hr
  rw [cut_pm h]
  split
  · simp
  · rename_i hn
    unfold cut1 at hx
    by_cases q0 : r.f0 < b ∧ a < r.f1
    · rw [if_pos q0] at hx
      rcases List.mem_append.1 hx with hx | hx
      · split at hx
        · obtain rfl := List.mem_singleton.1 hx
          exact absurd ⟨Int.le_refl _, hab⟩ hn
        · cases hx
      · split at hx
        · obtain rfl := List.mem_singleton.1 hx
          exact hMr
        · cases hx
    · rw [if_neg q0] at hx
      obtain rfl := List.mem_singleton.1 hx
      exact hMr
theorem cut_vd {l : List G} {a b : Int} (hab : a < b) (h : Vd l) : Vd (cutL l a b) := ⟨cut_ch hab h.1, cut_mx hab h.1 h.2⟩

/-! ### One more, in its place -/
def ins (r : G) : List G → List G
  | [] => [r]
  | s :: l => if r.f0 < s.f0 then r :: s :: l else s :: ins r l
theorem ins_perm (r : G) : ∀ l : List G, (ins r l).Perm (l ++ [r])
  | [] => List.Perm.refl _
  | s :: l => by
    unfold ins
    split
    · exact (List.perm_append_comm (l₁ := [r]) (l₂ := s :: l))
    · exact List.Perm.cons s (ins_perm r l)
theorem ins_ch {r : G} (hr : Gok r) : ∀ {l : List G} {lo : Int}, Ch lo l → lo ≤ r.f0 → (∀ p, r.f0 ≤ p → p < r.f1 → pm l p = none) → Ch lo (ins r l) ∧ ∀ p, pm (ins r l) p = if r.f0 ≤ p ∧ p < r.f1 then some r.f2 else pm l p
  | [], lo, _, h, _ => ⟨⟨h, hr, trivial⟩, fun p => rfl⟩
  | s :: l, lo, ⟨h1, h2, h3⟩, h, hn => by
    have hs := h2.2.1
    have hr1 := hr.2.1
    unfold ins
    split
    · rename_i hlt
      have hb : r.f1 ≤ s.f0 := by
        rcases Int.lt_or_le s.f0 r.f1 with q | q
        · have := hn s.f0 (by omega) q
          rw [pm, if_pos (by omega)] at this
          cases this
        · exact q
      exact ⟨⟨h, hr, hb, h2, h3⟩, fun p => rfl⟩
    · rename_i hge
      have hb : s.f1 ≤ r.f0 := by
        rcases Int.lt_or_le r.f0 s.f1 with q | q
        · have := hn r.f0 (Int.le_refl _) hr1
          rw [pm, if_pos (by omega)] at this
          cases this
        · exact q
      have ih := ins_ch hr h3 hb (fun p p1 p2 => by
        have := hn p p1 p2
        rwa [pm, if_neg (by omega)] at this)
      refine ⟨⟨h1, h2, ih.1⟩, fun p => ?_⟩
      rw [pm, ih.2 p, pm]
      repeat' split
      all_goals first | rfl | omega

/-! ### Joined -/
def jn (cur : G) : List G → List G
  | [] => [cur]
  | r :: l => if cur.f1 = r.f0 ∧ cur.f2 = r.f2 then jn ⟨cur.f0, r.f1, cur.f2⟩ l else cur :: jn r l
theorem jn_head (cur : G) : ∀ l : List G, ∃ e t, jn cur l = ⟨cur.f0, e, cur.f2⟩ :: t := by
  intro l
  induction l generalizing cur with
  | nil => exact ⟨_, _, rfl⟩
  | cons r l ih =>
    unfold jn
    split
    · exact ih _
    · exact ⟨_, _, rfl⟩
theorem jn_ok : ∀ {l : List G} {cur : G} {lo : Int}, Ch lo (cur :: l) → Ch lo (jn cur l) ∧ Mx (jn cur l) ∧ ∀ p, pm (jn cur l) p = pm (cur :: l) p
  | [], cur, lo, h => ⟨h, trivial, fun _ => rfl⟩
  | r :: l, cur, lo, ⟨h1, h2, h3, h4, h5⟩ => by
    obtain ⟨c0, c1, c2, c3, c4⟩ := h2
    obtain ⟨r0, r1, r2, r3, r4⟩ := h4
    unfold jn
    split
    · rename_i he
      obtain ⟨e1, e2⟩ := he
      have ih := jn_ok (l := l) (cur := ⟨cur.f0, r.f1, cur.f2⟩) (lo := lo) ⟨h1, ⟨c0, by show cur.f0 < r.f1; omega, r2, c3, c4⟩, h5⟩
      refine ⟨ih.1, ih.2.1, fun p => ?_⟩
      rw [ih.2.2 p]
      simp only [pm]
      repeat' split
      all_goals first | rfl | omega | (congr 1; omega) | simp_all
      all_goals omega
    · rename_i he
      have ih := jn_ok (l := l) (cur := r) (lo := cur.f1) ⟨h3, ⟨r0, r1, r2, r3, r4⟩, h5⟩
      obtain ⟨e, t, ht⟩ := jn_head r l
      refine ⟨⟨h1, ⟨c0, c1, c2, c3, c4⟩, ih.1⟩, ?_, fun p => ?_⟩
      · have hm := ih.2.1
        rw [ht] at hm ⊢
        exact ⟨he, hm⟩
      · show (if cur.f0 ≤ p ∧ p < cur.f1 then some cur.f2 else pm (jn r l) p) = (if cur.f0 ≤ p ∧ p < cur.f1 then some cur.f2 else pm (r :: l) p)
        rw [ih.2.2 p]
theorem keys_nodup : ∀ {l : List G} {lo : Int}, Ch lo l → (l.map (·.f0)).Nodup ∧ l.Pairwise (fun x y => x.f0 ≤ y.f0) ∧ ∀ x ∈ l, lo ≤ x.f0 ∧ Gok x
  | [], _, _ => ⟨List.nodup_nil, List.Pairwise.nil, fun _ h => by cases h⟩
  | r :: l, lo, ⟨h1, h2, h3⟩ => by
    obtain ⟨a, b, c⟩ := keys_nodup h3
    have hr := h2.2.1
    refine ⟨?_, ?_, ?_⟩
    · rw [List.map_cons, List.nodup_cons]
      refine ⟨fun hm => ?_, a⟩
      obtain ⟨x, hx, e⟩ := List.mem_map.1 hm
      have := (c x hx).1
      omega
    · rw [List.pairwise_cons]
      exact ⟨fun x hx => by have := (c x hx).1; omega, b⟩
    · intro x hx
      rcases List.mem_cons.1 hx with rfl | hx
      · exact ⟨h1, h2⟩
      · have := c x hx; exact ⟨by omega, this.2⟩
theorem ch_len : ∀ {l : List G} {lo : Int}, Ch lo l → lo ≤ 4096 → (l.length : Int) ≤ 4096 - lo
  | [], lo, _, h => by simp; omega
  | r :: l, lo, ⟨h1, h2, h3⟩, h => by
    have hr := h2.2.1
    have := ch_len h3 h2.2.2.1
    rw [List.length_cons]
    omega
theorem Vd.len {l : List G} (h : Vd l) : l.length ≤ 4096 := by have := ch_len h.1 (by omega); omega
end Go.Proofs.YtikmanafbkiikaaDoor.XRegion
