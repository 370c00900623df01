/- Families, in plain words: which members may be, and what is done to them. No program in sight. -/
import Derived.Test.YtepjcfhkbcchmaaFamEv
namespace Go.Proofs.Ytepjcfhkbcchmaa.FamEv
set_option linter.unusedSimpArgs false
set_option linter.unusedVariables false
open Go Go.RowKit Go.Proofs.Ytepjcfhkbcchmaa Go.Proofs.Ytepjcfhkbcchmaa.XFam

def oneM : M := ⟨1, 0, false, 0⟩
def Sorted (l : List M) : Prop := l.Pairwise fun a b => a.f0 < b.f0
theorem fnd_mem {l : List M} {p : Int} {x : M} (h : fnd l p = some x) : x ∈ l ∧ x.f0 = p := by
  unfold fnd at h
  exact ⟨List.mem_of_find?_eq_some h, by have := List.find?_some h; simpa using this⟩
theorem fnd_none {l : List M} {p : Int} (h : fnd l p = none) : ∀ x ∈ l, x.f0 ≠ p := by
  unfold fnd at h
  rw [List.find?_eq_none] at h
  intro x hx e
  exact h x hx (decide_eq_true e)
theorem sorted_eq {l : List M} (h : Sorted l) {x y : M} (hx : x ∈ l) (hy : y ∈ l) (e : x.f0 = y.f0) : x = y := by
  induction l with
  | nil => cases hx
  | cons z r ih =>
    obtain ⟨h1, h2⟩ := List.pairwise_cons.1 h
    rcases List.mem_cons.1 hx with a | a
    · rcases List.mem_cons.1 hy with b | b
      · rw [a, b]
      · have := h1 y b; rw [← a] at this; omega
    · rcases List.mem_cons.1 hy with b | b
      · have := h1 x a; rw [← b] at this; omega
      · exact ih h2 a b
theorem fnd_of {l : List M} (h : Sorted l) {x : M} (hx : x ∈ l) : fnd l x.f0 = some x := by
  cases e : fnd l x.f0 with
  | none => exact absurd rfl (fnd_none e x hx)
  | some y =>
    obtain ⟨h1, h2⟩ := fnd_mem e
    rw [sorted_eq h h1 hx h2]
theorem fnd_eq {l : List M} (h : Sorted l) {x : M} {p : Int} (hx : x ∈ l) (hp : x.f0 = p) : fnd l p = some x := by rw [← hp]; exact fnd_of h hx
theorem led_one (l : List M) : ∀ d, ledP l d 1 = true
  | 0 => rfl
  | d + 1 => by simp [ledP]
/-- All but the way to the first one. -/
structure Base (l : List M) : Prop where
  len : l.length ≤ 16
  srt : Sorted l
  rng : ∀ x ∈ l, 1 ≤ x.f0 ∧ x.f0 ≤ 99
  st : ∀ x ∈ l, x.f2 = false → x.f3 = 0
  one : oneM ∈ l
  par : ∀ x ∈ l, x.f0 ≠ 1 → aliveP l x.f1 = true
structure Ok (l : List M) : Prop where
  base : Base l
  led : ∀ x ∈ l, x.f0 ≠ 1 → ledP l l.length x.f0 = true
theorem alive_some {l : List M} {p : Int} (h : aliveP l p = true) : ∃ x, fnd l p = some x ∧ x.f2 = false := by
  unfold aliveP at h
  cases e : fnd l p with
  | none => rw [e] at h; cases h
  | some x => rw [e] at h; exact ⟨x, rfl, by simpa using h⟩
theorem alive_of {l : List M} {p : Int} {x : M} (h : fnd l p = some x) (hx : x.f2 = false) : aliveP l p = true := by
  unfold aliveP; rw [h]; simp [hx]
theorem Base.pos {l : List M} (h : Base l) : 1 ≤ l.length := List.length_pos_of_mem h.one
theorem Base.get0 {l : List M} (h : Base l) : l.getD 0 zM = oneM := by
  have hp := h.pos
  rw [List.getD_eq_getElem?_getD, List.getElem?_eq_getElem hp, Option.getD_some]
  have h0 := List.getElem_mem hp
  obtain ⟨j, hj, e⟩ := List.getElem_of_mem h.one
  rcases Nat.eq_zero_or_pos j with rfl | hj0
  · exact e
  · have h1 := (List.pairwise_iff_getElem.1 h.srt) 0 j hp hj hj0
    rw [e] at h1
    have h2 := (h.rng _ h0).1
    have h3 : oneM.f0 = 1 := rfl
    omega
theorem getD_mem {l : List M} {i : Nat} (h : i < l.length) : l.getD i zM ∈ l := by
  rw [List.getD_eq_getElem?_getD, List.getElem?_eq_getElem h, Option.getD_some]
  exact List.getElem_mem h
theorem chk_of {l : List M} (h : Ok l) : chkP l = true := by
  unfold chkP
  rw [decide_eq_true (show 1 ≤ l.length ∧ l.length ≤ 16 from ⟨h.base.pos, h.base.len⟩), Bool.true_and, List.all_eq_true]
  intro i hi
  have hi := List.mem_range.1 hi
  have hm := getD_mem hi
  unfold mayP
  simp only [Bool.and_eq_true]
  refine ⟨⟨⟨decide_eq_true (h.base.rng _ hm), ?_⟩, ?_⟩, ?_⟩
  · rcases Nat.eq_zero_or_pos i with rfl | hi0
    · rfl
    · have := (List.pairwise_iff_getElem.1 h.base.srt) (i - 1) i (by omega) hi (by omega)
      rw [Bool.or_eq_true]
      right
      rw [List.getD_eq_getElem?_getD, List.getD_eq_getElem?_getD, List.getElem?_eq_getElem hi, List.getElem?_eq_getElem (show i - 1 < l.length by omega)]
      exact decide_eq_true this
  · cases e : (l.getD i zM).f2 with
    | true => rfl
    | false => rw [h.base.st _ hm e]; rfl
  · rcases Nat.eq_zero_or_pos i with rfl | hi0
    · rw [if_pos rfl, h.base.get0]; rfl
    · rw [if_neg (by omega)]
      have h1 : (l.getD i zM).f0 ≠ 1 := by
        have h2 := (List.pairwise_iff_getElem.1 h.base.srt) 0 i (by omega) hi hi0
        have h3 := h.base.get0
        rw [List.getD_eq_getElem?_getD, List.getElem?_eq_getElem (show 0 < l.length by omega), Option.getD_some] at h3
        rw [h3] at h2
        rw [List.getD_eq_getElem?_getD, List.getElem?_eq_getElem hi, Option.getD_some]
        have h4 : oneM.f0 = 1 := rfl
        omega
      rw [h.base.par _ hm h1, h.led _ hm h1]
      rfl
theorem sorted_of {l : List M} (h : ∀ i, 0 < i → i < l.length → (l.getD (i - 1) zM).f0 < (l.getD i zM).f0) : Sorted l := by
  unfold Sorted
  rw [List.pairwise_iff_getElem]
  have key : ∀ d i, i + d + 1 < l.length → (l.getD i zM).f0 < (l.getD (i + d + 1) zM).f0 := by
    intro d
    induction d with
    | zero => intro i hi; have := h (i + 1) (by omega) (by omega); simpa using this
    | succ d ih =>
      intro i hi
      have h1 := ih i (by omega)
      have h2 := h (i + d + 1 + 1) (by omega) (by omega)
      rw [show i + d + 1 + 1 - 1 = i + d + 1 by omega] at h2
      rw [show i + (d + 1) + 1 = i + d + 1 + 1 by omega]
      omega
  intro i j hi hj hij
  have := key (j - i - 1) i (by omega)
  rw [show i + (j - i - 1) + 1 = j by omega] at this
  rw [List.getD_eq_getElem?_getD, List.getD_eq_getElem?_getD, List.getElem?_eq_getElem hi, List.getElem?_eq_getElem hj] at this
  exact this
theorem ok_of {l : List M} (h : chkP l = true) : Ok l := by
  unfold chkP at h
  rw [Bool.and_eq_true, List.all_eq_true] at h
  obtain ⟨hl, hall⟩ := h
  have hl := of_decide_eq_true hl
  have hm : ∀ i, i < l.length → mayP l i = true := fun i hi => hall i (List.mem_range.2 hi)
  unfold mayP at hm
  simp only [Bool.and_eq_true] at hm
  have hs : Sorted l := sorted_of (fun i h0 hi => by
    have := (hm i hi).1.1.2
    rw [Bool.or_eq_true] at this
    rcases this with a | a
    · have := of_decide_eq_true a; omega
    · exact of_decide_eq_true a)
  have hof : ∀ x ∈ l, ∃ i, i < l.length ∧ l.getD i zM = x := fun x hx => by
    obtain ⟨i, hi, e⟩ := List.getElem_of_mem hx
    exact ⟨i, hi, by rw [List.getD_eq_getElem?_getD, List.getElem?_eq_getElem hi]; exact e⟩
  have h0 := hm 0 (by omega)
  have hone : l.getD 0 zM = oneM := by
    have a := h0.2
    rw [if_pos rfl] at a
    simp only [Bool.and_eq_true, beq_iff_eq, Bool.not_eq_true'] at a
    have b := h0.1.2
    obtain ⟨⟨a0, a1⟩, a2⟩ := a
    rw [a2] at b
    have b : (l.getD 0 zM).f3 = 0 := by simpa using b
    revert a0 a1 a2 b
    generalize l.getD 0 zM = m
    obtain ⟨m0, m1, m2, m3⟩ := m
    intro a0 a1 a2 b
    simp only at a0 a1 a2 b
    rw [a0, a1, a2, b]
    rfl
  have hpar : ∀ x ∈ l, x.f0 ≠ 1 → aliveP l x.f1 = true ∧ ledP l l.length x.f0 = true := fun x hx h1 => by
    obtain ⟨i, hi, rfl⟩ := hof x hx
    have a := (hm i hi).2
    rw [if_neg (fun e => by subst e; rw [hone] at h1; exact h1 rfl)] at a
    rwa [Bool.and_eq_true] at a
  refine ⟨⟨hl.2, hs, fun x hx => ?_, fun x hx e => ?_, ?_, fun x hx h1 => (hpar x hx h1).1⟩, fun x hx h1 => (hpar x hx h1).2⟩
  · obtain ⟨i, hi, rfl⟩ := hof x hx
    exact of_decide_eq_true (hm i hi).1.1.1
  · obtain ⟨i, hi, rfl⟩ := hof x hx
    have := (hm i hi).1.2
    rw [e] at this
    simpa using this
  · rw [← hone]
    exact getD_mem (by omega)
theorem Base.fnd1 {l : List M} (h : Base l) : fnd l 1 = some oneM := fnd_eq h.srt h.one rfl
/-- Behind Exit. -/
theorem fnd_map (l : List M) (p s q : Int) : fnd (l.map (exM p s)) q = (fnd l q).map (exM p s) := by
  unfold fnd
  rw [List.find?_map]
  have : ((fun x : M => decide (x.f0 = q)) ∘ exM p s) = fun x : M => decide (x.f0 = q) := by
    funext x
    show decide ((exM p s x).f0 = q) = _
    unfold exM
    split
    · rfl
    · split <;> rfl
  rw [this]
theorem exM_f0 (p s : Int) (x : M) : (exM p s x).f0 = x.f0 := by
  unfold exM
  split
  · rfl
  · split <;> rfl
theorem exM_f1 (p s : Int) (x : M) : (exM p s x).f1 = if x.f0 = p then x.f1 else if x.f1 = p then 1 else x.f1 := by
  unfold exM
  split
  · rfl
  · split <;> rfl
theorem exit_base {l : List M} (h : Base l) (p s : Int) (hp : p ≠ 1) (ha : aliveP l p = true) (hself : ∀ x, fnd l p = some x → x.f1 ≠ p) : Base (l.map (exM p s)) := by
  obtain ⟨xp, hxp, hxz⟩ := alive_some ha
  obtain ⟨hpm, hp0⟩ := fnd_mem hxp
  have hp1 : 1 ≤ p := by rw [← hp0]; exact (h.rng _ hpm).1
  have hone : exM p s oneM = oneM := by
    unfold exM
    rw [if_neg (show ¬ oneM.f0 = p from fun e => hp e.symm), if_neg (show ¬ oneM.f1 = p from fun e => by have : oneM.f1 = 0 := rfl; omega)]
  refine ⟨by rw [List.length_map]; exact h.len, ?_, fun y hy => ?_, fun y hy hz => ?_, ?_, fun y hy h1 => ?_⟩
  · unfold Sorted
    rw [List.pairwise_map]
    exact h.srt.imp (fun {a b} hab => by rw [exM_f0, exM_f0]; exact hab)
  · obtain ⟨x, hx, rfl⟩ := List.mem_map.1 hy
    rw [exM_f0]
    exact h.rng x hx
  · obtain ⟨x, hx, rfl⟩ := List.mem_map.1 hy
    unfold exM at hz ⊢
    split
    · rename_i e; rw [if_pos e] at hz; cases hz
    · rename_i e
      rw [if_neg e] at hz
      split
      · rename_i e2; rw [if_pos e2] at hz; exact h.st x hx hz
      · rename_i e2; rw [if_neg e2] at hz; exact h.st x hx hz
  · rw [← hone]
    exact List.mem_map.2 ⟨oneM, h.one, rfl⟩
  · obtain ⟨x, hx, rfl⟩ := List.mem_map.1 hy
    rw [exM_f0] at h1
    have hal := h.par x hx h1
    obtain ⟨y, hyf, hyz⟩ := alive_some hal
    have hy0 := (fnd_mem hyf).2
    have stay : x.f1 ≠ p → aliveP (l.map (exM p s)) x.f1 = true := fun hne => by
      refine alive_of (x := exM p s y) (by rw [fnd_map, hyf]; rfl) ?_
      unfold exM
      rw [if_neg (by rw [hy0]; exact hne)]
      split <;> exact hyz
    rw [exM_f1]
    split
    · rename_i e
      exact stay (fun e2 => hself x (fnd_eq h.srt hx e) e2)
    · split
      · refine alive_of (x := oneM) (by rw [fnd_map, h.fnd1, Option.map_some, hone]) rfl
      · rename_i e2; exact stay e2
/-- Behind Reap. -/
theorem fnd_filter (l : List M) (p q : Int) (hq : q ≠ p) : fnd (l.filter (kpM p)) q = fnd l q := by
  unfold fnd
  rw [List.find?_filter]
  congr 1
  funext x
  unfold kpM
  by_cases e : x.f0 = q
  · simp [e, hq]
  · simp [e]
theorem fnd_filter_same (l : List M) (p : Int) : fnd (l.filter (kpM p)) p = none := by
  unfold fnd
  rw [List.find?_eq_none]
  intro x hx
  have := (List.mem_filter.1 hx).2
  unfold kpM at this
  simpa using this
theorem filter_len {l : List M} (h : Sorted l) {x : M} (hx : x ∈ l) : (l.filter (kpM x.f0)).length + 1 = l.length := by
  induction l with
  | nil => cases hx
  | cons z r ih =>
    obtain ⟨h1, h2⟩ := List.pairwise_cons.1 h
    rcases List.mem_cons.1 hx with rfl | hx
    · rw [List.filter_cons_of_neg (by unfold kpM; simp), List.filter_eq_self.2 (fun y hy => by
        unfold kpM
        have := h1 y hy
        rw [decide_eq_false (show ¬ y.f0 = x.f0 by omega)]
        rfl)]
      rfl
    · rw [List.filter_cons_of_pos (by
        unfold kpM
        have := h1 x hx
        rw [decide_eq_false (show ¬ z.f0 = x.f0 by omega)]
        rfl), List.length_cons, List.length_cons, ih h2 hx]
theorem reap_base {l : List M} (h : Base l) (p : Int) {x : M} (hx : fnd l p = some x) (hz : x.f2 = true) : Base (l.filter (kpM p)) := by
  have hp1 : p ≠ 1 := fun e => by
    rw [e, h.fnd1] at hx
    rw [← Option.some.inj hx] at hz
    cases hz
  refine ⟨Nat.le_trans (List.length_filter_le _ _) h.len, h.srt.filter _, fun y hy => h.rng y (List.mem_filter.1 hy).1, fun y hy => h.st y (List.mem_filter.1 hy).1, List.mem_filter.2 ⟨h.one, ?_⟩, fun y hy h1 => ?_⟩
  · unfold kpM
    rw [decide_eq_false (show ¬ oneM.f0 = p from fun e => hp1 e.symm)]
    rfl
  · have hal := h.par y (List.mem_filter.1 hy).1 h1
    obtain ⟨w, hw, hwz⟩ := alive_some hal
    have hne : y.f1 ≠ p := fun e => by
      rw [e, hx] at hw
      rw [← Option.some.inj hw, hz] at hwz
      cases hwz
    exact alive_of (by rw [fnd_filter _ _ _ hne]; exact hw) hwz
/-- Behind Add. -/
theorem srt_mem (l : List M) (x : M) : x ∈ srt l ↔ x ∈ l := by unfold srt; exact (List.mergeSort_perm _ _).mem_iff
theorem srt_len (l : List M) : (srt l).length = l.length := by unfold srt; exact (List.mergeSort_perm _ _).length_eq
theorem srt_sorted {l : List M} (h : ∀ x ∈ l, ∀ y ∈ l, x.f0 = y.f0 → x = y) (hn : l.Nodup) : Sorted (srt l) := by
  have h1 : (srt l).Pairwise (fun x y => decide (x.f0 ≤ y.f0) = true) := List.pairwise_mergeSort (fun a b c hab hbc => by simp at hab hbc ⊢; omega) (fun a b => by simp; omega) l
  have h2 : (srt l).Nodup := (List.mergeSort_perm l _).nodup_iff.2 hn
  unfold Sorted
  refine (h1.and h2).imp_of_mem (fun {a b} ha hb hab => ?_)
  have e1 := of_decide_eq_true hab.1
  have e2 : a.f0 ≠ b.f0 := fun e => hab.2 (h a ((srt_mem l a).1 ha) b ((srt_mem l b).1 hb) e)
  omega
theorem sorted_nodup {l : List M} (h : Sorted l) : l.Nodup := h.imp (fun {a b} hab e => by rw [e] at hab; omega)
theorem add_sorted {l : List M} (h : Sorted l) (n : M) (hn : fnd l n.f0 = none) : Sorted (srt (l ++ [n])) := by
  refine srt_sorted (fun x hx y hy e => ?_) ?_
  · rcases List.mem_append.1 hx with a | a
    · rcases List.mem_append.1 hy with b | b
      · exact sorted_eq h a b e
      · rw [List.mem_singleton.1 b] at e
        exact absurd e (fnd_none hn x a)
    · rcases List.mem_append.1 hy with b | b
      · rw [List.mem_singleton.1 a] at e
        exact absurd e.symm (fnd_none hn y b)
      · rw [List.mem_singleton.1 a, List.mem_singleton.1 b]
  · rw [List.nodup_append]
    refine ⟨sorted_nodup h, by simp, fun a ha b hb e => ?_⟩
    obtain rfl := List.mem_singleton.1 hb
    exact fnd_none hn a ha (by rw [e])
theorem add_mem (l : List M) (n x : M) : x ∈ srt (l ++ [n]) ↔ x ∈ l ∨ x = n := by
  rw [srt_mem, List.mem_append, List.mem_singleton]
theorem fnd_add {l : List M} (h : Sorted l) (n : M) (hn : fnd l n.f0 = none) (q : Int) : fnd (srt (l ++ [n])) q = if q = n.f0 then some n else fnd l q := by
  have hs := add_sorted h n hn
  by_cases e : q = n.f0
  · rw [if_pos e]
    exact fnd_eq hs ((add_mem l n n).2 (.inr rfl)) e.symm
  · rw [if_neg e]
    cases hf : fnd l q with
    | some x => exact fnd_eq hs ((add_mem l n x).2 (.inl (fnd_mem hf).1)) (fnd_mem hf).2
    | none =>
      cases hg : fnd (srt (l ++ [n])) q with
      | none => rfl
      | some y =>
        obtain ⟨h1, h2⟩ := fnd_mem hg
        rcases (add_mem l n y).1 h1 with a | a
        · exact absurd h2 (fnd_none hf y a)
        · rw [a] at h2; exact absurd h2.symm e
theorem add_base {l : List M} (h : Base l) (p q : Int) (hl : l.length < 16) (hp : 1 ≤ p ∧ p ≤ 99) (hn : fnd l p = none) (ha : aliveP l q = true) : Base (srt (l ++ [⟨p, q, false, 0⟩])) := by
  have hs := add_sorted h.srt (⟨p, q, false, 0⟩ : M) hn
  have stay : ∀ r, aliveP l r = true → aliveP (srt (l ++ [⟨p, q, false, 0⟩])) r = true := fun r hr => by
    obtain ⟨y, hy, hyz⟩ := alive_some hr
    refine alive_of (x := y) ?_ hyz
    rw [fnd_add h.srt _ hn, if_neg (fun e => by rw [e] at hy; have : fnd l p = some y := hy; rw [hn] at this; cases this)]
    exact hy
  refine ⟨by rw [srt_len, List.length_append]; simp; omega, hs, fun x hx => ?_, fun x hx hz => ?_, (add_mem _ _ _).2 (.inl h.one), fun x hx h1 => ?_⟩
  · rcases (add_mem _ _ _).1 hx with a | rfl
    · exact h.rng x a
    · exact hp
  · rcases (add_mem _ _ _).1 hx with a | rfl
    · exact h.st x a hz
    · rfl
  · rcases (add_mem _ _ _).1 hx with a | rfl
    · exact stay _ (h.par x a h1)
    · exact stay _ ha
/-- A rank of each member: its parent's is less. -/
structure Rank (l : List M) (rk : Int → Nat) : Prop where
  r1 : rk 1 = 0
  inj : ∀ x ∈ l, ∀ y ∈ l, rk x.f0 = rk y.f0 → x.f0 = y.f0
  lt : ∀ x ∈ l, rk x.f0 < l.length
  dec : ∀ x ∈ l, x.f0 ≠ 1 → rk x.f1 < rk x.f0
theorem led_rank {l : List M} (h : Base l) {rk : Int → Nat} (hr : Rank l rk) : ∀ (d : Nat) (x : M), x ∈ l → rk x.f0 ≤ d → ledP l d x.f0 = true
  | 0, x, hx, hd => by
    by_cases h1 : x.f0 = 1
    · rw [h1]; rfl
    · have := hr.dec x hx h1; omega
  | d + 1, x, hx, hd => by
    by_cases h1 : x.f0 = 1
    · rw [h1]; exact led_one l _
    · rw [ledP, beq_false_of_ne h1, Bool.false_or, fnd_of h.srt hx]
      show ledP l d x.f1 = true
      obtain ⟨y, hy, _⟩ := alive_some (h.par x hx h1)
      obtain ⟨hym, hy0⟩ := fnd_mem hy
      rw [← hy0]
      have := hr.dec x hx h1
      exact led_rank h hr d y hym (by rw [hy0]; omega)
theorem ok_rank {l : List M} (h : Base l) {rk : Int → Nat} (hr : Rank l rk) : Ok l :=
  ⟨h, fun x hx _ => led_rank h hr _ x hx (Nat.le_of_lt (hr.lt x hx))⟩
theorem rank_self {l : List M} (h : Base l) {rk : Int → Nat} (hr : Rank l rk) {p : Int} (hp : p ≠ 1) : ∀ x, fnd l p = some x → x.f1 ≠ p := fun x hx e => by
  obtain ⟨h1, h2⟩ := fnd_mem hx
  have := hr.dec x h1 (by rw [h2]; exact hp)
  rw [e, h2] at this
  omega
theorem exit_rank {l : List M} (h : Base l) {rk : Int → Nat} (hr : Rank l rk) (p s : Int) : Rank (l.map (exM p s)) rk := by
  refine ⟨hr.r1, fun x hx y hy e => ?_, fun x hx => ?_, fun x hx h1 => ?_⟩
  · obtain ⟨a, ha, rfl⟩ := List.mem_map.1 hx
    obtain ⟨b, hb, rfl⟩ := List.mem_map.1 hy
    rw [exM_f0, exM_f0] at e ⊢
    exact hr.inj a ha b hb e
  · obtain ⟨a, ha, rfl⟩ := List.mem_map.1 hx
    rw [exM_f0, List.length_map]
    exact hr.lt a ha
  · obtain ⟨a, ha, rfl⟩ := List.mem_map.1 hx
    rw [exM_f0] at h1 ⊢
    have hd := hr.dec a ha h1
    unfold exM
    split
    · exact hd
    · split
      · show rk 1 < _
        rw [hr.r1]
        omega
      · exact hd
theorem add_rank {l : List M} (h : Base l) {rk : Int → Nat} (hr : Rank l rk) (p q : Int) (hp1 : p ≠ 1) (hn : fnd l p = none) (ha : aliveP l q = true) : Rank (srt (l ++ [⟨p, q, false, 0⟩])) (fun r => if r = p then l.length else rk r) := by
  have hne : ∀ x ∈ l, x.f0 ≠ p := fnd_none hn
  refine ⟨by show (if (1 : Int) = p then _ else _) = 0; rw [if_neg (fun e => hp1 e.symm)]; exact hr.r1, fun x hx y hy e => ?_, fun x hx => ?_, fun x hx h1 => ?_⟩
  · have e : (if x.f0 = p then l.length else rk x.f0) = (if y.f0 = p then l.length else rk y.f0) := e
    rcases (add_mem _ _ _).1 hx with a | rfl
    · rcases (add_mem _ _ _).1 hy with b | rfl
      · rw [if_neg (hne x a), if_neg (hne y b)] at e
        exact hr.inj x a y b e
      · rw [if_neg (hne x a), if_pos rfl] at e
        have := hr.lt x a
        omega
    · rcases (add_mem _ _ _).1 hy with b | rfl
      · rw [if_neg (hne y b), if_pos rfl] at e
        have := hr.lt y b
        omega
      · rfl
  · show (if x.f0 = p then _ else _) < _
    rw [srt_len, List.length_append]
    rcases (add_mem _ _ _).1 hx with a | rfl
    · rw [if_neg (hne x a)]
      have := hr.lt x a
      simp; omega
    · rw [if_pos rfl]; simp
  · show (if x.f1 = p then _ else _) < (if x.f0 = p then _ else _)
    rcases (add_mem _ _ _).1 hx with a | rfl
    · obtain ⟨y, hy, _⟩ := alive_some (h.par x a h1)
      have e : x.f1 ≠ p := fun e => by rw [e, hn] at hy; cases hy
      rw [if_neg (hne x a), if_neg e]
      exact hr.dec x a h1
    · obtain ⟨y, hy, _⟩ := alive_some ha
      have e : q ≠ p := fun e => by rw [e, hn] at hy; cases hy
      show (if q = p then _ else _) < (if p = p then _ else _)
      rw [if_pos rfl, if_neg e, ← (fnd_mem hy).2]
      exact hr.lt y (fnd_mem hy).1
def rkR (rk : Int → Nat) (p r : Int) : Nat := if rk p < rk r then rk r - 1 else rk r
theorem rkR_or (rk : Int → Nat) (p r : Int) : (rk p < rk r ∧ rkR rk p r + 1 = rk r) ∨ (rk r ≤ rk p ∧ rkR rk p r = rk r) := by
  unfold rkR
  split
  · left; omega
  · right; omega
theorem reap_rank {l : List M} (h : Base l) {rk : Int → Nat} (hr : Rank l rk) (p : Int) {x : M} (hx : fnd l p = some x) (hz : x.f2 = true) : Rank (l.filter (kpM p)) (rkR rk p) := by
  obtain ⟨hxm, hx0⟩ := fnd_mem hx
  have hp1 : p ≠ 1 := fun e => by
    rw [e, h.fnd1] at hx
    rw [← Option.some.inj hx] at hz
    cases hz
  have hmem : ∀ y, y ∈ l.filter (kpM p) → y ∈ l ∧ y.f0 ≠ p := fun y hy => by
    obtain ⟨a, b⟩ := List.mem_filter.1 hy
    unfold kpM at b
    exact ⟨a, by simpa using b⟩
  have hnr : ∀ y, y ∈ l → y.f0 ≠ p → rk y.f0 ≠ rk p := fun y hy hyp e => by
    rw [← hx0] at e
    exact hyp ((hr.inj y hy x hxm e).trans hx0)
  have hlen : (l.filter (kpM p)).length + 1 = l.length := by rw [← hx0]; exact filter_len h.srt hxm
  have hpl := hr.lt x hxm
  rw [hx0] at hpl
  refine ⟨by have := hr.r1; rcases rkR_or rk p 1 with e | e <;> omega, fun a ha b hb e => ?_, fun a ha => ?_, fun a ha h1 => ?_⟩
  · obtain ⟨a1, a2⟩ := hmem a ha
    obtain ⟨b1, b2⟩ := hmem b hb
    have na := hnr a a1 a2
    have nb := hnr b b1 b2
    refine hr.inj a a1 b b1 ?_
    rcases rkR_or rk p a.f0 with u | u <;> rcases rkR_or rk p b.f0 with v | v <;> omega
  · obtain ⟨a1, a2⟩ := hmem a ha
    have na := hnr a a1 a2
    have := hr.lt a a1
    rcases rkR_or rk p a.f0 with u | u <;> omega
  · obtain ⟨a1, a2⟩ := hmem a ha
    have na := hnr a a1 a2
    have hd := hr.dec a a1 h1
    obtain ⟨y, hy, hyz⟩ := alive_some (h.par a a1 h1)
    have hyp : a.f1 ≠ p := fun e => by
      rw [e, hx] at hy
      rw [← Option.some.inj hy, hz] at hyz
      cases hyz
    have ny := hnr y (fnd_mem hy).1 (by rw [(fnd_mem hy).2]; exact hyp)
    rw [(fnd_mem hy).2] at ny
    rcases rkR_or rk p a.f0 with u | u <;> rcases rkR_or rk p a.f1 with v | v <;> omega
end Go.Proofs.Ytepjcfhkbcchmaa.FamEv
