/- Families: what each function answers of members that may be. No program in sight. -/
import Derived.Test.YtepjcfhkbcchmaaFamMath
namespace Go.Proofs.Ytepjcfhkbcchmaa.FamEv
set_option linter.unusedSimpArgs false
set_option linter.unusedVariables false
open Go Go.RowKit Go.Proofs.Ytepjcfhkbcchmaa Go.Proofs.Ytepjcfhkbcchmaa.XFam

section
variable {l : List M} {k : Nat}
theorem isN : (none : Option Int).isNone = true := rfl
theorem check_yes (h : Ok l) (hk : 40 < k) : family_Check.f k l = some none := by
  have := h.base.len
  rw [check_ev l (by omega) k (by omega), chk_of h, if_pos rfl]
theorem clone_yes (hl : l.length ≤ 1000) : family_Member_12.f l = some l := by
  unfold family_Member_12.f
  rw [if_pos (by omega)]
def findA (l : List M) (p : Int) : Int × Int × Bool × Int × Option Int := match fnd l p with | some x => (x.f0, x.f1, x.f2, x.f3, none) | none => (0, 0, false, 0, some 3)
theorem find_yes (h : Ok l) (hk : 40 < k) (p : Int) : family_Find.f k l p = some (findA l p) := by
  unfold family_Find.f findA
  rw [check_yes h hk, Option.bind_some, if_pos isN, at_ev, Option.bind_some]
  cases e : fnd l p with
  | none => rfl
  | some x =>
    obtain ⟨i, hi0, hi, hx⟩ := ix_some e
    simp only [Option.isSome_some, if_true, hi0]
    rw [if_pos (by omega), if_pos (by omega)]
    unfold rd_T25
    rw [Int.toNat_natCast, show l.getD i z25 = x from hx]
def kidsP (l : List M) (p : Int) : List Int := (l.filter fun x => decide (x.f1 = p) && decide (x.f0 ≠ 1)).map (·.f0)
theorem kids_l0 (l : List M) (hl : l.length ≤ 1000) (p : Int) : ∀ (d j k : Nat) (out : List Int), j + d = l.length → d < k → out.length ≤ j → family_Children.l0 k p out l (l.length : Int) (j : Int) = some (out ++ kidsP (l.drop j) p)
  | 0, j, k, out, hj, hk, ho => by
    obtain ⟨n, rfl⟩ : ∃ n, k = n + 1 := ⟨k - 1, by omega⟩
    rw [family_Children.l0, if_neg (by omega), List.drop_eq_nil_of_le (by omega)]
    simp [kidsP]
  | d + 1, j, k, out, hj, hk, ho => by
    obtain ⟨n, rfl⟩ : ∃ n, k = n + 1 := ⟨k - 1, by omega⟩
    have hjl : j < l.length := by omega
    have hrd : rd_T25 l (j : Int) = l[j] := by unfold rd_T25; rw [Int.toNat_natCast, List.getD_eq_getElem?_getD, List.getElem?_eq_getElem hjl]; rfl
    rw [family_Children.l0, if_pos (by omega), if_pos (by omega), if_pos (by omega), hrd, List.drop_eq_getElem_cons hjl, w64 (by omega)]
    unfold kidsP
    by_cases h1 : (l[j]).f1 = p
    · by_cases h2 : (l[j]).f0 = 1
      · rw [if_pos h1, if_pos h2, List.filter_cons_of_neg (by simp [h2]), kids_l0 l hl p d (j + 1) n out (by omega) (by omega) (by omega)]
        rfl
      · rw [if_pos h1, if_neg h2, if_pos (by omega), List.filter_cons_of_pos (by simp [h1, h2]), kids_l0 l hl p d (j + 1) n _ (by omega) (by omega) (by rw [List.length_append]; simp; omega)]
        rw [List.map_cons, List.append_assoc]
        rfl
    · rw [if_neg h1, List.filter_cons_of_neg (by simp [h1]), kids_l0 l hl p d (j + 1) n out (by omega) (by omega) (by omega)]
      rfl
theorem kids_yes (h : Ok l) (hk : 40 < k) (p : Int) : family_Children.f k l p = some (kidsP l p) := by
  have := h.base.len
  unfold family_Children.f
  rw [check_yes h hk, Option.bind_some, if_pos isN]
  have e := kids_l0 l (by omega) p l.length 0 k [] (Nat.zero_add _) (by omega) (Nat.zero_le _)
  rw [List.drop_zero, List.nil_append] at e
  exact e
theorem reap_yes (h : Ok l) (hk : 40 < k) (p : Int) : family_Reap.f k l p = some (match fnd l p with | none => ([], some 3) | some x => if x.f2 = true then (l.filter (kpM p), none) else ([], some 22)) := by
  have := h.base.len
  unfold family_Reap.f
  rw [find_yes h hk, Option.bind_some]
  unfold findA
  cases e : fnd l p with
  | none => rfl
  | some x =>
    simp only
    rw [if_pos isN]
    by_cases hz : x.f2 = true
    · rw [if_pos hz, if_pos hz, clone_yes (by omega), Option.bind_some]
    · rw [if_neg hz, if_neg hz]
theorem exit_yes (h : Ok l) (hk : 40 < k) (p s : Int) : family_Exit.f k l p s = some (if aliveP l p = true then (if p = 1 then ([], some 1) else (l.map (exM p s), none)) else ([], some 3)) := by
  have := h.base.len
  unfold family_Exit.f
  rw [check_yes h hk, Option.bind_some, if_pos isN, alive_ev, Option.bind_some]
  cases aliveP l p with
  | false => rfl
  | true =>
    rw [if_pos rfl, if_pos rfl]
    by_cases h1 : p = 1
    · rw [if_pos h1, if_pos h1]
    · rw [if_neg h1, if_neg h1, clone_yes (by omega), Option.bind_some]
def addA (l : List M) (p q : Int) : List M × Option Int := if (fnd l p).isSome = true then ([], some 17) else if aliveP l q = true then (if 16 ≤ l.length then ([], some 11) else (srt (l ++ [⟨p, q, false, 0⟩]), none)) else ([], some 3)
theorem add_yes (h : Ok l) (hk : 41 < k) (p q : Int) (hp : 1 ≤ p ∧ p ≤ 99) : family_Add.f k l p q = some (addA l p q) := by
  have hlen := h.base.len
  obtain ⟨n, rfl⟩ : ∃ n, k = n + 1 := ⟨k - 1, by omega⟩
  unfold family_Add.f addA
  rw [check_yes h (by omega), Option.bind_some, if_pos isN, pids_ev, Option.bind_some, if_pos (show pidOk p = true from decide_eq_true hp), if_pos isN, family_Add.j0, if_neg (by decide), at_ev, Option.bind_some]
  cases e : fnd l p with
  | some x => rfl
  | none =>
    show (if false = true then _ else _) = some (if false = true then _ else _)
    rw [if_neg (show ¬ (false = true) by decide), if_neg (show ¬ (false = true) by decide), alive_ev, Option.bind_some]
    cases aliveP l q with
    | false => rfl
    | true =>
      rw [if_pos (show true = true from rfl), if_pos (show true = true from rfl)]
      by_cases h16 : 16 ≤ l.length
      · rw [if_pos (by omega), if_pos h16]
      · rw [if_neg (by omega), if_neg h16, clone_yes (by omega), Option.bind_some, if_pos (by omega)]
        unfold family_Member_17.f
        have hok : srtOk (l ++ [(⟨p, q, false, 0⟩ : M)]) = true := by
          unfold srtOk
          rw [Bool.and_eq_true, Bool.and_eq_true, List.all_eq_true]
          refine ⟨⟨fun x hx => ?_, decide_eq_true ?_⟩, decide_eq_true ⟨by simp, by simp; omega⟩⟩
          · rcases List.mem_append.1 hx with a | a
            · have := h.base.rng x a
              exact decide_eq_true (by omega)
            · rw [List.mem_singleton.1 a]
              exact decide_eq_true (by show 0 ≤ p ∧ p ≤ 1000000; omega)
          · rw [List.map_append, List.nodup_append]
            refine ⟨?_, by simp, fun a ha b hb e' => ?_⟩
            · unfold List.Nodup
              rw [List.pairwise_map]
              exact h.base.srt.imp (fun {a b} hab e => by omega)
            · obtain ⟨x, hx, rfl⟩ := List.mem_map.1 ha
              simp at hb
              exact fnd_none e x hx (by rw [e', hb])
        rw [if_pos hok, Option.bind_some]
end
/-- Two rising lists with the same numbers. -/
theorem rise_ext : ∀ (a b : List Nat), a.Pairwise (· < ·) → b.Pairwise (· < ·) → (∀ x, x ∈ a ↔ x ∈ b) → a = b
  | [], [], _, _, _ => rfl
  | [], y :: b, _, _, h => absurd ((h y).2 List.mem_cons_self) List.not_mem_nil
  | x :: a, [], _, _, h => absurd ((h x).1 List.mem_cons_self) List.not_mem_nil
  | x :: a, y :: b, ha, hb, h => by
    obtain ⟨ha1, ha2⟩ := List.pairwise_cons.1 ha
    obtain ⟨hb1, hb2⟩ := List.pairwise_cons.1 hb
    have e : x = y := by
      rcases List.mem_cons.1 ((h x).1 List.mem_cons_self) with e | m
      · exact e
      · rcases List.mem_cons.1 ((h y).2 List.mem_cons_self) with e | m'
        · exact e.symm
        · have := hb1 x m; have := ha1 y m'; omega
    subst e
    congr 1
    refine rise_ext a b ha2 hb2 (fun z => ⟨fun hz => ?_, fun hz => ?_⟩)
    · rcases List.mem_cons.1 ((h z).1 (List.mem_cons_of_mem _ hz)) with e | m
      · have := ha1 z hz; omega
      · exact m
    · rcases List.mem_cons.1 ((h z).2 (List.mem_cons_of_mem _ hz)) with e | m
      · have := hb1 z hz; omega
      · exact m
/-- How many numbers below j are members'. -/
def cntTo (l : List M) (j : Nat) : Nat := ((List.range j).filter fun k : Nat => (fnd l (k : Int)).isSome).length
theorem cntTo_succ (l : List M) (j : Nat) : cntTo l (j + 1) = cntTo l j + if (fnd l (j : Int)).isSome = true then 1 else 0 := by
  unfold cntTo
  rw [List.range_succ, List.filter_append, List.length_append]
  congr 1
  cases h : (fnd l (j : Int)).isSome <;> simp [h]
theorem cntTo_one {l : List M} (h : Base l) : cntTo l 1 = 0 := by
  rw [cntTo_succ]
  have : fnd l ((0 : Nat) : Int) = none := by
    cases e : fnd l ((0 : Nat) : Int) with
    | none => rfl
    | some x =>
      obtain ⟨h1, h2⟩ := fnd_mem e
      have := (h.rng x h1).1
      omega
  rw [this]
  rfl
theorem cntTo_le (l : List M) (j : Nat) : cntTo l j ≤ j := by
  unfold cntTo
  exact Nat.le_trans (List.length_filter_le _ _) (by rw [List.length_range]; exact Nat.le_refl _)
theorem cntTo_all {l : List M} (h : Base l) : cntTo l 100 = l.length := by
  unfold cntTo
  have : (List.range 100).filter (fun k : Nat => (fnd l (k : Int)).isSome) = l.map fun x => x.f0.toNat := by
    refine rise_ext _ _ (List.Pairwise.filter _ List.pairwise_lt_range) ?_ (fun k => ?_)
    · rw [List.pairwise_map]
      refine h.srt.imp_of_mem (fun {a b} ha hb hab => ?_)
      have := h.rng a ha
      omega
    · rw [List.mem_filter, List.mem_range, List.mem_map]
      constructor
      · rintro ⟨hk, hs⟩
        obtain ⟨x, hx⟩ := Option.isSome_iff_exists.1 hs
        obtain ⟨h1, h2⟩ := fnd_mem hx
        exact ⟨x, h1, by omega⟩
      · rintro ⟨x, hx, rfl⟩
        have := h.rng x hx
        refine ⟨by omega, ?_⟩
        rw [show ((x.f0.toNat : Nat) : Int) = x.f0 by omega, fnd_of h.srt hx]
        rfl
  rw [this, List.length_map]
/-- What FamilyKeeps keeps: the members, who is there, who is over. -/
def isZ (l : List M) (p : Int) : Bool := match fnd l p with | some x => x.f2 | none => false
structure FI (l : List M) (th ov : List Bool) : Prop where
  base : Base l
  rank : ∃ rk, Rank l rk
  tl : th.length = 100
  ol : ov.length = 100
  th : ∀ k : Nat, k < 100 → th[k]? = some (fnd l (k : Int)).isSome
  ov : ∀ k : Nat, k < 100 → ov[k]? = some (isZ l (k : Int))
section
variable {l : List M} {th ov : List Bool}
theorem FI.ok (h : FI l th ov) : Ok l := by
  obtain ⟨rk, hr⟩ := h.rank
  exact ok_rank h.base hr
theorem set_get {α : Type} (r : List α) (i j : Nat) (v : α) : (r.set i v)[j]? = if i = j then (if i < r.length then some v else none) else r[j]? := by
  rw [List.getElem?_set]
theorem FI.new : FI [oneM] ((List.replicate 100 false).set 1 true) (List.replicate 100 false) := by
  have hf : ∀ k : Nat, fnd [oneM] (k : Int) = if k = 1 then some oneM else none := fun k => by
    unfold fnd
    by_cases e : k = 1
    · subst e; rfl
    · rw [if_neg e, List.find?_eq_none]
      intro x hx
      rw [List.mem_singleton.1 hx]
      have : oneM.f0 = 1 := rfl
      simp
      omega
  refine ⟨⟨by decide, by unfold Sorted; simp, ?_, ?_, List.mem_cons_self, ?_⟩, ⟨fun _ => 0, rfl, ?_, ?_, ?_⟩, by simp, by simp, fun k hk => ?_, fun k hk => ?_⟩
  · intro x hx; rw [List.mem_singleton.1 hx]; decide
  · intro x hx _; rw [List.mem_singleton.1 hx]; rfl
  · intro x hx h1; rw [List.mem_singleton.1 hx] at h1; exact absurd rfl h1
  · intro x hx y hy _; rw [List.mem_singleton.1 hx, List.mem_singleton.1 hy]
  · intro x _; simp
  · intro x hx h1; rw [List.mem_singleton.1 hx] at h1; exact absurd rfl h1
  · rw [hf, set_get, List.length_replicate, List.getElem?_replicate]
    by_cases e : k = 1
    · rw [if_pos e.symm, if_pos e]; rfl
    · rw [if_neg (fun e' => e e'.symm), if_neg e, if_pos hk]; rfl
  · unfold isZ
    rw [hf, List.getElem?_replicate, if_pos hk]
    split <;> rename_i e <;> split at e <;> first | rfl | (rw [← Option.some.inj e]; rfl) | cases e
theorem FI.exit (h : FI l th ov) (p : Nat) (s : Int) (hp : p ≠ 1) (hp2 : p < 100) (ha : aliveP l p = true) : FI (l.map (exM p s)) th (ov.set p true) := by
  obtain ⟨rk, hr⟩ := h.rank
  refine ⟨exit_base h.base p s (by omega) ha (rank_self h.base hr (by omega)), ⟨rk, exit_rank h.base hr p s⟩, h.tl, by rw [List.length_set]; exact h.ol, fun k hk => ?_, fun k hk => ?_⟩
  · rw [h.th k hk, fnd_map]
    cases fnd l (k : Int) <;> rfl
  · rw [set_get, h.ol]
    unfold isZ
    rw [fnd_map]
    obtain ⟨x, hx, _⟩ := alive_some ha
    by_cases e : p = k
    · subst e
      rw [if_pos rfl, if_pos hp2, hx, Option.map_some]
      unfold exM
      simp [(fnd_mem hx).2]
    · rw [if_neg e, h.ov k hk]
      unfold isZ
      cases hy : fnd l (k : Int) with
      | none => rfl
      | some y =>
        have := (fnd_mem hy).2
        simp only [Option.map_some]
        unfold exM
        rw [if_neg (by omega)]
        split <;> rfl
theorem FI.reap (h : FI l th ov) (p : Nat) (hp2 : p < 100) (hz : isZ l p = true) : FI (l.filter (kpM p)) (th.set p false) (ov.set p false) := by
  obtain ⟨rk, hr⟩ := h.rank
  obtain ⟨x, hx, hxz⟩ : ∃ x, fnd l (p : Int) = some x ∧ x.f2 = true := by
    unfold isZ at hz
    cases e : fnd l (p : Int) with
    | none => rw [e] at hz; cases hz
    | some x => rw [e] at hz; exact ⟨x, rfl, hz⟩
  refine ⟨reap_base h.base p hx hxz, ⟨_, reap_rank h.base hr p hx hxz⟩, by rw [List.length_set]; exact h.tl, by rw [List.length_set]; exact h.ol, fun k hk => ?_, fun k hk => ?_⟩
  · rw [set_get, h.tl]
    by_cases e : p = k
    · subst e
      rw [if_pos rfl, if_pos hp2, fnd_filter_same]
      rfl
    · rw [if_neg e, h.th k hk, fnd_filter _ _ _ (by omega)]
  · rw [set_get, h.ol]
    unfold isZ
    by_cases e : p = k
    · subst e
      rw [if_pos rfl, if_pos hp2, fnd_filter_same]
    · rw [if_neg e, h.ov k hk, fnd_filter _ _ _ (by omega)]
      rfl
theorem FI.add (h : FI l th ov) (p : Nat) (q : Int) (hl : l.length < 16) (hp : 1 ≤ p ∧ p < 100) (hn : fnd l (p : Int) = none) (ha : aliveP l q = true) : FI (srt (l ++ [⟨p, q, false, 0⟩])) (th.set p true) ov := by
  obtain ⟨rk, hr⟩ := h.rank
  have hp1 : (p : Int) ≠ 1 := fun e => by rw [e, h.base.fnd1] at hn; cases hn
  refine ⟨add_base h.base p q hl (by omega) hn ha, ⟨_, add_rank h.base hr p q hp1 hn ha⟩, by rw [List.length_set]; exact h.tl, h.ol, fun k hk => ?_, fun k hk => ?_⟩
  · rw [set_get, h.tl, fnd_add h.base.srt _ hn]
    by_cases e : p = k
    · subst e
      rw [if_pos rfl, if_pos hp.2, if_pos (show ((p : Nat) : Int) = (p : Int) from rfl)]
      rfl
    · rw [if_neg e, h.th k hk, if_neg (show ¬ ((k : Nat) : Int) = (p : Int) by omega)]
  · unfold isZ
    rw [fnd_add h.base.srt _ hn, h.ov k hk]
    unfold isZ
    by_cases e : p = k
    · subst e
      rw [if_pos (show ((p : Nat) : Int) = (p : Int) from rfl), hn]
    · rw [if_neg (show ¬ ((k : Nat) : Int) = (p : Int) by omega)]
theorem kids_find (h : Base l) (p s : Int) (hp : p ≠ 1) (hself : ∀ x, fnd l p = some x → x.f1 ≠ p) : ∀ q ∈ kidsP l p, ∃ x, fnd (l.map (exM p s)) q = some x ∧ x.f1 = 1 := fun q hq => by
  unfold kidsP at hq
  obtain ⟨x, hx, rfl⟩ := List.mem_map.1 hq
  obtain ⟨h1, h2⟩ := List.mem_filter.1 hx
  simp only [Bool.and_eq_true, decide_eq_true_eq] at h2
  refine ⟨exM p s x, by rw [fnd_map, fnd_of h.srt h1]; rfl, ?_⟩
  rw [exM_f1, if_neg (fun e => hself x (fnd_eq h.srt h1 e) h2.1), if_pos h2.1]
end
theorem kids_le (l : List M) (p : Int) : (kidsP l p).length ≤ l.length := by
  unfold kidsP
  rw [List.length_map]
  exact List.length_filter_le _ _
theorem srt_id {l : List M} (h : Sorted l) : srt l = l := by
  unfold srt
  exact List.mergeSort_of_pairwise (h.imp (fun {a b} hab => decide_eq_true (by omega)))
end Go.Proofs.Ytepjcfhkbcchmaa.FamEv
