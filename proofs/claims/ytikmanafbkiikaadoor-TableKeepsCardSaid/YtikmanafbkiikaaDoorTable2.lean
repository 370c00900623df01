/- Tables, walked: Set, Clear, Get, New. -/
import Derived.Test.YtikmanafbkiikaaDoorTable
namespace Go.Proofs.YtikmanafbkiikaaDoor
set_option linter.unusedSimpArgs false
set_option linter.unusedVariables false
open Go Go.RowKit Go.Proofs.YtikmanafbkiikaaDoorW.PrintWords Go.Proofs.YtikmanafbkiikaaDoorW.PrintMore Go.Proofs.YtikmanafbkiikaaDoor.RowK

set_option maxHeartbeats 4000000 in
set_option maxRecDepth 100000 in
/-- Set, its upper part being made (as 'made' does). -/
theorem tab_set_of (w : World) (pt pf gf pm gm k d : Nat) (rs bs rs' bs' : List Int) (h : Tab w pt pf gf pm gm k rs bs d) (p : Int) (u a n : Nat) (f q : Int) (c : Bool) (hp0 : 0 ≤ p) (hp1 : p < 4096) (hu : p / 64 = (u : Int)) (ha : p % 64 = (a : Int)) (hq0 : 0 ≤ q) (hq1 : q < 256) (hok : entOk f q = true) (hn : n < k)
    (hm : ∀ W : World, Below w.heap.size w W → Calls Tryd.prog 75 #[.pointer (some ⟨pt, 0, none⟩), .int .i64 u] W fun e w' => e = .returned (.tuple #[.int .i64 n, .nilIface]) ∧ Tab w' pt pf gf pm gm k rs' bs' d ∧ Agr (fun b => b ≠ gf ∧ b ≠ gm) W w') :
    Calls Tryd.prog 26 #[.pointer (some ⟨pt, 0, none⟩), .int .i64 p, .agg #[.int .i64 f, .int .u8 q, .bool c]] w fun e w' => e = .returned .nilIface ∧ Tab w' pt pf gf pm gm k rs' (spl bs' (n * 256 + a * 4) (bytes4 (entNum f q c))) d ∧ Agr (fun b => b ≠ gf ∧ b ≠ gm) w w' := by
  have ha64 : a < 64 := by omega
  have hv : 0 ≤ entNum f q c ∧ entNum f q c < 4294967296 := by
    obtain ⟨h1, h2, h3⟩ := entOk_iff.1 hok
    unfold entNum
    cases c <;> simp <;> omega
  obtain ⟨v, hv'⟩ : ∃ v, v = entNum f q c := ⟨_, rfl⟩
  rw [← hv'] at hv ⊢
  have H := Lib.hid h
  have HU := Lib.hid hu
  have HA := Lib.hid ha
  have HM := Lib.hid hm
  have HOK := Lib.hid hok
  have HV := Lib.hid hv'
  have hpg : decide (0 ≤ p ∧ p < 4096) = true := decide_eq_true ⟨hp0, hp1⟩
  have HPG := Lib.hid hpg
  clear h hu ha hm hok hv' hpg
  go_enter Tryd.func26, Tryd.ntmps26
  go_wp2_with fail
  refine (tab_dead _ pt pf gf pm gm k d rs bs (H.out.below ((Below.refl _ w).alloc (Nat.le_refl _) _))).mono ?_
  rintro e w1 ⟨rfl, rfl⟩
  go_wp2_with fail
  refine (tab_paged _ p).mono ?_
  rintro e w1 ⟨rfl, rfl⟩
  rw [HPG.out]
  go_wp2_with fail
  refine (entEncode f q c hq0 hq1 _).mono ?_
  rintro e w2 ⟨rfl, hb2⟩
  rw [entEnc, HOK.out, if_pos rfl, show errW (argErr true) = .nilIface from rfl, ← HV.out]
  have B2 := Lib.hid ((((Below.refl _ w).alloc (Nat.le_refl _) (.cells #[.int .i64 f, .int .u8 q, .bool c] 55 (0, 0)))).trans (hb2.mono (by simp)))
  clear hb2
  go_wp2_with fail
  rw [HU.out]
  refine (HM.out w2 B2.out).mono ?_
  rintro e w3 ⟨rfl, ht3, ha3⟩
  have T3 := Lib.hid ht3
  have A3 := Lib.hid ((Agr.below B2.out).trans ha3)
  clear ht3 ha3
  go_wp2_with fail
  rw [HA.out]
  refine (tab_lay w3 pt pf gf pm gm k d rs' bs' T3.out n a v hn ha64 hv.1 hv.2).mono ?_
  rintro e w4 ⟨rfl, ht4, ho4⟩
  have T4 := Lib.hid ht4
  have A4 := Lib.hid (A3.out.trans (Agr.oth ho4 (fun h => h.2 rfl)))
  clear ht4 ho4
  go_wp2
  go_ret
  exact ⟨rfl, T4.out, A4.out⟩
set_option maxHeartbeats 4000000 in
set_option maxRecDepth 100000 in
theorem tab_set_full (w : World) (pt pf gf pm gm k d : Nat) (rs bs : List Int) (h : Tab w pt pf gf pm gm k rs bs d) (p : Int) (u : Nat) (f q : Int) (c : Bool) (hp0 : 0 ≤ p) (hp1 : p < 4096) (hu : p / 64 = (u : Int)) (hq0 : 0 ≤ q) (hq1 : q < 256) (hok : entOk f q = true) (he : wd bs d u = 0) (hn : ∀ j, j < k → rs[j]? ≠ some 0) :
    Calls Tryd.prog 26 #[.pointer (some ⟨pt, 0, none⟩), .int .i64 p, .agg #[.int .i64 f, .int .u8 q, .bool c]] w fun e w' => e = .returned (errW (some 12)) ∧ Below w.heap.size w w' := by
  have hu64 : u < 64 := by omega
  have H := Lib.hid h
  have HU := Lib.hid hu
  have HE := Lib.hid he
  have HN := Lib.hid hn
  have HOK := Lib.hid hok
  have hpg : decide (0 ≤ p ∧ p < 4096) = true := decide_eq_true ⟨hp0, hp1⟩
  have HPG := Lib.hid hpg
  obtain ⟨v, hv'⟩ : ∃ v, v = entNum f q c := ⟨_, rfl⟩
  have HV := Lib.hid hv'
  clear h hu he hn hok hv' hpg
  rw [errW_some]
  go_enter Tryd.func26, Tryd.ntmps26
  go_wp2_with fail
  refine (tab_dead _ pt pf gf pm gm k d rs bs (H.out.below ((Below.refl _ w).alloc (Nat.le_refl _) _))).mono ?_
  rintro e w1 ⟨rfl, rfl⟩
  go_wp2_with fail
  refine (tab_paged _ p).mono ?_
  rintro e w1 ⟨rfl, rfl⟩
  rw [HPG.out]
  go_wp2_with fail
  refine (entEncode f q c hq0 hq1 _).mono ?_
  rintro e w2 ⟨rfl, hb2⟩
  rw [entEnc, HOK.out, if_pos rfl, show errW (argErr true) = .nilIface from rfl, ← HV.out]
  have B2 := Lib.hid ((((Below.refl _ w).alloc (Nat.le_refl _) (.cells #[.int .i64 f, .int .u8 q, .bool c] 55 (0, 0)))).trans (hb2.mono (by simp)))
  clear hb2
  go_wp2_with fail
  rw [HU.out]
  refine (tab_made_full w2 pt pf gf pm gm k d rs bs (H.out.below B2.out) u hu64 HE.out HN.out).mono ?_
  rintro e w3 ⟨rfl, hb3⟩
  rw [errW_some]
  have B3 := Lib.hid (B2.out.trans (hb3.mono B2.out.size))
  clear hb3
  go_wp2
  go_ret
  exact ⟨rfl, B3.out⟩
set_option maxHeartbeats 4000000 in
set_option maxRecDepth 100000 in
theorem tab_set_bad (w : World) (pt pf gf pm gm k d : Nat) (rs bs : List Int) (h : Tab w pt pf gf pm gm k rs bs d) (p : Int) (f q : Int) (c : Bool) (hq0 : 0 ≤ q) (hq1 : q < 256) (hb : ¬ ((0 ≤ p ∧ p < 4096) ∧ entOk f q = true)) :
    Calls Tryd.prog 26 #[.pointer (some ⟨pt, 0, none⟩), .int .i64 p, .agg #[.int .i64 f, .int .u8 q, .bool c]] w fun e w' => e = .returned (errW (some 22)) ∧ Below w.heap.size w w' := by
  have H := Lib.hid h
  clear h
  rw [errW_some]
  by_cases hp : 0 ≤ p ∧ p < 4096
  · have hok : entOk f q = false := by
      cases hx : entOk f q
      · rfl
      · exact absurd ⟨hp, hx⟩ hb
    have HOK := Lib.hid hok
    have HPG := Lib.hid (decide_eq_true hp)
    clear hb hok hp
    go_enter Tryd.func26, Tryd.ntmps26
    go_wp2_with fail
    refine (tab_dead _ pt pf gf pm gm k d rs bs (H.out.below ((Below.refl _ w).alloc (Nat.le_refl _) _))).mono ?_
    rintro e w1 ⟨rfl, rfl⟩
    go_wp2_with fail
    refine (tab_paged _ p).mono ?_
    rintro e w1 ⟨rfl, rfl⟩
    rw [HPG.out]
    go_wp2_with fail
    refine (entEncode f q c hq0 hq1 _).mono ?_
    rintro e w2 ⟨rfl, hb2⟩
    rw [entEnc, HOK.out, if_neg (by decide), show errW (argErr false) = .iface 123 (.int .i64 22) from rfl]
    have B2 := Lib.hid ((((Below.refl _ w).alloc (Nat.le_refl _) (.cells #[.int .i64 f, .int .u8 q, .bool c] 55 (0, 0)))).trans (hb2.mono (by simp)))
    clear hb2
    go_wp2
    go_ret
    exact ⟨rfl, B2.out⟩
  · have HPG := Lib.hid (decide_eq_false hp)
    clear hb hp
    go_enter Tryd.func26, Tryd.ntmps26
    go_wp2_with fail
    refine (tab_dead _ pt pf gf pm gm k d rs bs (H.out.below ((Below.refl _ w).alloc (Nat.le_refl _) _))).mono ?_
    rintro e w1 ⟨rfl, rfl⟩
    go_wp2_with fail
    refine (tab_paged _ p).mono ?_
    rintro e w1 ⟨rfl, rfl⟩
    rw [HPG.out]
    go_wp2
    go_ret
    exact ⟨rfl, (Below.refl _ w).alloc (Nat.le_refl _) _⟩
set_option maxHeartbeats 4000000 in
set_option maxRecDepth 100000 in
/-- Clear of a page whose upper part has a frame n. -/
theorem tab_clear_is (w : World) (pt pf gf pm gm k d : Nat) (rs bs : List Int) (h : Tab w pt pf gf pm gm k rs bs d) (p : Int) (u a n : Nat) (hp0 : 0 ≤ p) (hp1 : p < 4096) (hu : p / 64 = (u : Int)) (ha : p % 64 = (a : Int)) (he : isEnt (wd bs d u) = true) (hn : wd bs d u / 256 = (n : Int)) (hnk : n < k) :
    Calls Tryd.prog 27 #[.pointer (some ⟨pt, 0, none⟩), .int .i64 p] w fun e w' => e = .returned .nilIface ∧ Tab w' pt pf gf pm gm k rs (spl bs (n * 256 + a * 4) (bytes4 0)) d ∧ Agr (fun b => b ≠ gf ∧ b ≠ gm) w w' := by
  have hu64 : u < 64 := by omega
  have ha64 : a < 64 := by omega
  have H := Lib.hid h
  have HU := Lib.hid hu
  have HA := Lib.hid ha
  have HE := Lib.hid he
  have HN := Lib.hid hn
  have HPG := Lib.hid (decide_eq_true (show 0 ≤ p ∧ p < 4096 from ⟨hp0, hp1⟩))
  clear h hu ha he hn
  go_enter Tryd.func27, Tryd.ntmps27
  go_wp2_with fail
  refine (tab_dead _ pt pf gf pm gm k d rs bs H.out).mono ?_
  rintro e w1 ⟨rfl, rfl⟩
  go_wp2_with fail
  refine (tab_paged _ p).mono ?_
  rintro e w1 ⟨rfl, rfl⟩
  rw [HPG.out]
  go_wp2_with fail
  rw [HU.out]
  refine (tab_lower w pt pf gf pm gm k d rs bs H.out u hu64).mono ?_
  rintro e w1 ⟨rfl, hb1⟩
  rw [HE.out, if_pos rfl, show entDecE (wd bs d u) = none by unfold entDecE; rw [HE.out, Bool.or_true]; rfl, errW_none, HN.out]
  have T1 := Lib.hid (H.out.below hb1)
  have A1 := Lib.hid (Agr.below (S := fun b => b ≠ gf ∧ b ≠ gm) hb1)
  clear hb1
  go_wp2_with fail
  rw [HA.out]
  refine (tab_lay w1 pt pf gf pm gm k d rs bs T1.out n a 0 hnk ha64 (by decide) (by decide)).mono ?_
  rintro e w4 ⟨rfl, ht4, ho4⟩
  have T4 := Lib.hid ht4
  have A4 := Lib.hid (A1.out.trans (Agr.oth ho4 (fun h => h.2 rfl)))
  clear ht4 ho4
  go_wp2
  go_ret
  exact ⟨rfl, T4.out, A4.out⟩
set_option maxHeartbeats 4000000 in
set_option maxRecDepth 100000 in
theorem tab_clear_none (w : World) (pt pf gf pm gm k d : Nat) (rs bs : List Int) (h : Tab w pt pf gf pm gm k rs bs d) (p : Int) (u : Nat) (hp0 : 0 ≤ p) (hp1 : p < 4096) (hu : p / 64 = (u : Int)) (he : wd bs d u = 0) :
    Calls Tryd.prog 27 #[.pointer (some ⟨pt, 0, none⟩), .int .i64 p] w fun e w' => e = .returned .nilIface ∧ Below w.heap.size w w' := by
  have hu64 : u < 64 := by omega
  have H := Lib.hid h
  have HU := Lib.hid hu
  have HE := Lib.hid he
  have HPG := Lib.hid (decide_eq_true (show 0 ≤ p ∧ p < 4096 from ⟨hp0, hp1⟩))
  clear h hu he
  go_enter Tryd.func27, Tryd.ntmps27
  go_wp2_with fail
  refine (tab_dead _ pt pf gf pm gm k d rs bs H.out).mono ?_
  rintro e w1 ⟨rfl, rfl⟩
  go_wp2_with fail
  refine (tab_paged _ p).mono ?_
  rintro e w1 ⟨rfl, rfl⟩
  rw [HPG.out]
  go_wp2_with fail
  rw [HU.out]
  refine (tab_lower w pt pf gf pm gm k d rs bs H.out u hu64).mono ?_
  rintro e w1 ⟨rfl, hb1⟩
  rw [HE.out, isEnt_zero, if_neg (by decide), entDecE_zero, errW_none]
  have B1 := Lib.hid hb1
  clear hb1
  go_wp2
  go_ret
  exact ⟨rfl, B1.out⟩
set_option maxHeartbeats 4000000 in
set_option maxRecDepth 100000 in
theorem tab_clear_bad (w : World) (pt pf gf pm gm k d : Nat) (rs bs : List Int) (h : Tab w pt pf gf pm gm k rs bs d) (p : Int) (hp : ¬ (0 ≤ p ∧ p < 4096)) :
    Calls Tryd.prog 27 #[.pointer (some ⟨pt, 0, none⟩), .int .i64 p] w fun e w' => e = .returned (errW (some 22)) ∧ w = w' := by
  have H := Lib.hid h
  have HPG := Lib.hid (decide_eq_false hp)
  clear h hp
  rw [errW_some]
  go_enter Tryd.func27, Tryd.ntmps27
  go_wp2_with fail
  refine (tab_dead _ pt pf gf pm gm k d rs bs H.out).mono ?_
  rintro e w1 ⟨rfl, rfl⟩
  go_wp2_with fail
  refine (tab_paged _ p).mono ?_
  rintro e w1 ⟨rfl, rfl⟩
  rw [HPG.out]
  go_wp2
  go_ret
  exact ⟨rfl, rfl⟩
end Go.Proofs.YtikmanafbkiikaaDoor
