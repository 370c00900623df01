-- Written by xprint.py (a program of this claim's author) by means of the kit's print. Not trusted: Lean checks it.
import Derived.Test.YtikmanafbkiikaaXRegionx0
import Derived.Test.YtikmanafbkiikaaXRegionx2
import Derived.Test.YtikmanafbkiikaaXRegionx3
import Derived.Test.YtikmanafbkiikaaXRegionx6
import Derived.Test.YtikmanafbkiikaaXRegionx9
import Derived.Test.YtikmanafbkiikaaXRegionx10
namespace Go.Proofs.Ytikmanafbkiikaa.XRegion
open Go.RowKit Go.Proofs.YtikmanafbkiikaaW.PrintWords Go.Proofs.YtikmanafbkiikaaW.PrintLast Go.Proofs.YtikmanafbkiikaaW.PrintMore
attribute [local go_sem] max2_int min2_int max_two min_two max_three min_three max_four min_four   -- for this text's walks alone
set_option linter.unusedVariables false
set_option linter.unusedSimpArgs false

/-! ### halterlaw13_giveRegions: function 20 -/
def halterlaw13_giveRegions.l0 : Nat → List (S46) → List (S49) → Int → Option ((List (S49)))
  | 0, _, _, _ => none
  | k + 1, x0, x3, x4 => if x4 < (x0.length : Int) then (if 0 ≤ x4 then (if x3.length < 5864062014805 then (halterlaw13_giveRegions.l0 k x0 (x3 ++ [(⟨(rd_T46 x0 x4).f0, (rd_T46 x0 x4).f1, (rd_T46 x0 x4).f2⟩ : S49)]) (wrap64 (x4 + 1))) else (none)) else (none)) else (some x3)
def halterlaw13_giveRegions.f (k : Nat) (l0 : List (S46)) : Option ((List (S49))) := halterlaw13_giveRegions.l0 k l0 ([] : List (S49)) 0
theorem halterlaw13_giveRegions.mono_l : ∀ k, (∀ y0 y1 y2, LeO (halterlaw13_giveRegions.l0 k y0 y1 y2) (halterlaw13_giveRegions.l0 (k + 1) y0 y1 y2))
  | 0 => fun _ _ _ r h => by simp [halterlaw13_giveRegions.l0] at h
  | k + 1 => by
    have ih0 := halterlaw13_giveRegions.mono_l k
    · intro y0 y1 y2
      unfold halterlaw13_giveRegions.l0
      repeat' first
      | (with_reducible exact ih0 _ _ _)
      | (with_reducible exact LeO.refl _)
      | (with_reducible exact LeO.none _)
      | (with_reducible refine LeO.ite ?_ ?_)
      | (with_reducible refine LeO.bind ?_ (fun _ => ?_))
      | exact ih0 _ _ _
      | exact LeO.none _
      | refine LeO.ite ?_ ?_
      | refine LeO.bind ?_ (fun _ => ?_)
theorem halterlaw13_giveRegions.mono : ∀ a0 k, LeO (halterlaw13_giveRegions.f k a0) (halterlaw13_giveRegions.f (k + 1) a0) := by
  intro a0 k
  have ih0 := halterlaw13_giveRegions.mono_l k
  unfold halterlaw13_giveRegions.f
  repeat' first
      | (with_reducible exact ih0 _ _ _)
      | (with_reducible exact LeO.refl _)
      | (with_reducible exact LeO.none _)
      | (with_reducible refine LeO.ite ?_ ?_)
      | (with_reducible refine LeO.bind ?_ (fun _ => ?_))
      | exact ih0 _ _ _
      | exact LeO.none _
      | refine LeO.ite ?_ ?_
      | refine LeO.bind ?_ (fun _ => ?_)
set_option maxHeartbeats 8000000 in
set_option maxRecDepth 100000 in
theorem halterlaw13_giveRegions.calls (k : Nat) (A0 : Option Addr) (c0 : Nat) (l0 : List (S46)) (r : List (S49)) (w : World) (hr0 : Kd.C k46 w A0 l0.length l0) (hc0 : l0.length ≤ c0) (h : halterlaw13_giveRegions.f k l0 = some r) :
    Calls Try.prog 20 #[.slice A0 l0.length c0] w fun e w' => ∃ v0_ : Value, e = .returned (v0_) ∧ Kd.R k49 49 w' w.heap.size (fun _ => True) v0_ r ∧ Below w.heap.size w w' := by
  have hu46 := Try.underlying46
  have HR0 := Aside0.mk hr0
  have HC0 := Aside0.mk hc0
  clear hr0 hc0
  have HB := Aside0.mk (Below.refl w.heap.size w)
  have H : (halterlaw13_giveRegions.l0 k l0 ([] : List (S49)) 0) = some r := h
  clear h
  have H' := Aside0.mk H
  clear H
  go_enter Try.func20, Try.ntmps20
  go_wp2
  go_loopg [3, 4] k (fun kq v3 v4 w' => ∃ (x3_1 : List (S49)) (x4_1 : Int), v4 = .int .i64 x4_1 ∧ Aside0 (halterlaw13_giveRegions.l0 kq l0 x3_1 x4_1 = some r) ∧ Aside0 (kq ≤ k) ∧ Aside0 (Kd.R k49 49 w' w.heap.size (fun _ => True) v3 x3_1) ∧ Aside0 (Below w.heap.size w w'))
  case atStart => exact ⟨(([] : List (S49))), (0), (by first | rfl | (simp; done) | (simp [*]; done)), H', ⟨Nat.le_refl _⟩, ⟨by first | exact Kd.R_nil _ _ _ _ _ | exact Kd.N_nil _ _ _ _ _ | exact Kd.V_nil _ _ _ _ _ | exact Kd.Q_nil _ _ _ _ _ | exact Kd.S_nil _ _ _ _ _⟩, ⟨by repeat (first | (with_reducible first | exact HB.out | apply below_alloc | apply pw_below_drewN | apply below_drew1) | exact HB.out)⟩⟩
  case round =>
    clear H'
    obtain ⟨x3_1, x4_1, rfl, HA, HK1, HO_3, HB⟩ := hrel
    cases gk with
    | zero => exact absurd HA.out (by simp [halterlaw13_giveRegions.l0])
    | succ k1 =>
      have H := HA.out
      clear HA
      simp only [halterlaw13_giveRegions.l0] at H
      by_cases c2 : x4_1 < (l0.length : Int)
      · rw [if_pos c2] at H
        have c2b0 : decide (x4_1 < (l0.length : Int)) = true := decide_eq_true c2
        clear c2
        by_cases c3 : 0 ≤ x4_1
        · rw [if_pos c3] at H
          have c3b0 : decide (0 ≤ x4_1) = true := decide_eq_true c3
          clear c3
          by_cases c4 : x3_1.length < 5864062014805
          · rw [if_pos c4] at H
            have LMc4 := Aside0.mk c4
            clear c4
            obtain ⟨y256, hy256⟩ : ∃ y_ : List (S49), y_ = (x3_1 ++ [(⟨(rd_T46 l0 x4_1).f0, (rd_T46 l0 x4_1).f1, (rd_T46 l0 x4_1).f2⟩ : S49)]) := ⟨_, rfl⟩
            replace H : (halterlaw13_giveRegions.l0 k1 l0 y256 (wrap64 (x4_1 + 1))) = some r := by first | (rw [hy256]; with_reducible exact H) | (have H2_ := (Option.bind_some _ _).symm.trans H; rw [hy256]; with_reducible exact H2_) | (have H2_ := (Option.bind_some _ _).symm.trans H; with_reducible exact H2_) | with_reducible exact H | (rw [hy256]; exact H) | exact H
            have Ny256 := Aside0.mk hy256
            clear hy256
            have H' := Aside0.mk H
            clear H
            have p255 : 0 ≤ (x4_1 : Int) := of_decide_eq_true (by first | (with_reducible assumption) | assumption)
            have q255 : x4_1 < (l0.length : Int) := of_decide_eq_true (by first | (with_reducible assumption) | assumption)
            obtain ⟨ad255, e255, hx255_0, hx255_1, hx255_2⟩ := at_T46 HR0.out x4_1 p255 q255
            cases e255
            replace hx255_0 := (HB.out.cell (World.block_lt_of_cell? w _ hx255_0)).trans hx255_0
            replace hx255_1 := (HB.out.cell (World.block_lt_of_cell? w _ hx255_1)).trans hx255_1
            replace hx255_2 := (HB.out.cell (World.block_lt_of_cell? w _ hx255_2)).trans hx255_2
            replace p255 := eq_true p255
            replace q255 := eq_true q255
            go_wp2_with (first | ((with_reducible refine gate_builtin (b := .append) (xs := #[.tmp 11, .tmp 16]) rfl ?_); at_builtin; refine Kd.R_append k49 (w0 := w) w.heap.size rfl (.tmp 11) (.tmp 16) 44 49 (.agg #[(.int .i64 0), (.int .i64 0), (.int .u8 0)]) 24 rfl Try.underlying44 info49 rfl (by decide) (by omega) u3 x3_1 (⟨(rd_T46 l0 x4_1).f0, (rd_T46 l0 x4_1).f1, (rd_T46 l0 x4_1).f2⟩ : S49) [.int .i64 ((rd_T46 l0 x4_1).f0), .int .i64 ((rd_T46 l0 x4_1).f1), .int .u8 ((rd_T46 l0 x4_1).f2)] (fun _ => True) (fun _ => False) rfl rfl ?aP (fun _ hk => hk.elim) ?aF ?aO ?aB ?aS ?aL ?_; (case aP => exact k49_mkM _ _ _ (⟨(rd_T46 l0 x4_1).f0, (rd_T46 l0 x4_1).f1, (rd_T46 l0 x4_1).f2⟩ : S49)); (case aB => exact (by repeat (first | (with_reducible first | exact HB.out | apply below_alloc | apply pw_below_drewN | apply below_drew1) | exact HB.out))); (case aF => exact (fun _ _ => trivial)); (case aO => exact (by (with_reducible repeat (first | apply Kd.R_alloc | apply Kd.R_drewN | apply Kd.R_drew)); exact HO_3.out)); (case aS => exact (below_size (by repeat (first | (with_reducible first | exact HB.out | apply below_alloc | apply pw_below_drewN | apply below_drew1) | exact HB.out)))); (case aL => have := LMc4.out; omega); intro v257 w5 ho hb hg hat; rw [← Ny256.out] at ho; have n0_ := Aside0.mk (hb); have n1_ := Aside0.mk (ho); clear HB; clear HO_3; have HB := n0_; have HO258 := n1_; clear n0_ n1_; clear ho hb hg hat))
            go_roundg k1
            case measure => have := HK1.out; omega
            case rel => exact ⟨(y256), (wrap64 (x4_1 + 1)), (by first | rfl | (simp; done) | (simp [*]; done)), H', ⟨by have := HK1.out; omega⟩, ⟨by (with_reducible repeat (first | apply Kd.R_alloc | apply Kd.R_drewN | apply Kd.R_drew)); exact HO258.out⟩, ⟨by repeat (first | (with_reducible first | exact HB.out | apply below_alloc | apply pw_below_drewN | apply below_drew1) | exact HB.out)⟩⟩
          · rw [if_neg c4] at H
            exact absurd H (by simp)
        · rw [if_neg c3] at H
          exact absurd H (by simp)
      · rw [if_neg c2] at H
        have c2b0 : decide (x4_1 < (l0.length : Int)) = false := decide_eq_false c2
        clear c2
        obtain rfl := Option.some.inj H
        go_wp2
        go_ret
        exact ⟨_, by first | rfl | (simp [errW_none, errW_some] <;> rfl) | (simp [*, errW_none, errW_some] <;> rfl), by (with_reducible repeat (first | apply Kd.R_alloc | apply Kd.R_drewN | apply Kd.R_drew)); exact HO_3.out, by repeat (first | (with_reducible first | exact HB.out | apply below_alloc | apply pw_below_drewN | apply below_drew1) | exact HB.out)⟩

/-! ### halterlaw13_RegionSizes: function 5 -/
mutual
def halterlaw13_RegionSizes.j0 : Nat → List (S49) → Bool → Int → Int → Option (Bool)
  | 0, _, _, _, _ => none
  | k + 1, x5, x27, x260000, x260001 => if x27 = true then ((halterlaw13_sure.f k).bind fun t265 => (some t265)) else (halterlaw13_RegionSizes.l0 k x5 (wrap64 (Int.tmod (IntKind.u64.wrap (x260000)) 60)) (wrap64 ((wrap64 ((wrap64 (Int.tmod (IntKind.u64.wrap (x260000)) 60)) + 1)) + (wrap64 (Int.tmod (IntKind.u64.wrap (x260001)) 9)))) 0 (wrap64 (Int.tmod (IntKind.u64.wrap (x260000)) 60)))
def halterlaw13_RegionSizes.l0 : Nat → List (S49) → Int → Int → Int → Int → Option (Bool)
  | 0, _, _, _, _, _ => none
  | k + 1, x5, x6, x7, x8, x9 => if x9 < x7 then ((region_At.f k x5 x9).bind fun bt266 => (if bt266.2.2.2 = true then (halterlaw13_RegionSizes.l0 k x5 x6 x7 (wrap64 (x8 + 1)) (wrap64 (x9 + 1))) else (halterlaw13_RegionSizes.l0 k x5 x6 x7 x8 (wrap64 (x9 + 1))))) else ((region_Cut.f k x5 x6 x7).bind fun bt271 => ((region_Add.f k bt271.1 x6 x7 1).bind fun bt275 => ((region_Protect.f k x5 x6 x7 5).bind fun bt279 => (if bt271.2.isNone = true then (if bt275.2.isNone = true then (if bt279.2.isNone = true then (if (true != (x8 == (wrap64 (x7 - x6)))) = true then (halterlaw13_RegionSizes.j2 k x5 bt279.1 none true) else ((region_Size.f k bt271.1).bind fun t286 => ((region_Size.f k x5).bind fun t287 => (if t286 = (wrap64 (t287 - x8)) then ((region_Size.f k bt275.1).bind fun t288 => ((region_Size.f k bt271.1).bind fun t289 => (halterlaw13_RegionSizes.j2 k x5 bt279.1 none (t288 != (wrap64 ((wrap64 (t289 + x7)) - x6)))))) else (halterlaw13_RegionSizes.j2 k x5 bt279.1 none true))))) else (if (false != (x8 == (wrap64 (x7 - x6)))) = true then (halterlaw13_RegionSizes.j2 k x5 bt279.1 (some (bt279.2.getD 0)) true) else ((region_Size.f k bt271.1).bind fun t290 => ((region_Size.f k x5).bind fun t291 => (if t290 = (wrap64 (t291 - x8)) then ((region_Size.f k bt275.1).bind fun t292 => ((region_Size.f k bt271.1).bind fun t293 => (halterlaw13_RegionSizes.j2 k x5 bt279.1 (some (bt279.2.getD 0)) (t292 != (wrap64 ((wrap64 (t293 + x7)) - x6)))))) else (halterlaw13_RegionSizes.j2 k x5 bt279.1 (some (bt279.2.getD 0)) true)))))) else (halterlaw13_RegionSizes.j2 k x5 bt279.1 bt279.2 true)) else (halterlaw13_RegionSizes.j2 k x5 bt279.1 bt279.2 true)))))
def halterlaw13_RegionSizes.j2 : Nat → List (S49) → List (S49) → Option Int → Bool → Option (Bool)
  | 0, _, _, _, _ => none
  | k + 1, x5, x16, x17, x114 => if x114 = true then (some false) else (if x17.isNone = true then ((region_Size.f k x16).bind fun t295 => ((region_Size.f k x5).bind fun t296 => (if t295 = t296 then ((halterlaw13_sure.f k).bind fun t297 => (some t297)) else (some false)))) else ((halterlaw13_sure.f k).bind fun t298 => (some t298)))
end
def halterlaw13_RegionSizes.f (k : Nat) (l0 : List (S46)) (a1_0 : Int) (a1_1 : Int) : Option (Bool) := (halterlaw13_giveRegions.f k l0).bind fun t260 => (if (l0.length : Int) > 20 then (halterlaw13_RegionSizes.j0 k t260 true a1_0 a1_1) else ((region_Check.f k t260).bind fun t263 => (if t263.isNone = true then (halterlaw13_RegionSizes.j0 k t260 false a1_0 a1_1) else (halterlaw13_RegionSizes.j0 k t260 true a1_0 a1_1))))
theorem halterlaw13_RegionSizes.mono_l : ∀ k, (∀ y0 y1 y2 y3, LeO (halterlaw13_RegionSizes.j0 k y0 y1 y2 y3) (halterlaw13_RegionSizes.j0 (k + 1) y0 y1 y2 y3)) ∧ (∀ y0 y1 y2 y3 y4, LeO (halterlaw13_RegionSizes.l0 k y0 y1 y2 y3 y4) (halterlaw13_RegionSizes.l0 (k + 1) y0 y1 y2 y3 y4)) ∧ (∀ y0 y1 y2 y3, LeO (halterlaw13_RegionSizes.j2 k y0 y1 y2 y3) (halterlaw13_RegionSizes.j2 (k + 1) y0 y1 y2 y3))
  | 0 => ⟨fun _ _ _ _ r h => by simp [halterlaw13_RegionSizes.j0] at h, fun _ _ _ _ _ r h => by simp [halterlaw13_RegionSizes.l0] at h, fun _ _ _ _ r h => by simp [halterlaw13_RegionSizes.j2] at h⟩
  | k + 1 => by
    obtain ⟨ih0, ih1, ih2⟩ := halterlaw13_RegionSizes.mono_l k
    refine ⟨?_, ?_, ?_⟩
    · intro y0 y1 y2 y3
      unfold halterlaw13_RegionSizes.j0
      repeat' first
      | (with_reducible exact ih0 _ _ _ _)
      | (with_reducible exact ih1 _ _ _ _ _)
      | (with_reducible exact ih2 _ _ _ _)
      | (with_reducible exact halterlaw13_giveRegions.mono _ _)
      | (with_reducible exact halterlaw13_sure.mono _)
      | (with_reducible exact region_Add.mono _ _ _ _ _)
      | (with_reducible exact region_At.mono _ _ _)
      | (with_reducible exact region_Check.mono _ _)
      | (with_reducible exact region_Cut.mono _ _ _ _)
      | (with_reducible exact region_Protect.mono _ _ _ _ _)
      | (with_reducible exact region_Size.mono _ _)
      | (with_reducible exact LeO.refl _)
      | (with_reducible exact LeO.none _)
      | (with_reducible refine LeO.ite ?_ ?_)
      | (with_reducible refine LeO.bind ?_ (fun _ => ?_))
      | exact ih0 _ _ _ _
      | exact ih1 _ _ _ _ _
      | exact ih2 _ _ _ _
      | exact halterlaw13_giveRegions.mono _ _
      | exact halterlaw13_sure.mono _
      | exact region_Add.mono _ _ _ _ _
      | exact region_At.mono _ _ _
      | exact region_Check.mono _ _
      | exact region_Cut.mono _ _ _ _
      | exact region_Protect.mono _ _ _ _ _
      | exact region_Size.mono _ _
      | exact LeO.none _
      | refine LeO.ite ?_ ?_
      | refine LeO.bind ?_ (fun _ => ?_)
    · intro y0 y1 y2 y3 y4
      unfold halterlaw13_RegionSizes.l0
      repeat' first
      | (with_reducible exact ih0 _ _ _ _)
      | (with_reducible exact ih1 _ _ _ _ _)
      | (with_reducible exact ih2 _ _ _ _)
      | (with_reducible exact halterlaw13_giveRegions.mono _ _)
      | (with_reducible exact halterlaw13_sure.mono _)
      | (with_reducible exact region_Add.mono _ _ _ _ _)
      | (with_reducible exact region_At.mono _ _ _)
      | (with_reducible exact region_Check.mono _ _)
      | (with_reducible exact region_Cut.mono _ _ _ _)
      | (with_reducible exact region_Protect.mono _ _ _ _ _)
      | (with_reducible exact region_Size.mono _ _)
      | (with_reducible exact LeO.refl _)
      | (with_reducible exact LeO.none _)
      | (with_reducible refine LeO.ite ?_ ?_)
      | (with_reducible refine LeO.bind ?_ (fun _ => ?_))
      | exact ih0 _ _ _ _
      | exact ih1 _ _ _ _ _
      | exact ih2 _ _ _ _
      | exact halterlaw13_giveRegions.mono _ _
      | exact halterlaw13_sure.mono _
      | exact region_Add.mono _ _ _ _ _
      | exact region_At.mono _ _ _
      | exact region_Check.mono _ _
      | exact region_Cut.mono _ _ _ _
      | exact region_Protect.mono _ _ _ _ _
      | exact region_Size.mono _ _
      | exact LeO.none _
      | refine LeO.ite ?_ ?_
      | refine LeO.bind ?_ (fun _ => ?_)
    · intro y0 y1 y2 y3
      unfold halterlaw13_RegionSizes.j2
      repeat' first
      | (with_reducible exact ih0 _ _ _ _)
      | (with_reducible exact ih1 _ _ _ _ _)
      | (with_reducible exact ih2 _ _ _ _)
      | (with_reducible exact halterlaw13_giveRegions.mono _ _)
      | (with_reducible exact halterlaw13_sure.mono _)
      | (with_reducible exact region_Add.mono _ _ _ _ _)
      | (with_reducible exact region_At.mono _ _ _)
      | (with_reducible exact region_Check.mono _ _)
      | (with_reducible exact region_Cut.mono _ _ _ _)
      | (with_reducible exact region_Protect.mono _ _ _ _ _)
      | (with_reducible exact region_Size.mono _ _)
      | (with_reducible exact LeO.refl _)
      | (with_reducible exact LeO.none _)
      | (with_reducible refine LeO.ite ?_ ?_)
      | (with_reducible refine LeO.bind ?_ (fun _ => ?_))
      | exact ih0 _ _ _ _
      | exact ih1 _ _ _ _ _
      | exact ih2 _ _ _ _
      | exact halterlaw13_giveRegions.mono _ _
      | exact halterlaw13_sure.mono _
      | exact region_Add.mono _ _ _ _ _
      | exact region_At.mono _ _ _
      | exact region_Check.mono _ _
      | exact region_Cut.mono _ _ _ _
      | exact region_Protect.mono _ _ _ _ _
      | exact region_Size.mono _ _
      | exact LeO.none _
      | refine LeO.ite ?_ ?_
      | refine LeO.bind ?_ (fun _ => ?_)
theorem halterlaw13_RegionSizes.mono : ∀ a0 a1 a2 k, LeO (halterlaw13_RegionSizes.f k a0 a1 a2) (halterlaw13_RegionSizes.f (k + 1) a0 a1 a2) := by
  intro a0 a1 a2 k
  obtain ⟨ih0, ih1, ih2⟩ := halterlaw13_RegionSizes.mono_l k
  unfold halterlaw13_RegionSizes.f
  repeat' first
      | (with_reducible exact ih0 _ _ _ _)
      | (with_reducible exact ih1 _ _ _ _ _)
      | (with_reducible exact ih2 _ _ _ _)
      | (with_reducible exact halterlaw13_giveRegions.mono _ _)
      | (with_reducible exact halterlaw13_sure.mono _)
      | (with_reducible exact region_Add.mono _ _ _ _ _)
      | (with_reducible exact region_At.mono _ _ _)
      | (with_reducible exact region_Check.mono _ _)
      | (with_reducible exact region_Cut.mono _ _ _ _)
      | (with_reducible exact region_Protect.mono _ _ _ _ _)
      | (with_reducible exact region_Size.mono _ _)
      | (with_reducible exact LeO.refl _)
      | (with_reducible exact LeO.none _)
      | (with_reducible refine LeO.ite ?_ ?_)
      | (with_reducible refine LeO.bind ?_ (fun _ => ?_))
      | exact ih0 _ _ _ _
      | exact ih1 _ _ _ _ _
      | exact ih2 _ _ _ _
      | exact halterlaw13_giveRegions.mono _ _
      | exact halterlaw13_sure.mono _
      | exact region_Add.mono _ _ _ _ _
      | exact region_At.mono _ _ _
      | exact region_Check.mono _ _
      | exact region_Cut.mono _ _ _ _
      | exact region_Protect.mono _ _ _ _ _
      | exact region_Size.mono _ _
      | exact LeO.none _
      | refine LeO.ite ?_ ?_
      | refine LeO.bind ?_ (fun _ => ?_)
set_option maxHeartbeats 8000000 in
set_option maxRecDepth 100000 in
theorem halterlaw13_RegionSizes.calls (k : Nat) (A0 : Option Addr) (c0 : Nat) (l0 : List (S46)) (a1_0 : Int) (a1_1 : Int) (r : Bool) (w : World) (hr0 : Kd.C k46 w A0 l0.length l0) (hc0 : l0.length ≤ c0) (h : halterlaw13_RegionSizes.f k l0 a1_0 a1_1 = some r) :
    Calls Try.prog 5 #[.slice A0 l0.length c0, .agg #[.int .i64 a1_0, .int .i64 a1_1]] w fun e w' => e = .returned (.bool r) ∧ Below w.heap.size w w' := by
  have hu59 := Try.underlying59
  have hu49 := Try.underlying49
  have hu26 := Try.underlying26
  have hu63 := Try.underlying63
  have HR0 := Aside0.mk hr0
  have HC0 := Aside0.mk hc0
  clear hr0 hc0
  have HB := Aside0.mk (Below.refl w.heap.size w)
  have H : ((halterlaw13_giveRegions.f k l0).bind fun t260 => (if (l0.length : Int) > 20 then (halterlaw13_RegionSizes.j0 k t260 true a1_0 a1_1) else ((region_Check.f k t260).bind fun t263 => (if t263.isNone = true then (halterlaw13_RegionSizes.j0 k t260 false a1_0 a1_1) else (halterlaw13_RegionSizes.j0 k t260 true a1_0 a1_1))))) = some r := h
  clear h
  replace H := Option.bind_eq_some_iff.mp H
  obtain ⟨t260, A30, H⟩ := H
  replace H : (if (l0.length : Int) > 20 then (halterlaw13_RegionSizes.j0 k t260 true a1_0 a1_1) else ((region_Check.f k t260).bind fun t263 => (if t263.isNone = true then (halterlaw13_RegionSizes.j0 k t260 false a1_0 a1_1) else (halterlaw13_RegionSizes.j0 k t260 true a1_0 a1_1)))) = some r := H
  have A3 := Aside0.mk A30
  clear A30
  have HC4 := Aside0.mk H
  clear H
  go_enter Try.func5, Try.ntmps5
  go_upto_region 2 with (first | ((with_reducible refine gate_dst (N := 3) rfl ?_); refine box_event ?hg (N := 3) ?hd (cs := #[.int .i64 a1_0, .int .i64 a1_1]) (t := 59) ?hr ?_; (case hd => rfl); (case hg => rfl); (case hr => first | (go_simp; done) | (go_simp; rfl)); intro gb259 hg w5 hbox hb; have n0_ := Aside0.mk (below_step (by repeat (first | (with_reducible first | exact HB.out | apply below_alloc | apply pw_below_drewN | apply below_drew1) | exact HB.out)) hb); have n1_ := Aside0.mk (hbox); have n2_ := Aside0.mk ((by rw [hg]; exact (below_size (by repeat (first | (with_reducible first | exact HB.out | apply below_alloc | apply pw_below_drewN | apply below_drew1) | exact HB.out))) : w.heap.size ≤ gb259)); have n3_ := Aside0.mk ((by rw [hg]; exact (below_size (by repeat (first | (with_reducible first | exact HB.out | apply below_alloc | apply pw_below_drewN | apply below_drew1) | exact HB.out))) : w.heap.size ≤ gb259)); clear HB; have HB := n0_; have BK259 := n1_; have GW259 := n2_; have GE259 := n3_; clear n0_ n1_ n2_ n3_; clear hb hbox hg) | ((with_reducible refine gate_callee (f := 20) rfl ?_); refine goesL_ (some 19) rfl rfl Try.func20 (by kernel_rfl) rfl #[.slice A0 l0.length c0] rfl (by (try simp only [List.map_toArray, List.map_cons, List.map_nil]); first | done | rfl | (simp only [List.length_drop, List.length_take]; rfl)) ?_; (with_reducible refine (halterlaw13_giveRegions.calls k _ _ l0 t260 _ ?side1 ?side2 A3.out).mono ?_); (case side1 => repeat (first | exact (Kd.C_below HR0.out HB.out) | (with_reducible refine Kd.C_alloc ?_ _) | (with_reducible refine Kd.C_drewN ?_ _) | (with_reducible refine Kd.C_drew ?_))); (case side2 => exact HC0.out); rintro e w6 ⟨v261, rfl, ho0, hb⟩; refine ⟨_, rfl, ?_⟩; have n0_ := Aside0.mk (Kd.R_lower ho0 (below_size (by repeat (first | (with_reducible first | exact HB.out | apply below_alloc | apply pw_below_drewN | apply below_drew1 | refine below_set ?_ GE259.out) | exact HB.out)))); have n1_ := Aside0.mk (blk_below (g := gb259) (o := .cells #[.int .i64 a1_0, .int .i64 a1_1] 59 (0, 0)) (by (with_reducible repeat (first | refine blk_drewN ?_ _ | refine blk_drew ?_ | refine blk_alloc ?_ _)); exact BK259.out) hb); have n2_ := Aside0.mk (below_step (by repeat (first | (with_reducible first | exact HB.out | apply below_alloc | apply pw_below_drewN | apply below_drew1 | refine below_set ?_ GE259.out) | exact HB.out)) hb); clear BK259; clear HB; have HO262 := n0_; have BK259 := n1_; have HB := n2_; clear n0_ n1_ n2_; (try clear hb); (try clear hb2); (try clear hk); (try clear hi); (try clear ho0)))
  (try simp only [Act.put, List.setIfInBounds_toArray, List.set_cons_zero, List.set_cons_succ])
  go_cut [27] (fun v27 wc => ∃ (kq : Nat) (x27_3 : Bool), v27 = .bool x27_3 ∧ Aside0 (halterlaw13_RegionSizes.j0 kq t260 x27_3 a1_0 a1_1 = some r) ∧ Aside0 (kq ≤ k) ∧ Aside0 (Kd.R k49 49 wc w.heap.size (fun _ => True) v261 t260) ∧ Aside0 (wc.heap[gb259]? = some (.cells #[.int .i64 a1_0, .int .i64 a1_1] 59 (0, 0))) ∧ Aside0 (Below w.heap.size w wc))
  case first =>
    have H := HC4.out
    clear HC4
    by_cases c7 : (l0.length : Int) > 20
    · rw [if_pos c7] at H
      have c7b0 : decide (20 < (l0.length : Int)) = true := decide_eq_true c7
      have c7b1 : decide (20 < l0.length) = true := decide_eq_true (by omega)
      clear c7
      (first | rw [c7b0] | (simp only [i64_w, i32_w]; rw [c7b0]) | skip)
      have H' := Aside0.mk H
      clear H
      go_wp2
      go_meet
      case rel => exact ⟨_, (true), (by first | rfl | (simp; done) | (simp [*]; done)), H', ⟨by first | omega | exact Nat.le_refl _⟩, ⟨by (with_reducible repeat (first | apply Kd.R_alloc | apply Kd.R_drewN | apply Kd.R_drew)); exact HO262.out⟩, ⟨by (with_reducible repeat (first | refine blk_drewN ?_ _ | refine blk_drew ?_ | refine blk_alloc ?_ _)); exact BK259.out⟩, ⟨by repeat (first | (with_reducible first | exact HB.out | apply below_alloc | apply pw_below_drewN | apply below_drew1 | refine below_set ?_ GE259.out) | exact HB.out)⟩⟩
    · rw [if_neg c7] at H
      have c7b0 : decide (20 < (l0.length : Int)) = false := decide_eq_false c7
      have c7b1 : decide (20 < l0.length) = false := decide_eq_false (by omega)
      clear c7
      (first | rw [c7b0] | (simp only [i64_w, i32_w]; rw [c7b0]) | skip)
      replace H := Option.bind_eq_some_iff.mp H
      obtain ⟨t263, A80, H⟩ := H
      replace H : (if t263.isNone = true then (halterlaw13_RegionSizes.j0 k t260 false a1_0 a1_1) else (halterlaw13_RegionSizes.j0 k t260 true a1_0 a1_1)) = some r := H
      have A8 := Aside0.mk A80
      clear A80
      rcases t263 with _ | q264
      · have H1 : (halterlaw13_RegionSizes.j0 k t260 false a1_0 a1_1) = some r := by rw [if_pos (show (none : Option Int).isNone = true by rfl)] at H; exact H
        clear H
        have H := H1
        clear H1
        try simp only [errW_none, errW_some]
        have H' := Aside0.mk H
        clear H
        obtain ⟨Ao9, co9, eo9⟩ := Kd.R_slice HO262.out
        subst eo9
        go_wp2_with (first | (go_at_call 18; (with_reducible refine (region_Check.calls k _ _ t260 none _ ?side1 ?side2 A8.out).mono ?_); (case side1 => repeat (first | exact (Kd.R_reads' HO262.out).2.2 | (with_reducible refine Kd.C_alloc ?_ _) | (with_reducible refine Kd.C_drewN ?_ _) | (with_reducible refine Kd.C_drew ?_))); (case side2 => exact (Kd.R_reads' HO262.out).2.1); rintro e w10 ⟨rfl, hb⟩; have n0_ := Aside0.mk (Kd.R_below (by (with_reducible repeat (first | apply Kd.R_alloc | apply Kd.R_drewN | apply Kd.R_drew)); exact HO262.out) hb); have n1_ := Aside0.mk (blk_below (g := gb259) (o := .cells #[.int .i64 a1_0, .int .i64 a1_1] 59 (0, 0)) (by (with_reducible repeat (first | refine blk_drewN ?_ _ | refine blk_drew ?_ | refine blk_alloc ?_ _)); exact BK259.out) hb); have n2_ := Aside0.mk (below_step (by repeat (first | (with_reducible first | exact HB.out | apply below_alloc | apply pw_below_drewN | apply below_drew1 | refine below_set ?_ GE259.out) | exact HB.out)) hb); clear HO262; clear BK259; clear HB; have HO262 := n0_; have BK259 := n1_; have HB := n2_; clear n0_ n1_ n2_; (try clear hb); (try clear hb2); (try clear hk); (try clear hi); (try simp only [errW_none, errW_some])))
        go_meet
        case rel => exact ⟨_, (false), (by first | rfl | (simp; done) | (simp [*]; done)), H', ⟨by first | omega | exact Nat.le_refl _⟩, ⟨by (with_reducible repeat (first | apply Kd.R_alloc | apply Kd.R_drewN | apply Kd.R_drew)); exact HO262.out⟩, ⟨by (with_reducible repeat (first | refine blk_drewN ?_ _ | refine blk_drew ?_ | refine blk_alloc ?_ _)); exact BK259.out⟩, ⟨by repeat (first | (with_reducible first | exact HB.out | apply below_alloc | apply pw_below_drewN | apply below_drew1 | refine below_set ?_ GE259.out) | exact HB.out)⟩⟩
      · have H1 : (halterlaw13_RegionSizes.j0 k t260 true a1_0 a1_1) = some r := by rw [if_neg (show ¬ (some q264).isNone = true by simp)] at H; exact H
        clear H
        have H := H1
        clear H1
        try simp only [errW_none, errW_some]
        have H' := Aside0.mk H
        clear H
        obtain ⟨Ao11, co11, eo11⟩ := Kd.R_slice HO262.out
        subst eo11
        go_wp2_with (first | (go_at_call 18; (with_reducible refine (region_Check.calls k _ _ t260 (some q264) _ ?side1 ?side2 A8.out).mono ?_); (case side1 => repeat (first | exact (Kd.R_reads' HO262.out).2.2 | (with_reducible refine Kd.C_alloc ?_ _) | (with_reducible refine Kd.C_drewN ?_ _) | (with_reducible refine Kd.C_drew ?_))); (case side2 => exact (Kd.R_reads' HO262.out).2.1); rintro e w12 ⟨rfl, hb⟩; have n0_ := Aside0.mk (Kd.R_below (by (with_reducible repeat (first | apply Kd.R_alloc | apply Kd.R_drewN | apply Kd.R_drew)); exact HO262.out) hb); have n1_ := Aside0.mk (blk_below (g := gb259) (o := .cells #[.int .i64 a1_0, .int .i64 a1_1] 59 (0, 0)) (by (with_reducible repeat (first | refine blk_drewN ?_ _ | refine blk_drew ?_ | refine blk_alloc ?_ _)); exact BK259.out) hb); have n2_ := Aside0.mk (below_step (by repeat (first | (with_reducible first | exact HB.out | apply below_alloc | apply pw_below_drewN | apply below_drew1 | refine below_set ?_ GE259.out) | exact HB.out)) hb); clear HO262; clear BK259; clear HB; have HO262 := n0_; have BK259 := n1_; have HB := n2_; clear n0_ n1_ n2_; (try clear hb); (try clear hb2); (try clear hk); (try clear hi); (try simp only [errW_none, errW_some])))
        go_meet
        case rel => exact ⟨_, (true), (by first | rfl | (simp; done) | (simp [*]; done)), H', ⟨by first | omega | exact Nat.le_refl _⟩, ⟨by (with_reducible repeat (first | apply Kd.R_alloc | apply Kd.R_drewN | apply Kd.R_drew)); exact HO262.out⟩, ⟨by (with_reducible repeat (first | refine blk_drewN ?_ _ | refine blk_drew ?_ | refine blk_alloc ?_ _)); exact BK259.out⟩, ⟨by repeat (first | (with_reducible first | exact HB.out | apply below_alloc | apply pw_below_drewN | apply below_drew1 | refine below_set ?_ GE259.out) | exact HB.out)⟩⟩
  case rest =>
    clear HC4
    try clear c2
    try clear p2
    try clear q2
    try clear c5
    try clear c7
    try clear c7b0
    try clear c7b1
    try clear q264
    obtain ⟨kq, x27_3, rfl, HA, HJ3, HO_5, BK259, HB⟩ := hcut
    cases kq with
    | zero => exact absurd HA.out (by simp [halterlaw13_RegionSizes.j0])
    | succ kj3 =>
      have H := HA.out
      clear HA
      simp only [halterlaw13_RegionSizes.j0] at H
      by_cases c13 : x27_3 = true
      · subst c13
        have H1 : ((halterlaw13_sure.f kj3).bind fun t265 => (some t265)) = some r := by rw [if_pos rfl] at H; exact H
        clear H
        have H := H1
        clear H1
        replace H := Option.bind_eq_some_iff.mp H
        obtain ⟨t265, A140, H⟩ := H
        replace H : (some t265) = some r := H
        have A14 := Aside0.mk A140
        clear A140
        obtain rfl := Option.some.inj H
        go_wp2_with (first | ((with_reducible refine gate_callee (f := 19) rfl ?_); refine goesL_ (some 28) rfl rfl Try.func19 (by kernel_rfl) rfl #[] rfl (by (try simp only [List.map_toArray, List.map_cons, List.map_nil]); first | done | rfl | (simp only [List.length_drop, List.length_take]; rfl)) ?_; (with_reducible refine (halterlaw13_sure.calls kj3  t265 _ A14.out).mono ?_); rintro e w15 ⟨rfl, hb⟩; refine ⟨_, rfl, ?_⟩; have n0_ := Aside0.mk (Kd.R_below (by (with_reducible repeat (first | apply Kd.R_alloc | apply Kd.R_drewN | apply Kd.R_drew)); exact HO_5.out) hb); have n1_ := Aside0.mk (blk_below (g := gb259) (o := .cells #[.int .i64 a1_0, .int .i64 a1_1] 59 (0, 0)) (by (with_reducible repeat (first | refine blk_drewN ?_ _ | refine blk_drew ?_ | refine blk_alloc ?_ _)); exact BK259.out) hb); have n2_ := Aside0.mk (below_step (by repeat (first | (with_reducible first | exact HB.out | apply below_alloc | apply pw_below_drewN | apply below_drew1 | refine below_set ?_ GE259.out) | exact HB.out)) hb); clear HO_5; clear BK259; clear HB; have HO_5 := n0_; have BK259 := n1_; have HB := n2_; clear n0_ n1_ n2_; (try clear hb); (try clear hb2); (try clear hk); (try clear hi)))
        go_ret
        exact ⟨by first | rfl | (simp [errW_none, errW_some] <;> rfl) | (simp [*, errW_none, errW_some] <;> rfl), by repeat (first | (with_reducible first | exact HB.out | apply below_alloc | apply pw_below_drewN | apply below_drew1 | refine below_set ?_ GE259.out) | exact HB.out)⟩
      · replace c13 := Bool.eq_false_iff.mpr c13
        subst c13
        have H1 : (halterlaw13_RegionSizes.l0 kj3 t260 (wrap64 (Int.tmod (IntKind.u64.wrap (a1_0)) 60)) (wrap64 ((wrap64 ((wrap64 (Int.tmod (IntKind.u64.wrap (a1_0)) 60)) + 1)) + (wrap64 (Int.tmod (IntKind.u64.wrap (a1_1)) 9)))) 0 (wrap64 (Int.tmod (IntKind.u64.wrap (a1_0)) 60))) = some r := by rw [if_neg (show ¬ (false = true) by decide)] at H; exact H
        clear H
        have H := H1
        clear H1
        have H' := Aside0.mk H
        clear H
        have hcz16_0 : wc.cell? ⟨gb259, 0, none⟩ = some (.int .i64 a1_0) := (blk_cell BK259.out 0).trans rfl
        have hcz16_1 : wc.cell? ⟨gb259, 1, none⟩ = some (.int .i64 a1_1) := (blk_cell BK259.out 1).trans rfl
        have hfz16_0 := blk_frozen BK259.out 0
        have hfz16_1 := blk_frozen BK259.out 1
        go_wp2
        go_loopg [8, 9] kj3 (fun kq v8 v9 w' => ∃ (x8_2 : Int) (x9_2 : Int), v8 = .int .i64 x8_2 ∧ v9 = .int .i64 x9_2 ∧ Aside0 (halterlaw13_RegionSizes.l0 kq t260 (wrap64 (Int.tmod (IntKind.u64.wrap (a1_0)) 60)) (wrap64 ((wrap64 ((wrap64 (Int.tmod (IntKind.u64.wrap (a1_0)) 60)) + 1)) + (wrap64 (Int.tmod (IntKind.u64.wrap (a1_1)) 9)))) x8_2 x9_2 = some r) ∧ Aside0 (kq ≤ kj3) ∧ Aside0 (Kd.R k49 49 w' w.heap.size (fun _ => True) v261 t260) ∧ Aside0 (w'.heap[gb259]? = some (.cells #[.int .i64 a1_0, .int .i64 a1_1] 59 (0, 0))) ∧ Aside0 (Below w.heap.size w w'))
        case atStart => exact ⟨(0), (wrap64 (Int.tmod (IntKind.u64.wrap (a1_0)) 60)), (by first | rfl | (simp; done) | (simp [*]; done)), (by first | rfl | (simp; done) | (simp [*]; done)), H', ⟨Nat.le_refl _⟩, ⟨by (with_reducible repeat (first | apply Kd.R_alloc | apply Kd.R_drewN | apply Kd.R_drew)); exact HO_5.out⟩, ⟨by (with_reducible repeat (first | refine blk_drewN ?_ _ | refine blk_drew ?_ | refine blk_alloc ?_ _)); exact BK259.out⟩, ⟨by repeat (first | (with_reducible first | exact HB.out | apply below_alloc | apply pw_below_drewN | apply below_drew1 | refine below_set ?_ GE259.out) | exact HB.out)⟩⟩
        case round =>
          clear H'
          try clear c1
          try clear c2
          try clear p2
          try clear q2
          try clear c5
          try clear p6
          try clear c7
          try clear c7b0
          try clear c7b1
          try clear c13
          try clear hcz16_0
          try clear hcz16_1
          try clear hfz16_0
          try clear hfz16_1
          try clear p2
          try clear q2
          try clear q264
          obtain ⟨x8_2, x9_2, rfl, rfl, HA, HK2, HO_5, BK259, HB⟩ := hrel
          cases gk with
          | zero => exact absurd HA.out (by simp [halterlaw13_RegionSizes.l0])
          | succ k2 =>
            have H := HA.out
            clear HA
            simp only [halterlaw13_RegionSizes.l0] at H
            by_cases c17 : x9_2 < (wrap64 ((wrap64 ((wrap64 (Int.tmod (IntKind.u64.wrap (a1_0)) 60)) + 1)) + (wrap64 (Int.tmod (IntKind.u64.wrap (a1_1)) 9))))
            · rw [if_pos c17] at H
              have c17b0 : decide (x9_2 < (wrap64 ((wrap64 ((wrap64 (Int.tmod (IntKind.u64.wrap (a1_0)) 60)) + 1)) + (wrap64 (Int.tmod (IntKind.u64.wrap (a1_1)) 9))))) = true := decide_eq_true c17
              clear c17
              replace H := Option.bind_eq_some_iff.mp H
              obtain ⟨⟨t266, t267, t268, t269⟩, A180, H⟩ := H
              replace H : (if t269 = true then (halterlaw13_RegionSizes.l0 k2 t260 (wrap64 (Int.tmod (IntKind.u64.wrap (a1_0)) 60)) (wrap64 ((wrap64 ((wrap64 (Int.tmod (IntKind.u64.wrap (a1_0)) 60)) + 1)) + (wrap64 (Int.tmod (IntKind.u64.wrap (a1_1)) 9)))) (wrap64 (x8_2 + 1)) (wrap64 (x9_2 + 1))) else (halterlaw13_RegionSizes.l0 k2 t260 (wrap64 (Int.tmod (IntKind.u64.wrap (a1_0)) 60)) (wrap64 ((wrap64 ((wrap64 (Int.tmod (IntKind.u64.wrap (a1_0)) 60)) + 1)) + (wrap64 (Int.tmod (IntKind.u64.wrap (a1_1)) 9)))) x8_2 (wrap64 (x9_2 + 1)))) = some r := H
              have A18 := Aside0.mk A180
              clear A180
              by_cases c19 : t269 = true
              · subst c19
                have H1 : (halterlaw13_RegionSizes.l0 k2 t260 (wrap64 (Int.tmod (IntKind.u64.wrap (a1_0)) 60)) (wrap64 ((wrap64 ((wrap64 (Int.tmod (IntKind.u64.wrap (a1_0)) 60)) + 1)) + (wrap64 (Int.tmod (IntKind.u64.wrap (a1_1)) 9)))) (wrap64 (x8_2 + 1)) (wrap64 (x9_2 + 1))) = some r := by rw [if_pos rfl] at H; exact H
                clear H
                have H := H1
                clear H1
                have H' := Aside0.mk H
                clear H
                obtain ⟨Ao20, co20, eo20⟩ := Kd.R_slice HO_5.out
                subst eo20
                go_wp2_with (first | ((with_reducible refine gate_callee (f := 17) rfl ?_); refine goesL_ (some 51) rfl rfl Try.func17 (by kernel_rfl) rfl #[.slice Ao20 t260.length co20, .int .i64 x9_2] rfl (by (try simp only [List.map_toArray, List.map_cons, List.map_nil]); first | done | rfl | (simp only [List.length_drop, List.length_take]; rfl)) ?_; (with_reducible refine (region_At.calls k2 _ _ t260 x9_2 t266 t267 t268 true _ ?side1 ?side2 A18.out).mono ?_); (case side1 => repeat (first | exact (Kd.R_reads' HO_5.out).2.2 | (with_reducible refine Kd.C_alloc ?_ _) | (with_reducible refine Kd.C_drewN ?_ _) | (with_reducible refine Kd.C_drew ?_))); (case side2 => exact (Kd.R_reads' HO_5.out).2.1); rintro e w21 ⟨rfl, hb⟩; refine ⟨_, rfl, ?_⟩; have n0_ := Aside0.mk (Kd.R_below (by (with_reducible repeat (first | apply Kd.R_alloc | apply Kd.R_drewN | apply Kd.R_drew)); exact HO_5.out) hb); have n1_ := Aside0.mk (blk_below (g := gb259) (o := .cells #[.int .i64 a1_0, .int .i64 a1_1] 59 (0, 0)) (by (with_reducible repeat (first | refine blk_drewN ?_ _ | refine blk_drew ?_ | refine blk_alloc ?_ _)); exact BK259.out) hb); have n2_ := Aside0.mk (below_step (by repeat (first | (with_reducible first | exact HB.out | apply below_alloc | apply pw_below_drewN | apply below_drew1 | refine below_set ?_ GE259.out) | exact HB.out)) hb); clear HO_5; clear BK259; clear HB; have HO_5 := n0_; have BK259 := n1_; have HB := n2_; clear n0_ n1_ n2_; (try clear hb); (try clear hb2); (try clear hk); (try clear hi)) | ((with_reducible refine gate_dst (N := 10) rfl ?_); refine box_event ?hg (N := 10) ?hd (cs := #[.int .i64 0, .int .i64 0, .int .u8 0]) (t := 49) ?hr ?_; (case hd => rfl); (case hg => rfl); (case hr => first | (go_simp; done) | (go_simp; rfl)); intro gb270 hg w22 hbox hb; have n0_ := Aside0.mk (Kd.R_below (Kd.R_elderB (by (with_reducible repeat (first | apply Kd.R_alloc | apply Kd.R_drewN | apply Kd.R_drew)); exact HO_5.out) gb270 (Nat.le_of_eq hg.symm)) hb); have n1_ := Aside0.mk (blk_below (g := gb259) (o := .cells #[.int .i64 a1_0, .int .i64 a1_1] 59 (0, 0)) (by (with_reducible repeat (first | refine blk_drewN ?_ _ | refine blk_drew ?_ | refine blk_alloc ?_ _)); exact BK259.out) hb); have n2_ := Aside0.mk (below_step (by repeat (first | (with_reducible first | exact HB.out | apply below_alloc | apply pw_below_drewN | apply below_drew1 | refine below_set ?_ GE259.out) | exact HB.out)) hb); have n3_ := Aside0.mk (hbox); have n4_ := Aside0.mk ((by rw [hg]; exact (below_size (by repeat (first | (with_reducible first | exact HB.out | apply below_alloc | apply pw_below_drewN | apply below_drew1 | refine below_set ?_ GE259.out) | exact HB.out))) : w.heap.size ≤ gb270)); have n5_ := Aside0.mk ((by rw [hg]; exact (below_size (by repeat (first | (with_reducible first | exact HB.out | apply below_alloc | apply pw_below_drewN | apply below_drew1 | refine below_set ?_ GE259.out) | exact HB.out))) : w.heap.size ≤ gb270)); have n6_ := Aside0.mk ((by rw [hg]; exact Nat.ne_of_lt (blk_lt (g := gb259) (o := .cells #[.int .i64 a1_0, .int .i64 a1_1] 59 (0, 0)) (by (with_reducible repeat (first | refine blk_drewN ?_ _ | refine blk_drew ?_ | refine blk_alloc ?_ _)); exact BK259.out)) : gb259 ≠ gb270)); have n7_ := Aside0.mk ((by rw [hg]; exact Nat.ne_of_gt (blk_lt (g := gb259) (o := .cells #[.int .i64 a1_0, .int .i64 a1_1] 59 (0, 0)) (by (with_reducible repeat (first | refine blk_drewN ?_ _ | refine blk_drew ?_ | refine blk_alloc ?_ _)); exact BK259.out)) : gb270 ≠ gb259)); clear HO_5; clear BK259; clear HB; have HO_5 := n0_; have BK259 := n1_; have HB := n2_; have BK270 := n3_; have GW270 := n4_; have GE270 := n5_; have NB259_270 := n6_; have NB270_259 := n7_; clear n0_ n1_ n2_ n3_ n4_ n5_ n6_ n7_; clear hb hbox hg; have hnb23 := NB270_259.out; have hnc23 := NB259_270.out; have hcz24_0 : w22.cell? ⟨gb270, 0, none⟩ = some (.int .i64 0) := (blk_cell BK270.out 0).trans rfl; have hcz24_1 : w22.cell? ⟨gb270, 1, none⟩ = some (.int .i64 0) := (blk_cell BK270.out 1).trans rfl; have hcz24_2 : w22.cell? ⟨gb270, 2, none⟩ = some (.int .u8 0) := (blk_cell BK270.out 2).trans rfl; have hfz24_0 := blk_frozen BK270.out 0; have hfz24_1 := blk_frozen BK270.out 1; have hfz24_2 := blk_frozen BK270.out 2))
                go_roundg k2
                case measure => have := HJ3.out; have := HK2.out; omega
                case rel => exact ⟨(wrap64 (x8_2 + 1)), (wrap64 (x9_2 + 1)), (by first | rfl | (simp; done) | (simp [*]; done)), (by first | rfl | (simp; done) | (simp [*]; done)), H', ⟨by have := HJ3.out; have := HK2.out; omega⟩, ⟨by (with_reducible repeat (first | apply Kd.R_alloc | apply Kd.R_drewN | apply Kd.R_drew)); exact Kd.R_mono (Kd.R_far (p := ⟨gb270, 2, none⟩) (Kd.R_far (p := ⟨gb270, 1, none⟩) (Kd.R_far (p := ⟨gb270, 0, none⟩) (Kd.R_mono HO_5.out (fun k_ hk => (⟨hk, hk.2⟩ : _ ∧ k_ ≠ gb270))) (fun _ hk => hk.2) (.int .i64 t266)) (fun _ hk => hk.2) (.int .i64 t267)) (fun _ hk => hk.2) (.int .u8 t268)) (fun _ hk => trivial)⟩, ⟨by (with_reducible repeat (first | refine blk_drewN ?_ _ | refine blk_drew ?_ | refine blk_alloc ?_ _)); refine blk_far ?_ NB259_270.out _; (with_reducible repeat (first | refine blk_drewN ?_ _ | refine blk_drew ?_ | refine blk_alloc ?_ _)); refine blk_far ?_ NB259_270.out _; (with_reducible repeat (first | refine blk_drewN ?_ _ | refine blk_drew ?_ | refine blk_alloc ?_ _)); refine blk_far ?_ NB259_270.out _; (with_reducible repeat (first | refine blk_drewN ?_ _ | refine blk_drew ?_ | refine blk_alloc ?_ _)); exact BK259.out⟩, ⟨by repeat (first | (with_reducible first | exact HB.out | apply below_alloc | apply pw_below_drewN | apply below_drew1 | refine below_set ?_ GE259.out | refine below_set ?_ GE270.out) | exact HB.out)⟩⟩
              · replace c19 := Bool.eq_false_iff.mpr c19
                subst c19
                have H1 : (halterlaw13_RegionSizes.l0 k2 t260 (wrap64 (Int.tmod (IntKind.u64.wrap (a1_0)) 60)) (wrap64 ((wrap64 ((wrap64 (Int.tmod (IntKind.u64.wrap (a1_0)) 60)) + 1)) + (wrap64 (Int.tmod (IntKind.u64.wrap (a1_1)) 9)))) x8_2 (wrap64 (x9_2 + 1))) = some r := by rw [if_neg (show ¬ (false = true) by decide)] at H; exact H
                clear H
                have H := H1
                clear H1
                have H' := Aside0.mk H
                clear H
                obtain ⟨Ao25, co25, eo25⟩ := Kd.R_slice HO_5.out
                subst eo25
                go_wp2_with (first | ((with_reducible refine gate_callee (f := 17) rfl ?_); refine goesL_ (some 51) rfl rfl Try.func17 (by kernel_rfl) rfl #[.slice Ao25 t260.length co25, .int .i64 x9_2] rfl (by (try simp only [List.map_toArray, List.map_cons, List.map_nil]); first | done | rfl | (simp only [List.length_drop, List.length_take]; rfl)) ?_; (with_reducible refine (region_At.calls k2 _ _ t260 x9_2 t266 t267 t268 false _ ?side1 ?side2 A18.out).mono ?_); (case side1 => repeat (first | exact (Kd.R_reads' HO_5.out).2.2 | (with_reducible refine Kd.C_alloc ?_ _) | (with_reducible refine Kd.C_drewN ?_ _) | (with_reducible refine Kd.C_drew ?_))); (case side2 => exact (Kd.R_reads' HO_5.out).2.1); rintro e w26 ⟨rfl, hb⟩; refine ⟨_, rfl, ?_⟩; have n0_ := Aside0.mk (Kd.R_below (by (with_reducible repeat (first | apply Kd.R_alloc | apply Kd.R_drewN | apply Kd.R_drew)); exact HO_5.out) hb); have n1_ := Aside0.mk (blk_below (g := gb259) (o := .cells #[.int .i64 a1_0, .int .i64 a1_1] 59 (0, 0)) (by (with_reducible repeat (first | refine blk_drewN ?_ _ | refine blk_drew ?_ | refine blk_alloc ?_ _)); exact BK259.out) hb); have n2_ := Aside0.mk (below_step (by repeat (first | (with_reducible first | exact HB.out | apply below_alloc | apply pw_below_drewN | apply below_drew1 | refine below_set ?_ GE259.out) | exact HB.out)) hb); clear HO_5; clear BK259; clear HB; have HO_5 := n0_; have BK259 := n1_; have HB := n2_; clear n0_ n1_ n2_; (try clear hb); (try clear hb2); (try clear hk); (try clear hi)) | ((with_reducible refine gate_dst (N := 10) rfl ?_); refine box_event ?hg (N := 10) ?hd (cs := #[.int .i64 0, .int .i64 0, .int .u8 0]) (t := 49) ?hr ?_; (case hd => rfl); (case hg => rfl); (case hr => first | (go_simp; done) | (go_simp; rfl)); intro gb270 hg w27 hbox hb; have n0_ := Aside0.mk (Kd.R_below (Kd.R_elderB (by (with_reducible repeat (first | apply Kd.R_alloc | apply Kd.R_drewN | apply Kd.R_drew)); exact HO_5.out) gb270 (Nat.le_of_eq hg.symm)) hb); have n1_ := Aside0.mk (blk_below (g := gb259) (o := .cells #[.int .i64 a1_0, .int .i64 a1_1] 59 (0, 0)) (by (with_reducible repeat (first | refine blk_drewN ?_ _ | refine blk_drew ?_ | refine blk_alloc ?_ _)); exact BK259.out) hb); have n2_ := Aside0.mk (below_step (by repeat (first | (with_reducible first | exact HB.out | apply below_alloc | apply pw_below_drewN | apply below_drew1 | refine below_set ?_ GE259.out) | exact HB.out)) hb); have n3_ := Aside0.mk (hbox); have n4_ := Aside0.mk ((by rw [hg]; exact (below_size (by repeat (first | (with_reducible first | exact HB.out | apply below_alloc | apply pw_below_drewN | apply below_drew1 | refine below_set ?_ GE259.out) | exact HB.out))) : w.heap.size ≤ gb270)); have n5_ := Aside0.mk ((by rw [hg]; exact (below_size (by repeat (first | (with_reducible first | exact HB.out | apply below_alloc | apply pw_below_drewN | apply below_drew1 | refine below_set ?_ GE259.out) | exact HB.out))) : w.heap.size ≤ gb270)); have n6_ := Aside0.mk ((by rw [hg]; exact Nat.ne_of_lt (blk_lt (g := gb259) (o := .cells #[.int .i64 a1_0, .int .i64 a1_1] 59 (0, 0)) (by (with_reducible repeat (first | refine blk_drewN ?_ _ | refine blk_drew ?_ | refine blk_alloc ?_ _)); exact BK259.out)) : gb259 ≠ gb270)); have n7_ := Aside0.mk ((by rw [hg]; exact Nat.ne_of_gt (blk_lt (g := gb259) (o := .cells #[.int .i64 a1_0, .int .i64 a1_1] 59 (0, 0)) (by (with_reducible repeat (first | refine blk_drewN ?_ _ | refine blk_drew ?_ | refine blk_alloc ?_ _)); exact BK259.out)) : gb270 ≠ gb259)); clear HO_5; clear BK259; clear HB; have HO_5 := n0_; have BK259 := n1_; have HB := n2_; have BK270 := n3_; have GW270 := n4_; have GE270 := n5_; have NB259_270 := n6_; have NB270_259 := n7_; clear n0_ n1_ n2_ n3_ n4_ n5_ n6_ n7_; clear hb hbox hg; have hnb28 := NB270_259.out; have hnc28 := NB259_270.out; have hcz29_0 : w27.cell? ⟨gb270, 0, none⟩ = some (.int .i64 0) := (blk_cell BK270.out 0).trans rfl; have hcz29_1 : w27.cell? ⟨gb270, 1, none⟩ = some (.int .i64 0) := (blk_cell BK270.out 1).trans rfl; have hcz29_2 : w27.cell? ⟨gb270, 2, none⟩ = some (.int .u8 0) := (blk_cell BK270.out 2).trans rfl; have hfz29_0 := blk_frozen BK270.out 0; have hfz29_1 := blk_frozen BK270.out 1; have hfz29_2 := blk_frozen BK270.out 2))
                go_roundg k2
                case measure => have := HJ3.out; have := HK2.out; omega
                case rel => exact ⟨(x8_2), (wrap64 (x9_2 + 1)), (by first | rfl | (simp; done) | (simp [*]; done)), (by first | rfl | (simp; done) | (simp [*]; done)), H', ⟨by have := HJ3.out; have := HK2.out; omega⟩, ⟨by (with_reducible repeat (first | apply Kd.R_alloc | apply Kd.R_drewN | apply Kd.R_drew)); exact Kd.R_mono (Kd.R_far (p := ⟨gb270, 2, none⟩) (Kd.R_far (p := ⟨gb270, 1, none⟩) (Kd.R_far (p := ⟨gb270, 0, none⟩) (Kd.R_mono HO_5.out (fun k_ hk => (⟨hk, hk.2⟩ : _ ∧ k_ ≠ gb270))) (fun _ hk => hk.2) (.int .i64 t266)) (fun _ hk => hk.2) (.int .i64 t267)) (fun _ hk => hk.2) (.int .u8 t268)) (fun _ hk => trivial)⟩, ⟨by (with_reducible repeat (first | refine blk_drewN ?_ _ | refine blk_drew ?_ | refine blk_alloc ?_ _)); refine blk_far ?_ NB259_270.out _; (with_reducible repeat (first | refine blk_drewN ?_ _ | refine blk_drew ?_ | refine blk_alloc ?_ _)); refine blk_far ?_ NB259_270.out _; (with_reducible repeat (first | refine blk_drewN ?_ _ | refine blk_drew ?_ | refine blk_alloc ?_ _)); refine blk_far ?_ NB259_270.out _; (with_reducible repeat (first | refine blk_drewN ?_ _ | refine blk_drew ?_ | refine blk_alloc ?_ _)); exact BK259.out⟩, ⟨by repeat (first | (with_reducible first | exact HB.out | apply below_alloc | apply pw_below_drewN | apply below_drew1 | refine below_set ?_ GE259.out | refine below_set ?_ GE270.out) | exact HB.out)⟩⟩
            · rw [if_neg c17] at H
              have c17b0 : decide (x9_2 < (wrap64 ((wrap64 ((wrap64 (Int.tmod (IntKind.u64.wrap (a1_0)) 60)) + 1)) + (wrap64 (Int.tmod (IntKind.u64.wrap (a1_1)) 9))))) = false := decide_eq_false c17
              clear c17
              replace H := Option.bind_eq_some_iff.mp H
              obtain ⟨⟨t271, t272⟩, A300, H⟩ := H
              replace H : ((region_Add.f k2 t271 (wrap64 (Int.tmod (IntKind.u64.wrap (a1_0)) 60)) (wrap64 ((wrap64 ((wrap64 (Int.tmod (IntKind.u64.wrap (a1_0)) 60)) + 1)) + (wrap64 (Int.tmod (IntKind.u64.wrap (a1_1)) 9)))) 1).bind fun bt275 => ((region_Protect.f k2 t260 (wrap64 (Int.tmod (IntKind.u64.wrap (a1_0)) 60)) (wrap64 ((wrap64 ((wrap64 (Int.tmod (IntKind.u64.wrap (a1_0)) 60)) + 1)) + (wrap64 (Int.tmod (IntKind.u64.wrap (a1_1)) 9)))) 5).bind fun bt279 => (if t272.isNone = true then (if bt275.2.isNone = true then (if bt279.2.isNone = true then (if (true != (x8_2 == (wrap64 ((wrap64 ((wrap64 ((wrap64 (Int.tmod (IntKind.u64.wrap (a1_0)) 60)) + 1)) + (wrap64 (Int.tmod (IntKind.u64.wrap (a1_1)) 9)))) - (wrap64 (Int.tmod (IntKind.u64.wrap (a1_0)) 60)))))) = true then (halterlaw13_RegionSizes.j2 k2 t260 bt279.1 none true) else ((region_Size.f k2 t271).bind fun t286 => ((region_Size.f k2 t260).bind fun t287 => (if t286 = (wrap64 (t287 - x8_2)) then ((region_Size.f k2 bt275.1).bind fun t288 => ((region_Size.f k2 t271).bind fun t289 => (halterlaw13_RegionSizes.j2 k2 t260 bt279.1 none (t288 != (wrap64 ((wrap64 (t289 + (wrap64 ((wrap64 ((wrap64 (Int.tmod (IntKind.u64.wrap (a1_0)) 60)) + 1)) + (wrap64 (Int.tmod (IntKind.u64.wrap (a1_1)) 9)))))) - (wrap64 (Int.tmod (IntKind.u64.wrap (a1_0)) 60)))))))) else (halterlaw13_RegionSizes.j2 k2 t260 bt279.1 none true))))) else (if (false != (x8_2 == (wrap64 ((wrap64 ((wrap64 ((wrap64 (Int.tmod (IntKind.u64.wrap (a1_0)) 60)) + 1)) + (wrap64 (Int.tmod (IntKind.u64.wrap (a1_1)) 9)))) - (wrap64 (Int.tmod (IntKind.u64.wrap (a1_0)) 60)))))) = true then (halterlaw13_RegionSizes.j2 k2 t260 bt279.1 (some (bt279.2.getD 0)) true) else ((region_Size.f k2 t271).bind fun t290 => ((region_Size.f k2 t260).bind fun t291 => (if t290 = (wrap64 (t291 - x8_2)) then ((region_Size.f k2 bt275.1).bind fun t292 => ((region_Size.f k2 t271).bind fun t293 => (halterlaw13_RegionSizes.j2 k2 t260 bt279.1 (some (bt279.2.getD 0)) (t292 != (wrap64 ((wrap64 (t293 + (wrap64 ((wrap64 ((wrap64 (Int.tmod (IntKind.u64.wrap (a1_0)) 60)) + 1)) + (wrap64 (Int.tmod (IntKind.u64.wrap (a1_1)) 9)))))) - (wrap64 (Int.tmod (IntKind.u64.wrap (a1_0)) 60)))))))) else (halterlaw13_RegionSizes.j2 k2 t260 bt279.1 (some (bt279.2.getD 0)) true)))))) else (halterlaw13_RegionSizes.j2 k2 t260 bt279.1 bt279.2 true)) else (halterlaw13_RegionSizes.j2 k2 t260 bt279.1 bt279.2 true)))) = some r := H
              have A30 := Aside0.mk A300
              clear A300
              replace H := Option.bind_eq_some_iff.mp H
              obtain ⟨⟨t275, t278⟩, A310, H⟩ := H
              replace H : ((region_Protect.f k2 t260 (wrap64 (Int.tmod (IntKind.u64.wrap (a1_0)) 60)) (wrap64 ((wrap64 ((wrap64 (Int.tmod (IntKind.u64.wrap (a1_0)) 60)) + 1)) + (wrap64 (Int.tmod (IntKind.u64.wrap (a1_1)) 9)))) 5).bind fun bt279 => (if t272.isNone = true then (if t278.isNone = true then (if bt279.2.isNone = true then (if (true != (x8_2 == (wrap64 ((wrap64 ((wrap64 ((wrap64 (Int.tmod (IntKind.u64.wrap (a1_0)) 60)) + 1)) + (wrap64 (Int.tmod (IntKind.u64.wrap (a1_1)) 9)))) - (wrap64 (Int.tmod (IntKind.u64.wrap (a1_0)) 60)))))) = true then (halterlaw13_RegionSizes.j2 k2 t260 bt279.1 none true) else ((region_Size.f k2 t271).bind fun t286 => ((region_Size.f k2 t260).bind fun t287 => (if t286 = (wrap64 (t287 - x8_2)) then ((region_Size.f k2 t275).bind fun t288 => ((region_Size.f k2 t271).bind fun t289 => (halterlaw13_RegionSizes.j2 k2 t260 bt279.1 none (t288 != (wrap64 ((wrap64 (t289 + (wrap64 ((wrap64 ((wrap64 (Int.tmod (IntKind.u64.wrap (a1_0)) 60)) + 1)) + (wrap64 (Int.tmod (IntKind.u64.wrap (a1_1)) 9)))))) - (wrap64 (Int.tmod (IntKind.u64.wrap (a1_0)) 60)))))))) else (halterlaw13_RegionSizes.j2 k2 t260 bt279.1 none true))))) else (if (false != (x8_2 == (wrap64 ((wrap64 ((wrap64 ((wrap64 (Int.tmod (IntKind.u64.wrap (a1_0)) 60)) + 1)) + (wrap64 (Int.tmod (IntKind.u64.wrap (a1_1)) 9)))) - (wrap64 (Int.tmod (IntKind.u64.wrap (a1_0)) 60)))))) = true then (halterlaw13_RegionSizes.j2 k2 t260 bt279.1 (some (bt279.2.getD 0)) true) else ((region_Size.f k2 t271).bind fun t290 => ((region_Size.f k2 t260).bind fun t291 => (if t290 = (wrap64 (t291 - x8_2)) then ((region_Size.f k2 t275).bind fun t292 => ((region_Size.f k2 t271).bind fun t293 => (halterlaw13_RegionSizes.j2 k2 t260 bt279.1 (some (bt279.2.getD 0)) (t292 != (wrap64 ((wrap64 (t293 + (wrap64 ((wrap64 ((wrap64 (Int.tmod (IntKind.u64.wrap (a1_0)) 60)) + 1)) + (wrap64 (Int.tmod (IntKind.u64.wrap (a1_1)) 9)))))) - (wrap64 (Int.tmod (IntKind.u64.wrap (a1_0)) 60)))))))) else (halterlaw13_RegionSizes.j2 k2 t260 bt279.1 (some (bt279.2.getD 0)) true)))))) else (halterlaw13_RegionSizes.j2 k2 t260 bt279.1 bt279.2 true)) else (halterlaw13_RegionSizes.j2 k2 t260 bt279.1 bt279.2 true))) = some r := H
              have A31 := Aside0.mk A310
              clear A310
              replace H := Option.bind_eq_some_iff.mp H
              obtain ⟨⟨t279, t280⟩, A320, H⟩ := H
              replace H : (if t272.isNone = true then (if t278.isNone = true then (if t280.isNone = true then (if (true != (x8_2 == (wrap64 ((wrap64 ((wrap64 ((wrap64 (Int.tmod (IntKind.u64.wrap (a1_0)) 60)) + 1)) + (wrap64 (Int.tmod (IntKind.u64.wrap (a1_1)) 9)))) - (wrap64 (Int.tmod (IntKind.u64.wrap (a1_0)) 60)))))) = true then (halterlaw13_RegionSizes.j2 k2 t260 t279 none true) else ((region_Size.f k2 t271).bind fun t286 => ((region_Size.f k2 t260).bind fun t287 => (if t286 = (wrap64 (t287 - x8_2)) then ((region_Size.f k2 t275).bind fun t288 => ((region_Size.f k2 t271).bind fun t289 => (halterlaw13_RegionSizes.j2 k2 t260 t279 none (t288 != (wrap64 ((wrap64 (t289 + (wrap64 ((wrap64 ((wrap64 (Int.tmod (IntKind.u64.wrap (a1_0)) 60)) + 1)) + (wrap64 (Int.tmod (IntKind.u64.wrap (a1_1)) 9)))))) - (wrap64 (Int.tmod (IntKind.u64.wrap (a1_0)) 60)))))))) else (halterlaw13_RegionSizes.j2 k2 t260 t279 none true))))) else (if (false != (x8_2 == (wrap64 ((wrap64 ((wrap64 ((wrap64 (Int.tmod (IntKind.u64.wrap (a1_0)) 60)) + 1)) + (wrap64 (Int.tmod (IntKind.u64.wrap (a1_1)) 9)))) - (wrap64 (Int.tmod (IntKind.u64.wrap (a1_0)) 60)))))) = true then (halterlaw13_RegionSizes.j2 k2 t260 t279 (some (t280.getD 0)) true) else ((region_Size.f k2 t271).bind fun t290 => ((region_Size.f k2 t260).bind fun t291 => (if t290 = (wrap64 (t291 - x8_2)) then ((region_Size.f k2 t275).bind fun t292 => ((region_Size.f k2 t271).bind fun t293 => (halterlaw13_RegionSizes.j2 k2 t260 t279 (some (t280.getD 0)) (t292 != (wrap64 ((wrap64 (t293 + (wrap64 ((wrap64 ((wrap64 (Int.tmod (IntKind.u64.wrap (a1_0)) 60)) + 1)) + (wrap64 (Int.tmod (IntKind.u64.wrap (a1_1)) 9)))))) - (wrap64 (Int.tmod (IntKind.u64.wrap (a1_0)) 60)))))))) else (halterlaw13_RegionSizes.j2 k2 t260 t279 (some (t280.getD 0)) true)))))) else (halterlaw13_RegionSizes.j2 k2 t260 t279 t280 true)) else (halterlaw13_RegionSizes.j2 k2 t260 t279 t280 true)) = some r := H
              have A32 := Aside0.mk A320
              clear A320
              have HC33 := Aside0.mk H
              clear H
              obtain ⟨Ao34, co34, eo34⟩ := Kd.R_slice HO_5.out
              subst eo34
              go_upto_region 16 with (first | ((with_reducible refine gate_callee (f := 14) rfl ?_); refine goesL_ (some 61) rfl rfl Try.func14 (by kernel_rfl) rfl #[.slice Ao34 t260.length co34, .int .i64 (wrap64 (Int.tmod (IntKind.u64.wrap (a1_0)) 60)), .int .i64 (wrap64 ((wrap64 ((wrap64 (Int.tmod (IntKind.u64.wrap (a1_0)) 60)) + 1)) + (wrap64 (Int.tmod (IntKind.u64.wrap (a1_1)) 9))))] rfl (by (try simp only [List.map_toArray, List.map_cons, List.map_nil]); first | done | rfl | (simp only [List.length_drop, List.length_take]; rfl)) ?_; (with_reducible refine (region_Cut.calls k2 _ _ t260 (wrap64 (Int.tmod (IntKind.u64.wrap (a1_0)) 60)) (wrap64 ((wrap64 ((wrap64 (Int.tmod (IntKind.u64.wrap (a1_0)) 60)) + 1)) + (wrap64 (Int.tmod (IntKind.u64.wrap (a1_1)) 9)))) t271 t272 _ ?side1 ?side2 A30.out).mono ?_); (case side1 => repeat (first | exact (Kd.R_reads' HO_5.out).2.2 | (with_reducible refine Kd.C_alloc ?_ _) | (with_reducible refine Kd.C_drewN ?_ _) | (with_reducible refine Kd.C_drew ?_))); (case side2 => exact (Kd.R_reads' HO_5.out).2.1); rintro e w35 ⟨v273, rfl, ho0, hb⟩; refine ⟨_, rfl, ?_⟩; have n0_ := Aside0.mk (Kd.R_elder' (by (with_reducible repeat (first | apply Kd.R_alloc | apply Kd.R_drewN | apply Kd.R_drew)); exact HO_5.out) (Kd.R_base ho0) hb); have n1_ := Aside0.mk (Kd.R_lower (Kd.R_new' ho0 (Kd.R_lt (by (with_reducible repeat (first | apply Kd.R_alloc | apply Kd.R_drewN | apply Kd.R_drew)); exact HO_5.out))) (below_size (by repeat (first | (with_reducible first | exact HB.out | apply below_alloc | apply pw_below_drewN | apply below_drew1 | refine below_set ?_ GE259.out) | exact HB.out)))); have n2_ := Aside0.mk (blk_below (g := gb259) (o := .cells #[.int .i64 a1_0, .int .i64 a1_1] 59 (0, 0)) (by (with_reducible repeat (first | refine blk_drewN ?_ _ | refine blk_drew ?_ | refine blk_alloc ?_ _)); exact BK259.out) hb); have n3_ := Aside0.mk (below_step (by repeat (first | (with_reducible first | exact HB.out | apply below_alloc | apply pw_below_drewN | apply below_drew1 | refine below_set ?_ GE259.out) | exact HB.out)) hb); clear HO_5; clear BK259; clear HB; have HO_5 := n0_; have HO274 := n1_; have BK259 := n2_; have HB := n3_; clear n0_ n1_ n2_ n3_; (try clear hb); (try clear hb2); (try clear hk); (try clear hi); (try clear ho0); (try simp only [errW_none, errW_some]); obtain ⟨Ao36, co36, eo36⟩ := Kd.R_slice HO274.out; subst eo36) | ((with_reducible refine gate_callee (f := 16) rfl ?_); refine goesL_ (some 69) rfl rfl Try.func16 (by kernel_rfl) rfl #[.slice Ao36 t271.length co36, .agg #[.int .i64 (wrap64 (Int.tmod (IntKind.u64.wrap (a1_0)) 60)), .int .i64 (wrap64 ((wrap64 ((wrap64 (Int.tmod (IntKind.u64.wrap (a1_0)) 60)) + 1)) + (wrap64 (Int.tmod (IntKind.u64.wrap (a1_1)) 9)))), .int .u8 1]] rfl (by (try simp only [List.map_toArray, List.map_cons, List.map_nil]); first | done | rfl | (simp only [List.length_drop, List.length_take]; rfl)) ?_; (with_reducible refine (region_Add.calls k2 _ _ t271 (wrap64 (Int.tmod (IntKind.u64.wrap (a1_0)) 60)) (wrap64 ((wrap64 ((wrap64 (Int.tmod (IntKind.u64.wrap (a1_0)) 60)) + 1)) + (wrap64 (Int.tmod (IntKind.u64.wrap (a1_1)) 9)))) 1 t275 t278 _ ?side1 ?side2 A31.out).mono ?_); (case side1 => repeat (first | exact (Kd.R_reads' HO274.out).2.2 | (with_reducible refine Kd.C_alloc ?_ _) | (with_reducible refine Kd.C_drewN ?_ _) | (with_reducible refine Kd.C_drew ?_))); (case side2 => exact (Kd.R_reads' HO274.out).2.1); rintro e w37 ⟨v276, rfl, ho0, hb⟩; refine ⟨_, rfl, ?_⟩; have n0_ := Aside0.mk (Kd.R_elder' (by (with_reducible repeat (first | apply Kd.R_alloc | apply Kd.R_drewN | apply Kd.R_drew)); exact HO_5.out) (Kd.R_base ho0) hb); have n1_ := Aside0.mk (Kd.R_elder' (by (with_reducible repeat (first | apply Kd.R_alloc | apply Kd.R_drewN | apply Kd.R_drew)); exact HO274.out) (Kd.R_base ho0) hb); have n2_ := Aside0.mk (Kd.R_lower (Kd.R_new' (Kd.R_new' ho0 (Kd.R_lt (by (with_reducible repeat (first | apply Kd.R_alloc | apply Kd.R_drewN | apply Kd.R_drew)); exact HO_5.out))) (Kd.R_lt (by (with_reducible repeat (first | apply Kd.R_alloc | apply Kd.R_drewN | apply Kd.R_drew)); exact HO274.out))) (below_size (by repeat (first | (with_reducible first | exact HB.out | apply below_alloc | apply pw_below_drewN | apply below_drew1 | refine below_set ?_ GE259.out) | exact HB.out)))); have n3_ := Aside0.mk (blk_below (g := gb259) (o := .cells #[.int .i64 a1_0, .int .i64 a1_1] 59 (0, 0)) (by (with_reducible repeat (first | refine blk_drewN ?_ _ | refine blk_drew ?_ | refine blk_alloc ?_ _)); exact BK259.out) hb); have n4_ := Aside0.mk (below_step (by repeat (first | (with_reducible first | exact HB.out | apply below_alloc | apply pw_below_drewN | apply below_drew1 | refine below_set ?_ GE259.out) | exact HB.out)) hb); clear HO_5; clear HO274; clear BK259; clear HB; have HO_5 := n0_; have HO274 := n1_; have HO277 := n2_; have BK259 := n3_; have HB := n4_; clear n0_ n1_ n2_ n3_ n4_; (try clear hb); (try clear hb2); (try clear hk); (try clear hi); (try clear ho0); (try simp only [errW_none, errW_some])) | ((with_reducible refine gate_callee (f := 15) rfl ?_); refine goesL_ (some 76) rfl rfl Try.func15 (by kernel_rfl) rfl #[.slice Ao34 t260.length co34, .int .i64 (wrap64 (Int.tmod (IntKind.u64.wrap (a1_0)) 60)), .int .i64 (wrap64 ((wrap64 ((wrap64 (Int.tmod (IntKind.u64.wrap (a1_0)) 60)) + 1)) + (wrap64 (Int.tmod (IntKind.u64.wrap (a1_1)) 9)))), .int .u8 5] rfl (by (try simp only [List.map_toArray, List.map_cons, List.map_nil]); first | done | rfl | (simp only [List.length_drop, List.length_take]; rfl)) ?_; (with_reducible refine (region_Protect.calls k2 _ _ t260 (wrap64 (Int.tmod (IntKind.u64.wrap (a1_0)) 60)) (wrap64 ((wrap64 ((wrap64 (Int.tmod (IntKind.u64.wrap (a1_0)) 60)) + 1)) + (wrap64 (Int.tmod (IntKind.u64.wrap (a1_1)) 9)))) 5 t279 t280 _ ?side1 ?side2 A32.out).mono ?_); (case side1 => repeat (first | exact (Kd.R_reads' HO_5.out).2.2 | (with_reducible refine Kd.C_alloc ?_ _) | (with_reducible refine Kd.C_drewN ?_ _) | (with_reducible refine Kd.C_drew ?_))); (case side2 => exact (Kd.R_reads' HO_5.out).2.1); rintro e w38 ⟨v281, rfl, ho0, hb⟩; refine ⟨_, rfl, ?_⟩; have n0_ := Aside0.mk (Kd.R_elder' (by (with_reducible repeat (first | apply Kd.R_alloc | apply Kd.R_drewN | apply Kd.R_drew)); exact HO_5.out) (Kd.R_base ho0) hb); have n1_ := Aside0.mk (Kd.R_elder' (by (with_reducible repeat (first | apply Kd.R_alloc | apply Kd.R_drewN | apply Kd.R_drew)); exact HO274.out) (Kd.R_base ho0) hb); have n2_ := Aside0.mk (Kd.R_elder' (by (with_reducible repeat (first | apply Kd.R_alloc | apply Kd.R_drewN | apply Kd.R_drew)); exact HO277.out) (Kd.R_base ho0) hb); have n3_ := Aside0.mk (Kd.R_lower (Kd.R_new' (Kd.R_new' (Kd.R_new' ho0 (Kd.R_lt (by (with_reducible repeat (first | apply Kd.R_alloc | apply Kd.R_drewN | apply Kd.R_drew)); exact HO_5.out))) (Kd.R_lt (by (with_reducible repeat (first | apply Kd.R_alloc | apply Kd.R_drewN | apply Kd.R_drew)); exact HO274.out))) (Kd.R_lt (by (with_reducible repeat (first | apply Kd.R_alloc | apply Kd.R_drewN | apply Kd.R_drew)); exact HO277.out))) (below_size (by repeat (first | (with_reducible first | exact HB.out | apply below_alloc | apply pw_below_drewN | apply below_drew1 | refine below_set ?_ GE259.out) | exact HB.out)))); have n4_ := Aside0.mk (blk_below (g := gb259) (o := .cells #[.int .i64 a1_0, .int .i64 a1_1] 59 (0, 0)) (by (with_reducible repeat (first | refine blk_drewN ?_ _ | refine blk_drew ?_ | refine blk_alloc ?_ _)); exact BK259.out) hb); have n5_ := Aside0.mk (below_step (by repeat (first | (with_reducible first | exact HB.out | apply below_alloc | apply pw_below_drewN | apply below_drew1 | refine below_set ?_ GE259.out) | exact HB.out)) hb); clear HO_5; clear HO274; clear HO277; clear BK259; clear HB; have HO_5 := n0_; have HO274 := n1_; have HO277 := n2_; have HO282 := n3_; have BK259 := n4_; have HB := n5_; clear n0_ n1_ n2_ n3_ n4_ n5_; (try clear hb); (try clear hb2); (try clear hk); (try clear hi); (try clear ho0); (try simp only [errW_none, errW_some])))
              (try simp only [Act.put, List.setIfInBounds_toArray, List.set_cons_zero, List.set_cons_succ])
              go_cut [114] (fun v114 wc => ∃ (kq : Nat) (x114_32 : Bool), v114 = .bool x114_32 ∧ Aside0 (halterlaw13_RegionSizes.j2 kq t260 t279 t280 x114_32 = some r) ∧ Aside0 (kq ≤ k2) ∧ Aside0 (Kd.R k49 49 wc w.heap.size (fun k_ => some k_ ≠ (v281 : Value).ownBlock) (.slice Ao34 t260.length co34) t260) ∧ Aside0 (Kd.R k49 49 wc w.heap.size (fun k_ => some k_ ≠ ((.slice Ao34 t260.length co34) : Value).ownBlock) v281 t279) ∧ Aside0 (wc.heap[gb259]? = some (.cells #[.int .i64 a1_0, .int .i64 a1_1] 59 (0, 0))) ∧ Aside0 (Below w.heap.size w wc))
              case first =>
                have H := HC33.out
                clear HC33
                rcases t272 with _ | q283
                · have H1 : (if t278.isNone = true then (if t280.isNone = true then (if (true != (x8_2 == (wrap64 ((wrap64 ((wrap64 ((wrap64 (Int.tmod (IntKind.u64.wrap (a1_0)) 60)) + 1)) + (wrap64 (Int.tmod (IntKind.u64.wrap (a1_1)) 9)))) - (wrap64 (Int.tmod (IntKind.u64.wrap (a1_0)) 60)))))) = true then (halterlaw13_RegionSizes.j2 k2 t260 t279 none true) else ((region_Size.f k2 t271).bind fun t286 => ((region_Size.f k2 t260).bind fun t287 => (if t286 = (wrap64 (t287 - x8_2)) then ((region_Size.f k2 t275).bind fun t288 => ((region_Size.f k2 t271).bind fun t289 => (halterlaw13_RegionSizes.j2 k2 t260 t279 none (t288 != (wrap64 ((wrap64 (t289 + (wrap64 ((wrap64 ((wrap64 (Int.tmod (IntKind.u64.wrap (a1_0)) 60)) + 1)) + (wrap64 (Int.tmod (IntKind.u64.wrap (a1_1)) 9)))))) - (wrap64 (Int.tmod (IntKind.u64.wrap (a1_0)) 60)))))))) else (halterlaw13_RegionSizes.j2 k2 t260 t279 none true))))) else (if (false != (x8_2 == (wrap64 ((wrap64 ((wrap64 ((wrap64 (Int.tmod (IntKind.u64.wrap (a1_0)) 60)) + 1)) + (wrap64 (Int.tmod (IntKind.u64.wrap (a1_1)) 9)))) - (wrap64 (Int.tmod (IntKind.u64.wrap (a1_0)) 60)))))) = true then (halterlaw13_RegionSizes.j2 k2 t260 t279 (some (t280.getD 0)) true) else ((region_Size.f k2 t271).bind fun t290 => ((region_Size.f k2 t260).bind fun t291 => (if t290 = (wrap64 (t291 - x8_2)) then ((region_Size.f k2 t275).bind fun t292 => ((region_Size.f k2 t271).bind fun t293 => (halterlaw13_RegionSizes.j2 k2 t260 t279 (some (t280.getD 0)) (t292 != (wrap64 ((wrap64 (t293 + (wrap64 ((wrap64 ((wrap64 (Int.tmod (IntKind.u64.wrap (a1_0)) 60)) + 1)) + (wrap64 (Int.tmod (IntKind.u64.wrap (a1_1)) 9)))))) - (wrap64 (Int.tmod (IntKind.u64.wrap (a1_0)) 60)))))))) else (halterlaw13_RegionSizes.j2 k2 t260 t279 (some (t280.getD 0)) true)))))) else (halterlaw13_RegionSizes.j2 k2 t260 t279 t280 true)) = some r := by rw [if_pos (show (none : Option Int).isNone = true by rfl)] at H; exact H
                  clear H
                  have H := H1
                  clear H1
                  try simp only [errW_none, errW_some]
                  rcases t278 with _ | q284
                  · have H1 : (if t280.isNone = true then (if (true != (x8_2 == (wrap64 ((wrap64 ((wrap64 ((wrap64 (Int.tmod (IntKind.u64.wrap (a1_0)) 60)) + 1)) + (wrap64 (Int.tmod (IntKind.u64.wrap (a1_1)) 9)))) - (wrap64 (Int.tmod (IntKind.u64.wrap (a1_0)) 60)))))) = true then (halterlaw13_RegionSizes.j2 k2 t260 t279 none true) else ((region_Size.f k2 t271).bind fun t286 => ((region_Size.f k2 t260).bind fun t287 => (if t286 = (wrap64 (t287 - x8_2)) then ((region_Size.f k2 t275).bind fun t288 => ((region_Size.f k2 t271).bind fun t289 => (halterlaw13_RegionSizes.j2 k2 t260 t279 none (t288 != (wrap64 ((wrap64 (t289 + (wrap64 ((wrap64 ((wrap64 (Int.tmod (IntKind.u64.wrap (a1_0)) 60)) + 1)) + (wrap64 (Int.tmod (IntKind.u64.wrap (a1_1)) 9)))))) - (wrap64 (Int.tmod (IntKind.u64.wrap (a1_0)) 60)))))))) else (halterlaw13_RegionSizes.j2 k2 t260 t279 none true))))) else (if (false != (x8_2 == (wrap64 ((wrap64 ((wrap64 ((wrap64 (Int.tmod (IntKind.u64.wrap (a1_0)) 60)) + 1)) + (wrap64 (Int.tmod (IntKind.u64.wrap (a1_1)) 9)))) - (wrap64 (Int.tmod (IntKind.u64.wrap (a1_0)) 60)))))) = true then (halterlaw13_RegionSizes.j2 k2 t260 t279 (some (t280.getD 0)) true) else ((region_Size.f k2 t271).bind fun t290 => ((region_Size.f k2 t260).bind fun t291 => (if t290 = (wrap64 (t291 - x8_2)) then ((region_Size.f k2 t275).bind fun t292 => ((region_Size.f k2 t271).bind fun t293 => (halterlaw13_RegionSizes.j2 k2 t260 t279 (some (t280.getD 0)) (t292 != (wrap64 ((wrap64 (t293 + (wrap64 ((wrap64 ((wrap64 (Int.tmod (IntKind.u64.wrap (a1_0)) 60)) + 1)) + (wrap64 (Int.tmod (IntKind.u64.wrap (a1_1)) 9)))))) - (wrap64 (Int.tmod (IntKind.u64.wrap (a1_0)) 60)))))))) else (halterlaw13_RegionSizes.j2 k2 t260 t279 (some (t280.getD 0)) true)))))) = some r := by rw [if_pos (show (none : Option Int).isNone = true by rfl)] at H; exact H
                    clear H
                    have H := H1
                    clear H1
                    try simp only [errW_none, errW_some]
                    rcases t280 with _ | q285
                    · have H1 : (if (true != (x8_2 == (wrap64 ((wrap64 ((wrap64 ((wrap64 (Int.tmod (IntKind.u64.wrap (a1_0)) 60)) + 1)) + (wrap64 (Int.tmod (IntKind.u64.wrap (a1_1)) 9)))) - (wrap64 (Int.tmod (IntKind.u64.wrap (a1_0)) 60)))))) = true then (halterlaw13_RegionSizes.j2 k2 t260 t279 none true) else ((region_Size.f k2 t271).bind fun t286 => ((region_Size.f k2 t260).bind fun t287 => (if t286 = (wrap64 (t287 - x8_2)) then ((region_Size.f k2 t275).bind fun t288 => ((region_Size.f k2 t271).bind fun t289 => (halterlaw13_RegionSizes.j2 k2 t260 t279 none (t288 != (wrap64 ((wrap64 (t289 + (wrap64 ((wrap64 ((wrap64 (Int.tmod (IntKind.u64.wrap (a1_0)) 60)) + 1)) + (wrap64 (Int.tmod (IntKind.u64.wrap (a1_1)) 9)))))) - (wrap64 (Int.tmod (IntKind.u64.wrap (a1_0)) 60)))))))) else (halterlaw13_RegionSizes.j2 k2 t260 t279 none true))))) = some r := by rw [if_pos (show (none : Option Int).isNone = true by rfl)] at H; exact H
                      clear H
                      have H := H1
                      clear H1
                      try simp only [errW_none, errW_some]
                      by_cases c39 : (true != (x8_2 == (wrap64 ((wrap64 ((wrap64 ((wrap64 (Int.tmod (IntKind.u64.wrap (a1_0)) 60)) + 1)) + (wrap64 (Int.tmod (IntKind.u64.wrap (a1_1)) 9)))) - (wrap64 (Int.tmod (IntKind.u64.wrap (a1_0)) 60)))))) = true
                      · rw [if_pos c39] at H
                        have c39b0 : (true != (x8_2 == (wrap64 ((wrap64 ((wrap64 ((wrap64 (Int.tmod (IntKind.u64.wrap (a1_0)) 60)) + 1)) + (wrap64 (Int.tmod (IntKind.u64.wrap (a1_1)) 9)))) - (wrap64 (Int.tmod (IntKind.u64.wrap (a1_0)) 60)))))) = true := c39
                        (try (have c39b1 : decide (true = (x8_2 == (wrap64 ((wrap64 ((wrap64 ((wrap64 (Int.tmod (IntKind.u64.wrap (a1_0)) 60)) + 1)) + (wrap64 (Int.tmod (IntKind.u64.wrap (a1_1)) 9)))) - (wrap64 (Int.tmod (IntKind.u64.wrap (a1_0)) 60)))))) = false := by simpa using c39))
                        (try (have c39b2 : (true == (x8_2 == (wrap64 ((wrap64 ((wrap64 ((wrap64 (Int.tmod (IntKind.u64.wrap (a1_0)) 60)) + 1)) + (wrap64 (Int.tmod (IntKind.u64.wrap (a1_1)) 9)))) - (wrap64 (Int.tmod (IntKind.u64.wrap (a1_0)) 60)))))) = false := by simpa using c39))
                        (try (have c39b3 : ¬ (true = (x8_2 == (wrap64 ((wrap64 ((wrap64 ((wrap64 (Int.tmod (IntKind.u64.wrap (a1_0)) 60)) + 1)) + (wrap64 (Int.tmod (IntKind.u64.wrap (a1_1)) 9)))) - (wrap64 (Int.tmod (IntKind.u64.wrap (a1_0)) 60)))))) := by simpa using c39))
                        clear c39
                        (first | rw [c39b0] | (simp only [i64_w, i32_w]; rw [c39b0]) | skip)
                        have H' := Aside0.mk H
                        clear H
                        go_wp2
                        go_meet
                        case rel => exact ⟨_, (true), (by first | rfl | (simp; done) | (simp [*]; done)), H', ⟨by have := HJ3.out; have := HK2.out; first | omega | exact Nat.le_refl _⟩, ⟨by (with_reducible repeat (first | apply Kd.R_alloc | apply Kd.R_drewN | apply Kd.R_drew)); exact Kd.R_mono HO_5.out (fun _ hk => hk.2)⟩, ⟨by (with_reducible repeat (first | apply Kd.R_alloc | apply Kd.R_drewN | apply Kd.R_drew)); exact Kd.R_mono HO282.out (fun _ hk => hk.1.1.2)⟩, ⟨by (with_reducible repeat (first | refine blk_drewN ?_ _ | refine blk_drew ?_ | refine blk_alloc ?_ _)); exact BK259.out⟩, ⟨by repeat (first | (with_reducible first | exact HB.out | apply below_alloc | apply pw_below_drewN | apply below_drew1 | refine below_set ?_ GE259.out) | exact HB.out)⟩⟩
                      · rw [if_neg c39] at H
                        have c39b0 : (true != (x8_2 == (wrap64 ((wrap64 ((wrap64 ((wrap64 (Int.tmod (IntKind.u64.wrap (a1_0)) 60)) + 1)) + (wrap64 (Int.tmod (IntKind.u64.wrap (a1_1)) 9)))) - (wrap64 (Int.tmod (IntKind.u64.wrap (a1_0)) 60)))))) = false := by simpa using c39
                        (try (have c39b1 : decide (true = (x8_2 == (wrap64 ((wrap64 ((wrap64 ((wrap64 (Int.tmod (IntKind.u64.wrap (a1_0)) 60)) + 1)) + (wrap64 (Int.tmod (IntKind.u64.wrap (a1_1)) 9)))) - (wrap64 (Int.tmod (IntKind.u64.wrap (a1_0)) 60)))))) = true := by simpa using c39))
                        (try (have c39b2 : (true == (x8_2 == (wrap64 ((wrap64 ((wrap64 ((wrap64 (Int.tmod (IntKind.u64.wrap (a1_0)) 60)) + 1)) + (wrap64 (Int.tmod (IntKind.u64.wrap (a1_1)) 9)))) - (wrap64 (Int.tmod (IntKind.u64.wrap (a1_0)) 60)))))) = true := by simpa using c39))
                        clear c39
                        (first | rw [c39b0] | (simp only [i64_w, i32_w]; rw [c39b0]) | skip)
                        replace H := Option.bind_eq_some_iff.mp H
                        obtain ⟨t286, A400, H⟩ := H
                        replace H : ((region_Size.f k2 t260).bind fun t287 => (if t286 = (wrap64 (t287 - x8_2)) then ((region_Size.f k2 t275).bind fun t288 => ((region_Size.f k2 t271).bind fun t289 => (halterlaw13_RegionSizes.j2 k2 t260 t279 none (t288 != (wrap64 ((wrap64 (t289 + (wrap64 ((wrap64 ((wrap64 (Int.tmod (IntKind.u64.wrap (a1_0)) 60)) + 1)) + (wrap64 (Int.tmod (IntKind.u64.wrap (a1_1)) 9)))))) - (wrap64 (Int.tmod (IntKind.u64.wrap (a1_0)) 60)))))))) else (halterlaw13_RegionSizes.j2 k2 t260 t279 none true))) = some r := H
                        have A40 := Aside0.mk A400
                        clear A400
                        replace H := Option.bind_eq_some_iff.mp H
                        obtain ⟨t287, A410, H⟩ := H
                        replace H : (if t286 = (wrap64 (t287 - x8_2)) then ((region_Size.f k2 t275).bind fun t288 => ((region_Size.f k2 t271).bind fun t289 => (halterlaw13_RegionSizes.j2 k2 t260 t279 none (t288 != (wrap64 ((wrap64 (t289 + (wrap64 ((wrap64 ((wrap64 (Int.tmod (IntKind.u64.wrap (a1_0)) 60)) + 1)) + (wrap64 (Int.tmod (IntKind.u64.wrap (a1_1)) 9)))))) - (wrap64 (Int.tmod (IntKind.u64.wrap (a1_0)) 60)))))))) else (halterlaw13_RegionSizes.j2 k2 t260 t279 none true)) = some r := H
                        have A41 := Aside0.mk A410
                        clear A410
                        by_cases c42 : t286 = (wrap64 (t287 - x8_2))
                        · rw [if_pos c42] at H
                          have c42b0 : (t286 == (wrap64 (t287 - x8_2))) = true := beq_iff_eq.mpr c42
                          have c42b1 : (t286 != (wrap64 (t287 - x8_2))) = false := bne_eq_false_iff_eq.mpr c42
                          clear c42
                          replace H := Option.bind_eq_some_iff.mp H
                          obtain ⟨t288, A430, H⟩ := H
                          replace H : ((region_Size.f k2 t271).bind fun t289 => (halterlaw13_RegionSizes.j2 k2 t260 t279 none (t288 != (wrap64 ((wrap64 (t289 + (wrap64 ((wrap64 ((wrap64 (Int.tmod (IntKind.u64.wrap (a1_0)) 60)) + 1)) + (wrap64 (Int.tmod (IntKind.u64.wrap (a1_1)) 9)))))) - (wrap64 (Int.tmod (IntKind.u64.wrap (a1_0)) 60))))))) = some r := H
                          have A43 := Aside0.mk A430
                          clear A430
                          replace H := Option.bind_eq_some_iff.mp H
                          obtain ⟨t289, A440, H⟩ := H
                          replace H : (halterlaw13_RegionSizes.j2 k2 t260 t279 none (t288 != (wrap64 ((wrap64 (t289 + (wrap64 ((wrap64 ((wrap64 (Int.tmod (IntKind.u64.wrap (a1_0)) 60)) + 1)) + (wrap64 (Int.tmod (IntKind.u64.wrap (a1_1)) 9)))))) - (wrap64 (Int.tmod (IntKind.u64.wrap (a1_0)) 60)))))) = some r := H
                          have A44 := Aside0.mk A440
                          clear A440
                          have hd_ := Option.some.inj (A40.out.symm.trans A44.out)
                          (try simp only [Prod.mk.injEq] at hd_)
                          obtain rfl := hd_
                          have H' := Aside0.mk H
                          clear H
                          go_wp2_with (first | (go_at_call 21; (with_reducible refine (region_Size.calls k2 _ _ t271 t286 _ ?side1 ?side2 A40.out).mono ?_); (case side1 => repeat (first | exact (Kd.R_reads' HO274.out).2.2 | (with_reducible refine Kd.C_alloc ?_ _) | (with_reducible refine Kd.C_drewN ?_ _) | (with_reducible refine Kd.C_drew ?_))); (case side2 => exact (Kd.R_reads' HO274.out).2.1); rintro e w45 ⟨rfl, hb⟩; have n0_ := Aside0.mk (Kd.R_below (by (with_reducible repeat (first | apply Kd.R_alloc | apply Kd.R_drewN | apply Kd.R_drew)); exact HO_5.out) hb); have n1_ := Aside0.mk (Kd.R_below (by (with_reducible repeat (first | apply Kd.R_alloc | apply Kd.R_drewN | apply Kd.R_drew)); exact HO274.out) hb); have n2_ := Aside0.mk (Kd.R_below (by (with_reducible repeat (first | apply Kd.R_alloc | apply Kd.R_drewN | apply Kd.R_drew)); exact HO277.out) hb); have n3_ := Aside0.mk (Kd.R_below (by (with_reducible repeat (first | apply Kd.R_alloc | apply Kd.R_drewN | apply Kd.R_drew)); exact HO282.out) hb); have n4_ := Aside0.mk (blk_below (g := gb259) (o := .cells #[.int .i64 a1_0, .int .i64 a1_1] 59 (0, 0)) (by (with_reducible repeat (first | refine blk_drewN ?_ _ | refine blk_drew ?_ | refine blk_alloc ?_ _)); exact BK259.out) hb); have n5_ := Aside0.mk (below_step (by repeat (first | (with_reducible first | exact HB.out | apply below_alloc | apply pw_below_drewN | apply below_drew1 | refine below_set ?_ GE259.out) | exact HB.out)) hb); clear HO_5; clear HO274; clear HO277; clear HO282; clear BK259; clear HB; have HO_5 := n0_; have HO274 := n1_; have HO277 := n2_; have HO282 := n3_; have BK259 := n4_; have HB := n5_; clear n0_ n1_ n2_ n3_ n4_ n5_; (try clear hb); (try clear hb2); (try clear hk); (try clear hi)) | (go_at_call 21; (with_reducible refine (region_Size.calls k2 _ _ t260 t287 _ ?side1 ?side2 A41.out).mono ?_); (case side1 => repeat (first | exact (Kd.R_reads' HO_5.out).2.2 | (with_reducible refine Kd.C_alloc ?_ _) | (with_reducible refine Kd.C_drewN ?_ _) | (with_reducible refine Kd.C_drew ?_))); (case side2 => exact (Kd.R_reads' HO_5.out).2.1); rintro e w46 ⟨rfl, hb⟩; have n0_ := Aside0.mk (Kd.R_below (by (with_reducible repeat (first | apply Kd.R_alloc | apply Kd.R_drewN | apply Kd.R_drew)); exact HO_5.out) hb); have n1_ := Aside0.mk (Kd.R_below (by (with_reducible repeat (first | apply Kd.R_alloc | apply Kd.R_drewN | apply Kd.R_drew)); exact HO274.out) hb); have n2_ := Aside0.mk (Kd.R_below (by (with_reducible repeat (first | apply Kd.R_alloc | apply Kd.R_drewN | apply Kd.R_drew)); exact HO277.out) hb); have n3_ := Aside0.mk (Kd.R_below (by (with_reducible repeat (first | apply Kd.R_alloc | apply Kd.R_drewN | apply Kd.R_drew)); exact HO282.out) hb); have n4_ := Aside0.mk (blk_below (g := gb259) (o := .cells #[.int .i64 a1_0, .int .i64 a1_1] 59 (0, 0)) (by (with_reducible repeat (first | refine blk_drewN ?_ _ | refine blk_drew ?_ | refine blk_alloc ?_ _)); exact BK259.out) hb); have n5_ := Aside0.mk (below_step (by repeat (first | (with_reducible first | exact HB.out | apply below_alloc | apply pw_below_drewN | apply below_drew1 | refine below_set ?_ GE259.out) | exact HB.out)) hb); clear HO_5; clear HO274; clear HO277; clear HO282; clear BK259; clear HB; have HO_5 := n0_; have HO274 := n1_; have HO277 := n2_; have HO282 := n3_; have BK259 := n4_; have HB := n5_; clear n0_ n1_ n2_ n3_ n4_ n5_; (try clear hb); (try clear hb2); (try clear hk); (try clear hi); obtain ⟨Ao47, co47, eo47⟩ := Kd.R_slice HO277.out; subst eo47) | (go_at_call 21; (with_reducible refine (region_Size.calls k2 _ _ t275 t288 _ ?side1 ?side2 A43.out).mono ?_); (case side1 => repeat (first | exact (Kd.R_reads' HO277.out).2.2 | (with_reducible refine Kd.C_alloc ?_ _) | (with_reducible refine Kd.C_drewN ?_ _) | (with_reducible refine Kd.C_drew ?_))); (case side2 => exact (Kd.R_reads' HO277.out).2.1); rintro e w48 ⟨rfl, hb⟩; have n0_ := Aside0.mk (Kd.R_below (by (with_reducible repeat (first | apply Kd.R_alloc | apply Kd.R_drewN | apply Kd.R_drew)); exact HO_5.out) hb); have n1_ := Aside0.mk (Kd.R_below (by (with_reducible repeat (first | apply Kd.R_alloc | apply Kd.R_drewN | apply Kd.R_drew)); exact HO274.out) hb); have n2_ := Aside0.mk (Kd.R_below (by (with_reducible repeat (first | apply Kd.R_alloc | apply Kd.R_drewN | apply Kd.R_drew)); exact HO277.out) hb); have n3_ := Aside0.mk (Kd.R_below (by (with_reducible repeat (first | apply Kd.R_alloc | apply Kd.R_drewN | apply Kd.R_drew)); exact HO282.out) hb); have n4_ := Aside0.mk (blk_below (g := gb259) (o := .cells #[.int .i64 a1_0, .int .i64 a1_1] 59 (0, 0)) (by (with_reducible repeat (first | refine blk_drewN ?_ _ | refine blk_drew ?_ | refine blk_alloc ?_ _)); exact BK259.out) hb); have n5_ := Aside0.mk (below_step (by repeat (first | (with_reducible first | exact HB.out | apply below_alloc | apply pw_below_drewN | apply below_drew1 | refine below_set ?_ GE259.out) | exact HB.out)) hb); clear HO_5; clear HO274; clear HO277; clear HO282; clear BK259; clear HB; have HO_5 := n0_; have HO274 := n1_; have HO277 := n2_; have HO282 := n3_; have BK259 := n4_; have HB := n5_; clear n0_ n1_ n2_ n3_ n4_ n5_; (try clear hb); (try clear hb2); (try clear hk); (try clear hi)) | (go_at_call 21; (with_reducible refine (region_Size.calls k2 _ _ t271 t286 _ ?side1 ?side2 A44.out).mono ?_); (case side1 => repeat (first | exact (Kd.R_reads' HO274.out).2.2 | (with_reducible refine Kd.C_alloc ?_ _) | (with_reducible refine Kd.C_drewN ?_ _) | (with_reducible refine Kd.C_drew ?_))); (case side2 => exact (Kd.R_reads' HO274.out).2.1); rintro e w49 ⟨rfl, hb⟩; have n0_ := Aside0.mk (Kd.R_below (by (with_reducible repeat (first | apply Kd.R_alloc | apply Kd.R_drewN | apply Kd.R_drew)); exact HO_5.out) hb); have n1_ := Aside0.mk (Kd.R_below (by (with_reducible repeat (first | apply Kd.R_alloc | apply Kd.R_drewN | apply Kd.R_drew)); exact HO274.out) hb); have n2_ := Aside0.mk (Kd.R_below (by (with_reducible repeat (first | apply Kd.R_alloc | apply Kd.R_drewN | apply Kd.R_drew)); exact HO277.out) hb); have n3_ := Aside0.mk (Kd.R_below (by (with_reducible repeat (first | apply Kd.R_alloc | apply Kd.R_drewN | apply Kd.R_drew)); exact HO282.out) hb); have n4_ := Aside0.mk (blk_below (g := gb259) (o := .cells #[.int .i64 a1_0, .int .i64 a1_1] 59 (0, 0)) (by (with_reducible repeat (first | refine blk_drewN ?_ _ | refine blk_drew ?_ | refine blk_alloc ?_ _)); exact BK259.out) hb); have n5_ := Aside0.mk (below_step (by repeat (first | (with_reducible first | exact HB.out | apply below_alloc | apply pw_below_drewN | apply below_drew1 | refine below_set ?_ GE259.out) | exact HB.out)) hb); clear HO_5; clear HO274; clear HO277; clear HO282; clear BK259; clear HB; have HO_5 := n0_; have HO274 := n1_; have HO277 := n2_; have HO282 := n3_; have BK259 := n4_; have HB := n5_; clear n0_ n1_ n2_ n3_ n4_ n5_; (try clear hb); (try clear hb2); (try clear hk); (try clear hi)))
                          go_meet
                          case rel => exact ⟨_, ((t288 != (wrap64 ((wrap64 (t286 + (wrap64 ((wrap64 ((wrap64 (Int.tmod (IntKind.u64.wrap (a1_0)) 60)) + 1)) + (wrap64 (Int.tmod (IntKind.u64.wrap (a1_1)) 9)))))) - (wrap64 (Int.tmod (IntKind.u64.wrap (a1_0)) 60)))))), (by first | rfl | (simp; done) | (simp [*]; done)), H', ⟨by have := HJ3.out; have := HK2.out; first | omega | exact Nat.le_refl _⟩, ⟨by (with_reducible repeat (first | apply Kd.R_alloc | apply Kd.R_drewN | apply Kd.R_drew)); exact Kd.R_mono HO_5.out (fun _ hk => hk.2)⟩, ⟨by (with_reducible repeat (first | apply Kd.R_alloc | apply Kd.R_drewN | apply Kd.R_drew)); exact Kd.R_mono HO282.out (fun _ hk => hk.1.1.2)⟩, ⟨by (with_reducible repeat (first | refine blk_drewN ?_ _ | refine blk_drew ?_ | refine blk_alloc ?_ _)); exact BK259.out⟩, ⟨by repeat (first | (with_reducible first | exact HB.out | apply below_alloc | apply pw_below_drewN | apply below_drew1 | refine below_set ?_ GE259.out) | exact HB.out)⟩⟩
                        · rw [if_neg c42] at H
                          have c42b0 : (t286 == (wrap64 (t287 - x8_2))) = false := beq_eq_false_iff_ne.mpr c42
                          have c42b1 : (t286 != (wrap64 (t287 - x8_2))) = true := bne_iff_ne.mpr c42
                          have H' := Aside0.mk H
                          clear H
                          go_wp2_with (first | (go_at_call 21; (with_reducible refine (region_Size.calls k2 _ _ t271 t286 _ ?side1 ?side2 A40.out).mono ?_); (case side1 => repeat (first | exact (Kd.R_reads' HO274.out).2.2 | (with_reducible refine Kd.C_alloc ?_ _) | (with_reducible refine Kd.C_drewN ?_ _) | (with_reducible refine Kd.C_drew ?_))); (case side2 => exact (Kd.R_reads' HO274.out).2.1); rintro e w50 ⟨rfl, hb⟩; have n0_ := Aside0.mk (Kd.R_below (by (with_reducible repeat (first | apply Kd.R_alloc | apply Kd.R_drewN | apply Kd.R_drew)); exact HO_5.out) hb); have n1_ := Aside0.mk (Kd.R_below (by (with_reducible repeat (first | apply Kd.R_alloc | apply Kd.R_drewN | apply Kd.R_drew)); exact HO274.out) hb); have n2_ := Aside0.mk (Kd.R_below (by (with_reducible repeat (first | apply Kd.R_alloc | apply Kd.R_drewN | apply Kd.R_drew)); exact HO277.out) hb); have n3_ := Aside0.mk (Kd.R_below (by (with_reducible repeat (first | apply Kd.R_alloc | apply Kd.R_drewN | apply Kd.R_drew)); exact HO282.out) hb); have n4_ := Aside0.mk (blk_below (g := gb259) (o := .cells #[.int .i64 a1_0, .int .i64 a1_1] 59 (0, 0)) (by (with_reducible repeat (first | refine blk_drewN ?_ _ | refine blk_drew ?_ | refine blk_alloc ?_ _)); exact BK259.out) hb); have n5_ := Aside0.mk (below_step (by repeat (first | (with_reducible first | exact HB.out | apply below_alloc | apply pw_below_drewN | apply below_drew1 | refine below_set ?_ GE259.out) | exact HB.out)) hb); clear HO_5; clear HO274; clear HO277; clear HO282; clear BK259; clear HB; have HO_5 := n0_; have HO274 := n1_; have HO277 := n2_; have HO282 := n3_; have BK259 := n4_; have HB := n5_; clear n0_ n1_ n2_ n3_ n4_ n5_; (try clear hb); (try clear hb2); (try clear hk); (try clear hi)) | (go_at_call 21; (with_reducible refine (region_Size.calls k2 _ _ t260 t287 _ ?side1 ?side2 A41.out).mono ?_); (case side1 => repeat (first | exact (Kd.R_reads' HO_5.out).2.2 | (with_reducible refine Kd.C_alloc ?_ _) | (with_reducible refine Kd.C_drewN ?_ _) | (with_reducible refine Kd.C_drew ?_))); (case side2 => exact (Kd.R_reads' HO_5.out).2.1); rintro e w51 ⟨rfl, hb⟩; have n0_ := Aside0.mk (Kd.R_below (by (with_reducible repeat (first | apply Kd.R_alloc | apply Kd.R_drewN | apply Kd.R_drew)); exact HO_5.out) hb); have n1_ := Aside0.mk (Kd.R_below (by (with_reducible repeat (first | apply Kd.R_alloc | apply Kd.R_drewN | apply Kd.R_drew)); exact HO274.out) hb); have n2_ := Aside0.mk (Kd.R_below (by (with_reducible repeat (first | apply Kd.R_alloc | apply Kd.R_drewN | apply Kd.R_drew)); exact HO277.out) hb); have n3_ := Aside0.mk (Kd.R_below (by (with_reducible repeat (first | apply Kd.R_alloc | apply Kd.R_drewN | apply Kd.R_drew)); exact HO282.out) hb); have n4_ := Aside0.mk (blk_below (g := gb259) (o := .cells #[.int .i64 a1_0, .int .i64 a1_1] 59 (0, 0)) (by (with_reducible repeat (first | refine blk_drewN ?_ _ | refine blk_drew ?_ | refine blk_alloc ?_ _)); exact BK259.out) hb); have n5_ := Aside0.mk (below_step (by repeat (first | (with_reducible first | exact HB.out | apply below_alloc | apply pw_below_drewN | apply below_drew1 | refine below_set ?_ GE259.out) | exact HB.out)) hb); clear HO_5; clear HO274; clear HO277; clear HO282; clear BK259; clear HB; have HO_5 := n0_; have HO274 := n1_; have HO277 := n2_; have HO282 := n3_; have BK259 := n4_; have HB := n5_; clear n0_ n1_ n2_ n3_ n4_ n5_; (try clear hb); (try clear hb2); (try clear hk); (try clear hi)))
                          go_meet
                          case rel => exact ⟨_, (true), (by first | rfl | (simp; done) | (simp [*]; done)), H', ⟨by have := HJ3.out; have := HK2.out; first | omega | exact Nat.le_refl _⟩, ⟨by (with_reducible repeat (first | apply Kd.R_alloc | apply Kd.R_drewN | apply Kd.R_drew)); exact Kd.R_mono HO_5.out (fun _ hk => hk.2)⟩, ⟨by (with_reducible repeat (first | apply Kd.R_alloc | apply Kd.R_drewN | apply Kd.R_drew)); exact Kd.R_mono HO282.out (fun _ hk => hk.1.1.2)⟩, ⟨by (with_reducible repeat (first | refine blk_drewN ?_ _ | refine blk_drew ?_ | refine blk_alloc ?_ _)); exact BK259.out⟩, ⟨by repeat (first | (with_reducible first | exact HB.out | apply below_alloc | apply pw_below_drewN | apply below_drew1 | refine below_set ?_ GE259.out) | exact HB.out)⟩⟩
                    · have H1 : (if (false != (x8_2 == (wrap64 ((wrap64 ((wrap64 ((wrap64 (Int.tmod (IntKind.u64.wrap (a1_0)) 60)) + 1)) + (wrap64 (Int.tmod (IntKind.u64.wrap (a1_1)) 9)))) - (wrap64 (Int.tmod (IntKind.u64.wrap (a1_0)) 60)))))) = true then (halterlaw13_RegionSizes.j2 k2 t260 t279 (some q285) true) else ((region_Size.f k2 t271).bind fun t290 => ((region_Size.f k2 t260).bind fun t291 => (if t290 = (wrap64 (t291 - x8_2)) then ((region_Size.f k2 t275).bind fun t292 => ((region_Size.f k2 t271).bind fun t293 => (halterlaw13_RegionSizes.j2 k2 t260 t279 (some q285) (t292 != (wrap64 ((wrap64 (t293 + (wrap64 ((wrap64 ((wrap64 (Int.tmod (IntKind.u64.wrap (a1_0)) 60)) + 1)) + (wrap64 (Int.tmod (IntKind.u64.wrap (a1_1)) 9)))))) - (wrap64 (Int.tmod (IntKind.u64.wrap (a1_0)) 60)))))))) else (halterlaw13_RegionSizes.j2 k2 t260 t279 (some q285) true))))) = some r := by rw [if_neg (show ¬ (some q285).isNone = true by simp)] at H; exact H
                      clear H
                      have H := H1
                      clear H1
                      try simp only [errW_none, errW_some]
                      by_cases c52 : (false != (x8_2 == (wrap64 ((wrap64 ((wrap64 ((wrap64 (Int.tmod (IntKind.u64.wrap (a1_0)) 60)) + 1)) + (wrap64 (Int.tmod (IntKind.u64.wrap (a1_1)) 9)))) - (wrap64 (Int.tmod (IntKind.u64.wrap (a1_0)) 60)))))) = true
                      · rw [if_pos c52] at H
                        have c52b0 : (false != (x8_2 == (wrap64 ((wrap64 ((wrap64 ((wrap64 (Int.tmod (IntKind.u64.wrap (a1_0)) 60)) + 1)) + (wrap64 (Int.tmod (IntKind.u64.wrap (a1_1)) 9)))) - (wrap64 (Int.tmod (IntKind.u64.wrap (a1_0)) 60)))))) = true := c52
                        (try (have c52b1 : decide (false = (x8_2 == (wrap64 ((wrap64 ((wrap64 ((wrap64 (Int.tmod (IntKind.u64.wrap (a1_0)) 60)) + 1)) + (wrap64 (Int.tmod (IntKind.u64.wrap (a1_1)) 9)))) - (wrap64 (Int.tmod (IntKind.u64.wrap (a1_0)) 60)))))) = false := by simpa using c52))
                        (try (have c52b2 : (false == (x8_2 == (wrap64 ((wrap64 ((wrap64 ((wrap64 (Int.tmod (IntKind.u64.wrap (a1_0)) 60)) + 1)) + (wrap64 (Int.tmod (IntKind.u64.wrap (a1_1)) 9)))) - (wrap64 (Int.tmod (IntKind.u64.wrap (a1_0)) 60)))))) = false := by simpa using c52))
                        (try (have c52b3 : ¬ (false = (x8_2 == (wrap64 ((wrap64 ((wrap64 ((wrap64 (Int.tmod (IntKind.u64.wrap (a1_0)) 60)) + 1)) + (wrap64 (Int.tmod (IntKind.u64.wrap (a1_1)) 9)))) - (wrap64 (Int.tmod (IntKind.u64.wrap (a1_0)) 60)))))) := by simpa using c52))
                        clear c52
                        have H' := Aside0.mk H
                        clear H
                        go_wp2
                        go_meet
                        case rel => exact ⟨_, (true), (by first | rfl | (simp; done) | (simp [*]; done)), H', ⟨by have := HJ3.out; have := HK2.out; first | omega | exact Nat.le_refl _⟩, ⟨by (with_reducible repeat (first | apply Kd.R_alloc | apply Kd.R_drewN | apply Kd.R_drew)); exact Kd.R_mono HO_5.out (fun _ hk => hk.2)⟩, ⟨by (with_reducible repeat (first | apply Kd.R_alloc | apply Kd.R_drewN | apply Kd.R_drew)); exact Kd.R_mono HO282.out (fun _ hk => hk.1.1.2)⟩, ⟨by (with_reducible repeat (first | refine blk_drewN ?_ _ | refine blk_drew ?_ | refine blk_alloc ?_ _)); exact BK259.out⟩, ⟨by repeat (first | (with_reducible first | exact HB.out | apply below_alloc | apply pw_below_drewN | apply below_drew1 | refine below_set ?_ GE259.out) | exact HB.out)⟩⟩
                      · rw [if_neg c52] at H
                        have c52b0 : (false != (x8_2 == (wrap64 ((wrap64 ((wrap64 ((wrap64 (Int.tmod (IntKind.u64.wrap (a1_0)) 60)) + 1)) + (wrap64 (Int.tmod (IntKind.u64.wrap (a1_1)) 9)))) - (wrap64 (Int.tmod (IntKind.u64.wrap (a1_0)) 60)))))) = false := by simpa using c52
                        (try (have c52b1 : decide (false = (x8_2 == (wrap64 ((wrap64 ((wrap64 ((wrap64 (Int.tmod (IntKind.u64.wrap (a1_0)) 60)) + 1)) + (wrap64 (Int.tmod (IntKind.u64.wrap (a1_1)) 9)))) - (wrap64 (Int.tmod (IntKind.u64.wrap (a1_0)) 60)))))) = true := by simpa using c52))
                        (try (have c52b2 : (false == (x8_2 == (wrap64 ((wrap64 ((wrap64 ((wrap64 (Int.tmod (IntKind.u64.wrap (a1_0)) 60)) + 1)) + (wrap64 (Int.tmod (IntKind.u64.wrap (a1_1)) 9)))) - (wrap64 (Int.tmod (IntKind.u64.wrap (a1_0)) 60)))))) = true := by simpa using c52))
                        clear c52
                        replace H := Option.bind_eq_some_iff.mp H
                        obtain ⟨t290, A530, H⟩ := H
                        replace H : ((region_Size.f k2 t260).bind fun t291 => (if t290 = (wrap64 (t291 - x8_2)) then ((region_Size.f k2 t275).bind fun t292 => ((region_Size.f k2 t271).bind fun t293 => (halterlaw13_RegionSizes.j2 k2 t260 t279 (some q285) (t292 != (wrap64 ((wrap64 (t293 + (wrap64 ((wrap64 ((wrap64 (Int.tmod (IntKind.u64.wrap (a1_0)) 60)) + 1)) + (wrap64 (Int.tmod (IntKind.u64.wrap (a1_1)) 9)))))) - (wrap64 (Int.tmod (IntKind.u64.wrap (a1_0)) 60)))))))) else (halterlaw13_RegionSizes.j2 k2 t260 t279 (some q285) true))) = some r := H
                        have A53 := Aside0.mk A530
                        clear A530
                        replace H := Option.bind_eq_some_iff.mp H
                        obtain ⟨t291, A540, H⟩ := H
                        replace H : (if t290 = (wrap64 (t291 - x8_2)) then ((region_Size.f k2 t275).bind fun t292 => ((region_Size.f k2 t271).bind fun t293 => (halterlaw13_RegionSizes.j2 k2 t260 t279 (some q285) (t292 != (wrap64 ((wrap64 (t293 + (wrap64 ((wrap64 ((wrap64 (Int.tmod (IntKind.u64.wrap (a1_0)) 60)) + 1)) + (wrap64 (Int.tmod (IntKind.u64.wrap (a1_1)) 9)))))) - (wrap64 (Int.tmod (IntKind.u64.wrap (a1_0)) 60)))))))) else (halterlaw13_RegionSizes.j2 k2 t260 t279 (some q285) true)) = some r := H
                        have A54 := Aside0.mk A540
                        clear A540
                        by_cases c55 : t290 = (wrap64 (t291 - x8_2))
                        · rw [if_pos c55] at H
                          have c55b0 : (t290 == (wrap64 (t291 - x8_2))) = true := beq_iff_eq.mpr c55
                          have c55b1 : (t290 != (wrap64 (t291 - x8_2))) = false := bne_eq_false_iff_eq.mpr c55
                          clear c55
                          replace H := Option.bind_eq_some_iff.mp H
                          obtain ⟨t292, A560, H⟩ := H
                          replace H : ((region_Size.f k2 t271).bind fun t293 => (halterlaw13_RegionSizes.j2 k2 t260 t279 (some q285) (t292 != (wrap64 ((wrap64 (t293 + (wrap64 ((wrap64 ((wrap64 (Int.tmod (IntKind.u64.wrap (a1_0)) 60)) + 1)) + (wrap64 (Int.tmod (IntKind.u64.wrap (a1_1)) 9)))))) - (wrap64 (Int.tmod (IntKind.u64.wrap (a1_0)) 60))))))) = some r := H
                          have A56 := Aside0.mk A560
                          clear A560
                          replace H := Option.bind_eq_some_iff.mp H
                          obtain ⟨t293, A570, H⟩ := H
                          replace H : (halterlaw13_RegionSizes.j2 k2 t260 t279 (some q285) (t292 != (wrap64 ((wrap64 (t293 + (wrap64 ((wrap64 ((wrap64 (Int.tmod (IntKind.u64.wrap (a1_0)) 60)) + 1)) + (wrap64 (Int.tmod (IntKind.u64.wrap (a1_1)) 9)))))) - (wrap64 (Int.tmod (IntKind.u64.wrap (a1_0)) 60)))))) = some r := H
                          have A57 := Aside0.mk A570
                          clear A570
                          have hd_ := Option.some.inj (A53.out.symm.trans A57.out)
                          (try simp only [Prod.mk.injEq] at hd_)
                          obtain rfl := hd_
                          have H' := Aside0.mk H
                          clear H
                          go_wp2_with (first | (go_at_call 21; (with_reducible refine (region_Size.calls k2 _ _ t271 t290 _ ?side1 ?side2 A53.out).mono ?_); (case side1 => repeat (first | exact (Kd.R_reads' HO274.out).2.2 | (with_reducible refine Kd.C_alloc ?_ _) | (with_reducible refine Kd.C_drewN ?_ _) | (with_reducible refine Kd.C_drew ?_))); (case side2 => exact (Kd.R_reads' HO274.out).2.1); rintro e w58 ⟨rfl, hb⟩; have n0_ := Aside0.mk (Kd.R_below (by (with_reducible repeat (first | apply Kd.R_alloc | apply Kd.R_drewN | apply Kd.R_drew)); exact HO_5.out) hb); have n1_ := Aside0.mk (Kd.R_below (by (with_reducible repeat (first | apply Kd.R_alloc | apply Kd.R_drewN | apply Kd.R_drew)); exact HO274.out) hb); have n2_ := Aside0.mk (Kd.R_below (by (with_reducible repeat (first | apply Kd.R_alloc | apply Kd.R_drewN | apply Kd.R_drew)); exact HO277.out) hb); have n3_ := Aside0.mk (Kd.R_below (by (with_reducible repeat (first | apply Kd.R_alloc | apply Kd.R_drewN | apply Kd.R_drew)); exact HO282.out) hb); have n4_ := Aside0.mk (blk_below (g := gb259) (o := .cells #[.int .i64 a1_0, .int .i64 a1_1] 59 (0, 0)) (by (with_reducible repeat (first | refine blk_drewN ?_ _ | refine blk_drew ?_ | refine blk_alloc ?_ _)); exact BK259.out) hb); have n5_ := Aside0.mk (below_step (by repeat (first | (with_reducible first | exact HB.out | apply below_alloc | apply pw_below_drewN | apply below_drew1 | refine below_set ?_ GE259.out) | exact HB.out)) hb); clear HO_5; clear HO274; clear HO277; clear HO282; clear BK259; clear HB; have HO_5 := n0_; have HO274 := n1_; have HO277 := n2_; have HO282 := n3_; have BK259 := n4_; have HB := n5_; clear n0_ n1_ n2_ n3_ n4_ n5_; (try clear hb); (try clear hb2); (try clear hk); (try clear hi)) | (go_at_call 21; (with_reducible refine (region_Size.calls k2 _ _ t260 t291 _ ?side1 ?side2 A54.out).mono ?_); (case side1 => repeat (first | exact (Kd.R_reads' HO_5.out).2.2 | (with_reducible refine Kd.C_alloc ?_ _) | (with_reducible refine Kd.C_drewN ?_ _) | (with_reducible refine Kd.C_drew ?_))); (case side2 => exact (Kd.R_reads' HO_5.out).2.1); rintro e w59 ⟨rfl, hb⟩; have n0_ := Aside0.mk (Kd.R_below (by (with_reducible repeat (first | apply Kd.R_alloc | apply Kd.R_drewN | apply Kd.R_drew)); exact HO_5.out) hb); have n1_ := Aside0.mk (Kd.R_below (by (with_reducible repeat (first | apply Kd.R_alloc | apply Kd.R_drewN | apply Kd.R_drew)); exact HO274.out) hb); have n2_ := Aside0.mk (Kd.R_below (by (with_reducible repeat (first | apply Kd.R_alloc | apply Kd.R_drewN | apply Kd.R_drew)); exact HO277.out) hb); have n3_ := Aside0.mk (Kd.R_below (by (with_reducible repeat (first | apply Kd.R_alloc | apply Kd.R_drewN | apply Kd.R_drew)); exact HO282.out) hb); have n4_ := Aside0.mk (blk_below (g := gb259) (o := .cells #[.int .i64 a1_0, .int .i64 a1_1] 59 (0, 0)) (by (with_reducible repeat (first | refine blk_drewN ?_ _ | refine blk_drew ?_ | refine blk_alloc ?_ _)); exact BK259.out) hb); have n5_ := Aside0.mk (below_step (by repeat (first | (with_reducible first | exact HB.out | apply below_alloc | apply pw_below_drewN | apply below_drew1 | refine below_set ?_ GE259.out) | exact HB.out)) hb); clear HO_5; clear HO274; clear HO277; clear HO282; clear BK259; clear HB; have HO_5 := n0_; have HO274 := n1_; have HO277 := n2_; have HO282 := n3_; have BK259 := n4_; have HB := n5_; clear n0_ n1_ n2_ n3_ n4_ n5_; (try clear hb); (try clear hb2); (try clear hk); (try clear hi); obtain ⟨Ao60, co60, eo60⟩ := Kd.R_slice HO277.out; subst eo60) | (go_at_call 21; (with_reducible refine (region_Size.calls k2 _ _ t275 t292 _ ?side1 ?side2 A56.out).mono ?_); (case side1 => repeat (first | exact (Kd.R_reads' HO277.out).2.2 | (with_reducible refine Kd.C_alloc ?_ _) | (with_reducible refine Kd.C_drewN ?_ _) | (with_reducible refine Kd.C_drew ?_))); (case side2 => exact (Kd.R_reads' HO277.out).2.1); rintro e w61 ⟨rfl, hb⟩; have n0_ := Aside0.mk (Kd.R_below (by (with_reducible repeat (first | apply Kd.R_alloc | apply Kd.R_drewN | apply Kd.R_drew)); exact HO_5.out) hb); have n1_ := Aside0.mk (Kd.R_below (by (with_reducible repeat (first | apply Kd.R_alloc | apply Kd.R_drewN | apply Kd.R_drew)); exact HO274.out) hb); have n2_ := Aside0.mk (Kd.R_below (by (with_reducible repeat (first | apply Kd.R_alloc | apply Kd.R_drewN | apply Kd.R_drew)); exact HO277.out) hb); have n3_ := Aside0.mk (Kd.R_below (by (with_reducible repeat (first | apply Kd.R_alloc | apply Kd.R_drewN | apply Kd.R_drew)); exact HO282.out) hb); have n4_ := Aside0.mk (blk_below (g := gb259) (o := .cells #[.int .i64 a1_0, .int .i64 a1_1] 59 (0, 0)) (by (with_reducible repeat (first | refine blk_drewN ?_ _ | refine blk_drew ?_ | refine blk_alloc ?_ _)); exact BK259.out) hb); have n5_ := Aside0.mk (below_step (by repeat (first | (with_reducible first | exact HB.out | apply below_alloc | apply pw_below_drewN | apply below_drew1 | refine below_set ?_ GE259.out) | exact HB.out)) hb); clear HO_5; clear HO274; clear HO277; clear HO282; clear BK259; clear HB; have HO_5 := n0_; have HO274 := n1_; have HO277 := n2_; have HO282 := n3_; have BK259 := n4_; have HB := n5_; clear n0_ n1_ n2_ n3_ n4_ n5_; (try clear hb); (try clear hb2); (try clear hk); (try clear hi)) | (go_at_call 21; (with_reducible refine (region_Size.calls k2 _ _ t271 t290 _ ?side1 ?side2 A57.out).mono ?_); (case side1 => repeat (first | exact (Kd.R_reads' HO274.out).2.2 | (with_reducible refine Kd.C_alloc ?_ _) | (with_reducible refine Kd.C_drewN ?_ _) | (with_reducible refine Kd.C_drew ?_))); (case side2 => exact (Kd.R_reads' HO274.out).2.1); rintro e w62 ⟨rfl, hb⟩; have n0_ := Aside0.mk (Kd.R_below (by (with_reducible repeat (first | apply Kd.R_alloc | apply Kd.R_drewN | apply Kd.R_drew)); exact HO_5.out) hb); have n1_ := Aside0.mk (Kd.R_below (by (with_reducible repeat (first | apply Kd.R_alloc | apply Kd.R_drewN | apply Kd.R_drew)); exact HO274.out) hb); have n2_ := Aside0.mk (Kd.R_below (by (with_reducible repeat (first | apply Kd.R_alloc | apply Kd.R_drewN | apply Kd.R_drew)); exact HO277.out) hb); have n3_ := Aside0.mk (Kd.R_below (by (with_reducible repeat (first | apply Kd.R_alloc | apply Kd.R_drewN | apply Kd.R_drew)); exact HO282.out) hb); have n4_ := Aside0.mk (blk_below (g := gb259) (o := .cells #[.int .i64 a1_0, .int .i64 a1_1] 59 (0, 0)) (by (with_reducible repeat (first | refine blk_drewN ?_ _ | refine blk_drew ?_ | refine blk_alloc ?_ _)); exact BK259.out) hb); have n5_ := Aside0.mk (below_step (by repeat (first | (with_reducible first | exact HB.out | apply below_alloc | apply pw_below_drewN | apply below_drew1 | refine below_set ?_ GE259.out) | exact HB.out)) hb); clear HO_5; clear HO274; clear HO277; clear HO282; clear BK259; clear HB; have HO_5 := n0_; have HO274 := n1_; have HO277 := n2_; have HO282 := n3_; have BK259 := n4_; have HB := n5_; clear n0_ n1_ n2_ n3_ n4_ n5_; (try clear hb); (try clear hb2); (try clear hk); (try clear hi)))
                          go_meet
                          case rel => exact ⟨_, ((t292 != (wrap64 ((wrap64 (t290 + (wrap64 ((wrap64 ((wrap64 (Int.tmod (IntKind.u64.wrap (a1_0)) 60)) + 1)) + (wrap64 (Int.tmod (IntKind.u64.wrap (a1_1)) 9)))))) - (wrap64 (Int.tmod (IntKind.u64.wrap (a1_0)) 60)))))), (by first | rfl | (simp; done) | (simp [*]; done)), H', ⟨by have := HJ3.out; have := HK2.out; first | omega | exact Nat.le_refl _⟩, ⟨by (with_reducible repeat (first | apply Kd.R_alloc | apply Kd.R_drewN | apply Kd.R_drew)); exact Kd.R_mono HO_5.out (fun _ hk => hk.2)⟩, ⟨by (with_reducible repeat (first | apply Kd.R_alloc | apply Kd.R_drewN | apply Kd.R_drew)); exact Kd.R_mono HO282.out (fun _ hk => hk.1.1.2)⟩, ⟨by (with_reducible repeat (first | refine blk_drewN ?_ _ | refine blk_drew ?_ | refine blk_alloc ?_ _)); exact BK259.out⟩, ⟨by repeat (first | (with_reducible first | exact HB.out | apply below_alloc | apply pw_below_drewN | apply below_drew1 | refine below_set ?_ GE259.out) | exact HB.out)⟩⟩
                        · rw [if_neg c55] at H
                          have c55b0 : (t290 == (wrap64 (t291 - x8_2))) = false := beq_eq_false_iff_ne.mpr c55
                          have c55b1 : (t290 != (wrap64 (t291 - x8_2))) = true := bne_iff_ne.mpr c55
                          have H' := Aside0.mk H
                          clear H
                          go_wp2_with (first | (go_at_call 21; (with_reducible refine (region_Size.calls k2 _ _ t271 t290 _ ?side1 ?side2 A53.out).mono ?_); (case side1 => repeat (first | exact (Kd.R_reads' HO274.out).2.2 | (with_reducible refine Kd.C_alloc ?_ _) | (with_reducible refine Kd.C_drewN ?_ _) | (with_reducible refine Kd.C_drew ?_))); (case side2 => exact (Kd.R_reads' HO274.out).2.1); rintro e w63 ⟨rfl, hb⟩; have n0_ := Aside0.mk (Kd.R_below (by (with_reducible repeat (first | apply Kd.R_alloc | apply Kd.R_drewN | apply Kd.R_drew)); exact HO_5.out) hb); have n1_ := Aside0.mk (Kd.R_below (by (with_reducible repeat (first | apply Kd.R_alloc | apply Kd.R_drewN | apply Kd.R_drew)); exact HO274.out) hb); have n2_ := Aside0.mk (Kd.R_below (by (with_reducible repeat (first | apply Kd.R_alloc | apply Kd.R_drewN | apply Kd.R_drew)); exact HO277.out) hb); have n3_ := Aside0.mk (Kd.R_below (by (with_reducible repeat (first | apply Kd.R_alloc | apply Kd.R_drewN | apply Kd.R_drew)); exact HO282.out) hb); have n4_ := Aside0.mk (blk_below (g := gb259) (o := .cells #[.int .i64 a1_0, .int .i64 a1_1] 59 (0, 0)) (by (with_reducible repeat (first | refine blk_drewN ?_ _ | refine blk_drew ?_ | refine blk_alloc ?_ _)); exact BK259.out) hb); have n5_ := Aside0.mk (below_step (by repeat (first | (with_reducible first | exact HB.out | apply below_alloc | apply pw_below_drewN | apply below_drew1 | refine below_set ?_ GE259.out) | exact HB.out)) hb); clear HO_5; clear HO274; clear HO277; clear HO282; clear BK259; clear HB; have HO_5 := n0_; have HO274 := n1_; have HO277 := n2_; have HO282 := n3_; have BK259 := n4_; have HB := n5_; clear n0_ n1_ n2_ n3_ n4_ n5_; (try clear hb); (try clear hb2); (try clear hk); (try clear hi)) | (go_at_call 21; (with_reducible refine (region_Size.calls k2 _ _ t260 t291 _ ?side1 ?side2 A54.out).mono ?_); (case side1 => repeat (first | exact (Kd.R_reads' HO_5.out).2.2 | (with_reducible refine Kd.C_alloc ?_ _) | (with_reducible refine Kd.C_drewN ?_ _) | (with_reducible refine Kd.C_drew ?_))); (case side2 => exact (Kd.R_reads' HO_5.out).2.1); rintro e w64 ⟨rfl, hb⟩; have n0_ := Aside0.mk (Kd.R_below (by (with_reducible repeat (first | apply Kd.R_alloc | apply Kd.R_drewN | apply Kd.R_drew)); exact HO_5.out) hb); have n1_ := Aside0.mk (Kd.R_below (by (with_reducible repeat (first | apply Kd.R_alloc | apply Kd.R_drewN | apply Kd.R_drew)); exact HO274.out) hb); have n2_ := Aside0.mk (Kd.R_below (by (with_reducible repeat (first | apply Kd.R_alloc | apply Kd.R_drewN | apply Kd.R_drew)); exact HO277.out) hb); have n3_ := Aside0.mk (Kd.R_below (by (with_reducible repeat (first | apply Kd.R_alloc | apply Kd.R_drewN | apply Kd.R_drew)); exact HO282.out) hb); have n4_ := Aside0.mk (blk_below (g := gb259) (o := .cells #[.int .i64 a1_0, .int .i64 a1_1] 59 (0, 0)) (by (with_reducible repeat (first | refine blk_drewN ?_ _ | refine blk_drew ?_ | refine blk_alloc ?_ _)); exact BK259.out) hb); have n5_ := Aside0.mk (below_step (by repeat (first | (with_reducible first | exact HB.out | apply below_alloc | apply pw_below_drewN | apply below_drew1 | refine below_set ?_ GE259.out) | exact HB.out)) hb); clear HO_5; clear HO274; clear HO277; clear HO282; clear BK259; clear HB; have HO_5 := n0_; have HO274 := n1_; have HO277 := n2_; have HO282 := n3_; have BK259 := n4_; have HB := n5_; clear n0_ n1_ n2_ n3_ n4_ n5_; (try clear hb); (try clear hb2); (try clear hk); (try clear hi)))
                          go_meet
                          case rel => exact ⟨_, (true), (by first | rfl | (simp; done) | (simp [*]; done)), H', ⟨by have := HJ3.out; have := HK2.out; first | omega | exact Nat.le_refl _⟩, ⟨by (with_reducible repeat (first | apply Kd.R_alloc | apply Kd.R_drewN | apply Kd.R_drew)); exact Kd.R_mono HO_5.out (fun _ hk => hk.2)⟩, ⟨by (with_reducible repeat (first | apply Kd.R_alloc | apply Kd.R_drewN | apply Kd.R_drew)); exact Kd.R_mono HO282.out (fun _ hk => hk.1.1.2)⟩, ⟨by (with_reducible repeat (first | refine blk_drewN ?_ _ | refine blk_drew ?_ | refine blk_alloc ?_ _)); exact BK259.out⟩, ⟨by repeat (first | (with_reducible first | exact HB.out | apply below_alloc | apply pw_below_drewN | apply below_drew1 | refine below_set ?_ GE259.out) | exact HB.out)⟩⟩
                  · have H1 : (halterlaw13_RegionSizes.j2 k2 t260 t279 t280 true) = some r := by rw [if_neg (show ¬ (some q284).isNone = true by simp)] at H; exact H
                    clear H
                    have H := H1
                    clear H1
                    try simp only [errW_none, errW_some]
                    have H' := Aside0.mk H
                    clear H
                    go_wp2
                    go_meet
                    case rel => exact ⟨_, (true), (by first | rfl | (simp; done) | (simp [*]; done)), H', ⟨by have := HJ3.out; have := HK2.out; first | omega | exact Nat.le_refl _⟩, ⟨by (with_reducible repeat (first | apply Kd.R_alloc | apply Kd.R_drewN | apply Kd.R_drew)); exact Kd.R_mono HO_5.out (fun _ hk => hk.2)⟩, ⟨by (with_reducible repeat (first | apply Kd.R_alloc | apply Kd.R_drewN | apply Kd.R_drew)); exact Kd.R_mono HO282.out (fun _ hk => hk.1.1.2)⟩, ⟨by (with_reducible repeat (first | refine blk_drewN ?_ _ | refine blk_drew ?_ | refine blk_alloc ?_ _)); exact BK259.out⟩, ⟨by repeat (first | (with_reducible first | exact HB.out | apply below_alloc | apply pw_below_drewN | apply below_drew1 | refine below_set ?_ GE259.out) | exact HB.out)⟩⟩
                · have H1 : (halterlaw13_RegionSizes.j2 k2 t260 t279 t280 true) = some r := by rw [if_neg (show ¬ (some q283).isNone = true by simp)] at H; exact H
                  clear H
                  have H := H1
                  clear H1
                  try simp only [errW_none, errW_some]
                  have H' := Aside0.mk H
                  clear H
                  go_wp2
                  go_meet
                  case rel => exact ⟨_, (true), (by first | rfl | (simp; done) | (simp [*]; done)), H', ⟨by have := HJ3.out; have := HK2.out; first | omega | exact Nat.le_refl _⟩, ⟨by (with_reducible repeat (first | apply Kd.R_alloc | apply Kd.R_drewN | apply Kd.R_drew)); exact Kd.R_mono HO_5.out (fun _ hk => hk.2)⟩, ⟨by (with_reducible repeat (first | apply Kd.R_alloc | apply Kd.R_drewN | apply Kd.R_drew)); exact Kd.R_mono HO282.out (fun _ hk => hk.1.1.2)⟩, ⟨by (with_reducible repeat (first | refine blk_drewN ?_ _ | refine blk_drew ?_ | refine blk_alloc ?_ _)); exact BK259.out⟩, ⟨by repeat (first | (with_reducible first | exact HB.out | apply below_alloc | apply pw_below_drewN | apply below_drew1 | refine below_set ?_ GE259.out) | exact HB.out)⟩⟩
              case rest =>
                clear HC33
                try clear c1
                try clear c2
                try clear p2
                try clear q2
                try clear c3
                try clear c4
                try clear c5
                try clear p6
                try clear c7
                try clear c7b0
                try clear c7b1
                try clear c13
                try clear c14
                try clear c15
                try clear c16
                try clear c17
                try clear c17b0
                try clear c19
                try clear c20
                try clear c23
                try clear q26
                try clear c28
                try clear q28
                try clear c39
                try clear c39b0
                try clear c39b1
                try clear c39b2
                try clear c42
                try clear c42b0
                try clear c42b1
                try clear c52
                try clear c52b0
                try clear c52b1
                try clear c52b2
                try clear c55
                try clear c55b0
                try clear c55b1
                try clear p64
                try clear hcz16_0
                try clear hcz16_1
                try clear hcz24_0
                try clear hcz24_1
                try clear hcz24_2
                try clear hcz29_0
                try clear hcz29_1
                try clear hcz29_2
                try clear hfz16_0
                try clear hfz16_1
                try clear hfz24_0
                try clear hfz24_1
                try clear hfz24_2
                try clear hfz29_0
                try clear hfz29_1
                try clear hfz29_2
                try clear p2
                try clear p6
                try clear q2
                try clear q264
                try clear q283
                try clear q284
                try clear q285
                obtain ⟨kq, x114_32, rfl, HA, HJ32, HO_5, HO_16, BK259, HB⟩ := hcut
                cases kq with
                | zero => exact absurd HA.out (by simp [halterlaw13_RegionSizes.j2])
                | succ kj32 =>
                  have H := HA.out
                  clear HA
                  simp only [halterlaw13_RegionSizes.j2] at H
                  by_cases c65 : x114_32 = true
                  · subst c65
                    have H1 : (some false) = some r := by rw [if_pos rfl] at H; exact H
                    clear H
                    have H := H1
                    clear H1
                    obtain rfl := Option.some.inj H
                    go_wp2
                    go_ret
                    exact ⟨by first | rfl | (simp [errW_none, errW_some] <;> rfl) | (simp [*, errW_none, errW_some] <;> rfl), by repeat (first | (with_reducible first | exact HB.out | apply below_alloc | apply pw_below_drewN | apply below_drew1 | refine below_set ?_ GE259.out) | exact HB.out)⟩
                  · replace c65 := Bool.eq_false_iff.mpr c65
                    subst c65
                    have H1 : (if t280.isNone = true then ((region_Size.f kj32 t279).bind fun t295 => ((region_Size.f kj32 t260).bind fun t296 => (if t295 = t296 then ((halterlaw13_sure.f kj32).bind fun t297 => (some t297)) else (some false)))) else ((halterlaw13_sure.f kj32).bind fun t298 => (some t298))) = some r := by rw [if_neg (show ¬ (false = true) by decide)] at H; exact H
                    clear H
                    have H := H1
                    clear H1
                    rcases t280 with _ | q294
                    · have H1 : ((region_Size.f kj32 t279).bind fun t295 => ((region_Size.f kj32 t260).bind fun t296 => (if t295 = t296 then ((halterlaw13_sure.f kj32).bind fun t297 => (some t297)) else (some false)))) = some r := by rw [if_pos (show (none : Option Int).isNone = true by rfl)] at H; exact H
                      clear H
                      have H := H1
                      clear H1
                      try simp only [errW_none, errW_some]
                      replace H := Option.bind_eq_some_iff.mp H
                      obtain ⟨t295, A660, H⟩ := H
                      replace H : ((region_Size.f kj32 t260).bind fun t296 => (if t295 = t296 then ((halterlaw13_sure.f kj32).bind fun t297 => (some t297)) else (some false))) = some r := H
                      have A66 := Aside0.mk A660
                      clear A660
                      replace H := Option.bind_eq_some_iff.mp H
                      obtain ⟨t296, A670, H⟩ := H
                      replace H : (if t295 = t296 then ((halterlaw13_sure.f kj32).bind fun t297 => (some t297)) else (some false)) = some r := H
                      have A67 := Aside0.mk A670
                      clear A670
                      by_cases c68 : t295 = t296
                      · rw [if_pos c68] at H
                        have c68b0 : (t295 == t296) = true := beq_iff_eq.mpr c68
                        have c68b1 : (t295 != t296) = false := bne_eq_false_iff_eq.mpr c68
                        clear c68
                        replace H := Option.bind_eq_some_iff.mp H
                        obtain ⟨t297, A690, H⟩ := H
                        replace H : (some t297) = some r := H
                        have A69 := Aside0.mk A690
                        clear A690
                        obtain rfl := Option.some.inj H
                        obtain ⟨Ao70, co70, eo70⟩ := Kd.R_slice HO_16.out
                        subst eo70
                        go_wp2_with (first | (go_at_call 21; (with_reducible refine (region_Size.calls kj32 _ _ t279 t295 _ ?side1 ?side2 A66.out).mono ?_); (case side1 => repeat (first | exact (Kd.R_reads' HO_16.out).2.2 | (with_reducible refine Kd.C_alloc ?_ _) | (with_reducible refine Kd.C_drewN ?_ _) | (with_reducible refine Kd.C_drew ?_))); (case side2 => exact (Kd.R_reads' HO_16.out).2.1); rintro e w71 ⟨rfl, hb⟩; have n0_ := Aside0.mk (Kd.R_below (by (with_reducible repeat (first | apply Kd.R_alloc | apply Kd.R_drewN | apply Kd.R_drew)); exact HO_5.out) hb); have n1_ := Aside0.mk (Kd.R_below (by (with_reducible repeat (first | apply Kd.R_alloc | apply Kd.R_drewN | apply Kd.R_drew)); exact HO_16.out) hb); have n2_ := Aside0.mk (blk_below (g := gb259) (o := .cells #[.int .i64 a1_0, .int .i64 a1_1] 59 (0, 0)) (by (with_reducible repeat (first | refine blk_drewN ?_ _ | refine blk_drew ?_ | refine blk_alloc ?_ _)); exact BK259.out) hb); have n3_ := Aside0.mk (below_step (by repeat (first | (with_reducible first | exact HB.out | apply below_alloc | apply pw_below_drewN | apply below_drew1 | refine below_set ?_ GE259.out) | exact HB.out)) hb); clear HO_5; clear HO_16; clear BK259; clear HB; have HO_5 := n0_; have HO_16 := n1_; have BK259 := n2_; have HB := n3_; clear n0_ n1_ n2_ n3_; (try clear hb); (try clear hb2); (try clear hk); (try clear hi)) | (go_at_call 21; (with_reducible refine (region_Size.calls kj32 _ _ t260 t296 _ ?side1 ?side2 A67.out).mono ?_); (case side1 => repeat (first | exact (Kd.R_reads' HO_5.out).2.2 | (with_reducible refine Kd.C_alloc ?_ _) | (with_reducible refine Kd.C_drewN ?_ _) | (with_reducible refine Kd.C_drew ?_))); (case side2 => exact (Kd.R_reads' HO_5.out).2.1); rintro e w72 ⟨rfl, hb⟩; have n0_ := Aside0.mk (Kd.R_below (by (with_reducible repeat (first | apply Kd.R_alloc | apply Kd.R_drewN | apply Kd.R_drew)); exact HO_5.out) hb); have n1_ := Aside0.mk (Kd.R_below (by (with_reducible repeat (first | apply Kd.R_alloc | apply Kd.R_drewN | apply Kd.R_drew)); exact HO_16.out) hb); have n2_ := Aside0.mk (blk_below (g := gb259) (o := .cells #[.int .i64 a1_0, .int .i64 a1_1] 59 (0, 0)) (by (with_reducible repeat (first | refine blk_drewN ?_ _ | refine blk_drew ?_ | refine blk_alloc ?_ _)); exact BK259.out) hb); have n3_ := Aside0.mk (below_step (by repeat (first | (with_reducible first | exact HB.out | apply below_alloc | apply pw_below_drewN | apply below_drew1 | refine below_set ?_ GE259.out) | exact HB.out)) hb); clear HO_5; clear HO_16; clear BK259; clear HB; have HO_5 := n0_; have HO_16 := n1_; have BK259 := n2_; have HB := n3_; clear n0_ n1_ n2_ n3_; (try clear hb); (try clear hb2); (try clear hk); (try clear hi)) | (go_at_call 19; (with_reducible refine (halterlaw13_sure.calls kj32  t297 _ A69.out).mono ?_); rintro e w73 ⟨rfl, hb⟩; have n0_ := Aside0.mk (Kd.R_below (by (with_reducible repeat (first | apply Kd.R_alloc | apply Kd.R_drewN | apply Kd.R_drew)); exact HO_5.out) hb); have n1_ := Aside0.mk (Kd.R_below (by (with_reducible repeat (first | apply Kd.R_alloc | apply Kd.R_drewN | apply Kd.R_drew)); exact HO_16.out) hb); have n2_ := Aside0.mk (blk_below (g := gb259) (o := .cells #[.int .i64 a1_0, .int .i64 a1_1] 59 (0, 0)) (by (with_reducible repeat (first | refine blk_drewN ?_ _ | refine blk_drew ?_ | refine blk_alloc ?_ _)); exact BK259.out) hb); have n3_ := Aside0.mk (below_step (by repeat (first | (with_reducible first | exact HB.out | apply below_alloc | apply pw_below_drewN | apply below_drew1 | refine below_set ?_ GE259.out) | exact HB.out)) hb); clear HO_5; clear HO_16; clear BK259; clear HB; have HO_5 := n0_; have HO_16 := n1_; have BK259 := n2_; have HB := n3_; clear n0_ n1_ n2_ n3_; (try clear hb); (try clear hb2); (try clear hk); (try clear hi)))
                        go_ret
                        exact ⟨by first | rfl | (simp [errW_none, errW_some] <;> rfl) | (simp [*, errW_none, errW_some] <;> rfl), by repeat (first | (with_reducible first | exact HB.out | apply below_alloc | apply pw_below_drewN | apply below_drew1 | refine below_set ?_ GE259.out) | exact HB.out)⟩
                      · rw [if_neg c68] at H
                        have c68b0 : (t295 == t296) = false := beq_eq_false_iff_ne.mpr c68
                        have c68b1 : (t295 != t296) = true := bne_iff_ne.mpr c68
                        obtain rfl := Option.some.inj H
                        obtain ⟨Ao74, co74, eo74⟩ := Kd.R_slice HO_16.out
                        subst eo74
                        go_wp2_with (first | (go_at_call 21; (with_reducible refine (region_Size.calls kj32 _ _ t279 t295 _ ?side1 ?side2 A66.out).mono ?_); (case side1 => repeat (first | exact (Kd.R_reads' HO_16.out).2.2 | (with_reducible refine Kd.C_alloc ?_ _) | (with_reducible refine Kd.C_drewN ?_ _) | (with_reducible refine Kd.C_drew ?_))); (case side2 => exact (Kd.R_reads' HO_16.out).2.1); rintro e w75 ⟨rfl, hb⟩; have n0_ := Aside0.mk (Kd.R_below (by (with_reducible repeat (first | apply Kd.R_alloc | apply Kd.R_drewN | apply Kd.R_drew)); exact HO_5.out) hb); have n1_ := Aside0.mk (Kd.R_below (by (with_reducible repeat (first | apply Kd.R_alloc | apply Kd.R_drewN | apply Kd.R_drew)); exact HO_16.out) hb); have n2_ := Aside0.mk (blk_below (g := gb259) (o := .cells #[.int .i64 a1_0, .int .i64 a1_1] 59 (0, 0)) (by (with_reducible repeat (first | refine blk_drewN ?_ _ | refine blk_drew ?_ | refine blk_alloc ?_ _)); exact BK259.out) hb); have n3_ := Aside0.mk (below_step (by repeat (first | (with_reducible first | exact HB.out | apply below_alloc | apply pw_below_drewN | apply below_drew1 | refine below_set ?_ GE259.out) | exact HB.out)) hb); clear HO_5; clear HO_16; clear BK259; clear HB; have HO_5 := n0_; have HO_16 := n1_; have BK259 := n2_; have HB := n3_; clear n0_ n1_ n2_ n3_; (try clear hb); (try clear hb2); (try clear hk); (try clear hi)) | (go_at_call 21; (with_reducible refine (region_Size.calls kj32 _ _ t260 t296 _ ?side1 ?side2 A67.out).mono ?_); (case side1 => repeat (first | exact (Kd.R_reads' HO_5.out).2.2 | (with_reducible refine Kd.C_alloc ?_ _) | (with_reducible refine Kd.C_drewN ?_ _) | (with_reducible refine Kd.C_drew ?_))); (case side2 => exact (Kd.R_reads' HO_5.out).2.1); rintro e w76 ⟨rfl, hb⟩; have n0_ := Aside0.mk (Kd.R_below (by (with_reducible repeat (first | apply Kd.R_alloc | apply Kd.R_drewN | apply Kd.R_drew)); exact HO_5.out) hb); have n1_ := Aside0.mk (Kd.R_below (by (with_reducible repeat (first | apply Kd.R_alloc | apply Kd.R_drewN | apply Kd.R_drew)); exact HO_16.out) hb); have n2_ := Aside0.mk (blk_below (g := gb259) (o := .cells #[.int .i64 a1_0, .int .i64 a1_1] 59 (0, 0)) (by (with_reducible repeat (first | refine blk_drewN ?_ _ | refine blk_drew ?_ | refine blk_alloc ?_ _)); exact BK259.out) hb); have n3_ := Aside0.mk (below_step (by repeat (first | (with_reducible first | exact HB.out | apply below_alloc | apply pw_below_drewN | apply below_drew1 | refine below_set ?_ GE259.out) | exact HB.out)) hb); clear HO_5; clear HO_16; clear BK259; clear HB; have HO_5 := n0_; have HO_16 := n1_; have BK259 := n2_; have HB := n3_; clear n0_ n1_ n2_ n3_; (try clear hb); (try clear hb2); (try clear hk); (try clear hi)))
                        go_ret
                        exact ⟨by first | rfl | (simp [errW_none, errW_some] <;> rfl) | (simp [*, errW_none, errW_some] <;> rfl), by repeat (first | (with_reducible first | exact HB.out | apply below_alloc | apply pw_below_drewN | apply below_drew1 | refine below_set ?_ GE259.out) | exact HB.out)⟩
                    · have H1 : ((halterlaw13_sure.f kj32).bind fun t298 => (some t298)) = some r := by rw [if_neg (show ¬ (some q294).isNone = true by simp)] at H; exact H
                      clear H
                      have H := H1
                      clear H1
                      try simp only [errW_none, errW_some]
                      replace H := Option.bind_eq_some_iff.mp H
                      obtain ⟨t298, A770, H⟩ := H
                      replace H : (some t298) = some r := H
                      have A77 := Aside0.mk A770
                      clear A770
                      obtain rfl := Option.some.inj H
                      go_wp2_with (first | (go_at_call 19; (with_reducible refine (halterlaw13_sure.calls kj32  t298 _ A77.out).mono ?_); rintro e w78 ⟨rfl, hb⟩; have n0_ := Aside0.mk (Kd.R_below (by (with_reducible repeat (first | apply Kd.R_alloc | apply Kd.R_drewN | apply Kd.R_drew)); exact HO_5.out) hb); have n1_ := Aside0.mk (Kd.R_below (by (with_reducible repeat (first | apply Kd.R_alloc | apply Kd.R_drewN | apply Kd.R_drew)); exact HO_16.out) hb); have n2_ := Aside0.mk (blk_below (g := gb259) (o := .cells #[.int .i64 a1_0, .int .i64 a1_1] 59 (0, 0)) (by (with_reducible repeat (first | refine blk_drewN ?_ _ | refine blk_drew ?_ | refine blk_alloc ?_ _)); exact BK259.out) hb); have n3_ := Aside0.mk (below_step (by repeat (first | (with_reducible first | exact HB.out | apply below_alloc | apply pw_below_drewN | apply below_drew1 | refine below_set ?_ GE259.out) | exact HB.out)) hb); clear HO_5; clear HO_16; clear BK259; clear HB; have HO_5 := n0_; have HO_16 := n1_; have BK259 := n2_; have HB := n3_; clear n0_ n1_ n2_ n3_; (try clear hb); (try clear hb2); (try clear hk); (try clear hi)))
                      go_ret
                      exact ⟨by first | rfl | (simp [errW_none, errW_some] <;> rfl) | (simp [*, errW_none, errW_some] <;> rfl), by repeat (first | (with_reducible first | exact HB.out | apply below_alloc | apply pw_below_drewN | apply below_drew1 | refine below_set ?_ GE259.out) | exact HB.out)⟩

/-- THE ONE PURE STATEMENT of halterlaw13_RegionSizes. -/
def halterlaw13_RegionSizes.Pure : Prop := ∀ (l0 : List (S46)) (a1_0 : Int) (a1_1 : Int), (l0.length ≤ maxLen ∧ l0.length * 24 ≤ 140737488351232 ∧ ∀ x ∈ l0, ((Lit.int .i64 x.f0).wf = true ∧ (Lit.int .i64 x.f1).wf = true ∧ (Lit.int .u8 x.f2).wf = true)) → ((Lit.int .i64 a1_0).wf = true ∧ (Lit.int .i64 a1_1).wf = true) → ∃ k, halterlaw13_RegionSizes.f k l0 a1_0 a1_1 = some true

end Go.Proofs.Ytikmanafbkiikaa.XRegion
