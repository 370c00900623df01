-- Written by xprint.py (a program of this claim's author) by means of the kit's print. Not trusted: Lean checks it.
import Derived.Test.YtikmanafbkiikaaDoorLayContains
import Derived.Shelf.SlicesQ.IndexFunc
import Derived.Lib.Hide
import Derived.Test.YtikmanafbkiikaaDoorXRegionx0
import Derived.Test.YtikmanafbkiikaaDoorXRegionx4
namespace Go.Proofs.YtikmanafbkiikaaDoor.XRegion
open Go.RowKit Go.Proofs.YtikmanafbkiikaaDoorW.PrintWords Go.Proofs.YtikmanafbkiikaaDoorW.PrintLast Go.Proofs.YtikmanafbkiikaaDoorW.PrintMore
attribute [local go_sem] max2_int min2_int max_two min_two max_three min_three max_four min_four   -- for this text's walks alone
set_option linter.unusedVariables false
set_option linter.unusedSimpArgs false

-- EXTERN api_Region_92
/-! ### api_Region_92: function 92, by hand -/
def api_Region_92.f (l0 : List S109) (a1_0 a1_1 a1_2 : Int) : Option Bool := some (l0.any fun x => decide (x.f0 < a1_1) && decide (a1_0 < x.f1))
def api_Region_92.enc (x : S109) : List Value := [.int .i64 x.f0, .int .i64 x.f1, .int .u8 x.f2]
instance api_Region_92.inh : Inhabited S109 := ⟨z109⟩
set_option maxHeartbeats 1000000 in
theorem api_Region_92.pred (g : Nat) (a1_0 a1_1 a1_2 : Int) (w : World) (hb : w.heap[g]? = some (.cells #[.int .i64 a1_0, .int .i64 a1_1, .int .u8 a1_2] 109 (0, 0))) :
    PredBelow Tryd.prog 93 #[.pointer (some ⟨g, 0, none⟩)] (fun x => .agg (api_Region_92.enc x).toArray) (fun x => decide (x.f0 < a1_1) && decide (a1_0 < x.f1)) w := fun W x hB => by
  have hg : g < w.heap.size := blk_lt hb
  have hbW : W.heap[g]? = some (.cells #[.int .i64 a1_0, .int .i64 a1_1, .int .u8 a1_2] 109 (0, 0)) := (hB.block g hg).trans hb
  have c0 : W.cell? ⟨g, 0, none⟩ = some (.int .i64 a1_0) := (blk_cell hbW 0).trans rfl
  have c1 : W.cell? ⟨g, 1, none⟩ = some (.int .i64 a1_1) := (blk_cell hbW 1).trans rfl
  have c2 : W.cell? ⟨g, 2, none⟩ = some (.int .u8 a1_2) := (blk_cell hbW 2).trans rfl
  have hgW : g < W.heap.size := Nat.lt_of_lt_of_le hg hB.size
  have hne : g ≠ W.heap.size := by omega
  have hm : region_meets.f x.f0 x.f1 x.f2 a1_0 a1_1 = some (decide (x.f0 < a1_1) && decide (a1_0 < x.f1)) := by
    unfold region_meets.f
    by_cases h : x.f0 < a1_1
    · rw [if_pos h, decide_eq_true h, Bool.true_and]
    · rw [if_neg h, decide_eq_false h, Bool.false_and]
  have Hm := Lib.hid hm
  have HB := Lib.hid hB
  clear hm hB hb hbW hg
  show Calls Tryd.prog 93 #[.agg #[.int .i64 x.f0, .int .i64 x.f1, .int .u8 x.f2], .pointer (some ⟨g, 0, none⟩)] W fun e w' => e = .returned (.bool (decide (x.f0 < a1_1) && decide (a1_0 < x.f1))) ∧ Below w.heap.size w w'
  generalize (decide (x.f0 < a1_1) && decide (a1_0 < x.f1)) = q at *
  go_enter Tryd.func93, Tryd.ntmps93
  go_wp2_with fail
  refine (region_meets.calls _ _ _ _ _ q _ Hm.out).mono ?_
  rintro e w1 ⟨rfl, hb1⟩
  have H1 := Lib.hid hb1
  clear hb1
  go_wp2
  go_ret
  exact ⟨rfl, HB.out.trans ((Below.trans (by repeat (first | exact Below.refl _ _ | apply below_alloc | apply pw_below_drewN | apply below_drew1)) (H1.out.mono (by first | exact Nat.le_refl _ | simp))).mono HB.out.size)⟩
set_option maxHeartbeats 1000000 in
theorem api_Region_92.calls (A0 : Option Addr) (c0 : Nat) (l0 : List S109) (g : Nat) (a1_0 a1_1 a1_2 : Int) (r : Bool) (w : World) (hr0 : Kd.C k109 w A0 l0.length l0) (hc0 : l0.length ≤ c0)
    (hb : w.heap[g]? = some (.cells #[.int .i64 a1_0, .int .i64 a1_1, .int .u8 a1_2] 109 (0, 0))) (h : api_Region_92.f l0 a1_0 a1_1 a1_2 = some r) :
    Calls Tryd.prog 92 #[.slice A0 l0.length c0, .func (.func 93) #[] #[.pointer (some ⟨g, 0, none⟩)]] w fun e w' => e = .returned (.bool r) ∧ Below w.heap.size w w' := by
  unfold api_Region_92.f at h
  obtain rfl := Option.some.inj h
  have eg : ∀ args w, (callFunc 93 args).run Tryd.prog w = .ok (.enter 93 args) w := enters_of Tryd.func93 (by kernel_rfl) rfl
  rcases Nat.eq_zero_or_pos l0.length with h0 | h0
  · have hl : l0 = [] := List.length_eq_zero_iff.1 h0
    subst hl
    clear hr0 hc0 hb eg h
    have hi : ∀ W : World, Calls Tryd.prog 107 #[.slice A0 0 c0, .func (.func 93) #[] #[.pointer (some ⟨g, 0, none⟩)]] W fun e w' => e = .returned (.int .i64 (-1)) ∧ w' = W := by
      intro W
      go_enter Tryd.func107, Tryd.ntmps107
      go_wp2
      refine wp_loop_rounds 1 ?_
      rw [rounds_succ]
      go_wp2
      go_ret
      exact ⟨rfl, rfl⟩
    show Calls Tryd.prog 92 #[.slice A0 0 c0, _] w _
    go_enter Tryd.func92, Tryd.ntmps92
    go_wp2_with fail
    refine (hi _).mono ?_
    rintro e w' ⟨rfl, rfl⟩
    go_wp2
    go_ret
    exact ⟨rfl, Below.refl _ _⟩
  · obtain ⟨ad, rfl, hcell⟩ := hr0.2.2 h0
    have hbig := hr0.2.1
    have hone : ∀ j, j < l0.length → ∀ i v, (api_Region_92.enc l0[j]!)[i]? = some v → w.cell? (ad.add (j * 3 + i)) = some v := fun j hj i v hv => by
      obtain ⟨c, _, hK, hc⟩ := hcell j l0[j]! (by simp [hj])
      obtain rfl := k109_open hK
      exact hc i v hv
    have h00 : w.cell? ad = some (.int .i64 l0[0]!.f0) := hone 0 h0 0 _ rfl
    have hsp : ad.spot = none := by
      unfold World.cell? at h00
      split at h00
      · split at h00
        · cases h00
        · rename_i hs; simpa using hs
      · cases h00
    obtain ⟨bk, off, sp⟩ := ad
    subst hsp
    have hcs : ∀ j, j < l0.length → ∀ i v, (api_Region_92.enc l0[j]!)[i]? = some v → w.cell? ⟨bk, off + j * 3 + i, none⟩ = some v := fun j hj i v hv => by
      have := hone j hj i v hv
      rw [Addr.add_lit] at this
      rwa [Nat.add_assoc]
    have hlt : bk < w.heap.size := World.block_lt_of_cell? w _ h00
    have hcon := AnyQ.slices_ContainsFunc (P := Tryd.prog) Tryd.containsRegion 3 (fun _ => by kernel_rfl) (fun _ => by kernel_rfl) api_Region_92.enc (fun _ => rfl) (fun x => decide (x.f0 < a1_1) && decide (a1_0 < x.f1)) 93 #[.pointer (some ⟨g, 0, none⟩)] eg bk off l0.length c0 l0 w
      (api_Region_92.pred g a1_0 a1_1 a1_2 w hb) (Nat.le_refl _) hbig hlt hcs
    rw [List.take_length] at hcon
    exact hcon

end Go.Proofs.YtikmanafbkiikaaDoor.XRegion
