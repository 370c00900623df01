/- Tables, walked: the upper parts that have frames, one by one (an iterator); Frames. -/
import Derived.Test.YtikmanafbkiikaaDoorTable3
import Derived.Test.YtikmanafbkiikaaDoorEach
import Derived.RangeFuncNested
import Derived.RangeFuncBound
import Derived.RangeFuncCalls
import Derived.RangeFuncLeaves
import Derived.Shelf.Abstract
import Derived.Shelf.RegionOpen
import Derived.OwnWalkIn
import Derived.TacticsInMore
import Derived.LoopNIn
import Derived.LoopIn
namespace Go.Proofs.YtikmanafbkiikaaDoor
set_option linter.unusedSimpArgs false
set_option linter.unusedVariables false
open Go Go.RowKit Go.Shelf Go.Proofs.YtikmanafbkiikaaDoorW.PrintWords Go.Proofs.YtikmanafbkiikaaDoorW.PrintMore Go.Proofs.YtikmanafbkiikaaDoor.RowK
attribute [local go_sem] Oper.semAt_some

/-- The upper parts that have frames, of the first j; with their frames. -/
def lowsTo (bs : List Int) (d j : Nat) : List (Nat × Int) := ((List.range j).filter fun u => isEnt (wd bs d u)).map fun u => (u, wd bs d u / 256)
theorem lowsTo_succ (bs : List Int) (d j : Nat) : lowsTo bs d (j + 1) = lowsTo bs d j ++ (if isEnt (wd bs d j) then [(j, wd bs d j / 256)] else []) := by
  unfold lowsTo
  rw [List.range_succ, List.filter_append, List.map_append]
  congr 1
  cases h : isEnt (wd bs d j) <;> simp [h]
theorem lowsTo_prefix (bs : List Int) (d : Nat) : ∀ (i j : Nat), lowsTo bs d i <+: lowsTo bs d (i + j)
  | i, 0 => List.prefix_refl _
  | i, j + 1 => by
    rw [show i + (j + 1) = i + j + 1 by omega, lowsTo_succ]
    exact (lowsTo_prefix bs d i j).trans (List.prefix_append _ _)
/-- Each number of the table's own frame is 0, or an entry's. -/
def Lows (bs : List Int) (d : Nat) : Prop := ∀ u, u < 64 → wd bs d u = 0 ∨ isEnt (wd bs d u) = true
def encL (x : Nat × Int) : Array Value := #[.int .i64 (x.1 : Int), .int .i64 x.2]
set_option maxHeartbeats 4000000 in
set_option maxRecDepth 100000 in
theorem lowers_each (n : Nat) (hn : 2 ≤ n) (pt pf gf pm gm k d : Nat) (rs bs : List Int) (hl : Lows bs d) :
    EachIn Fence.wide n Tryd.prog 72 #[.pointer (some ⟨pt, 0, none⟩)] #[] encL (lowsTo bs d 64) (fun W => Tab W pt pf gf pm gm k rs bs d) := by
  intro l J W1 hJb hJT hY h0
  have h1 : 1 ≤ n := by omega
  refine callsIn_of_wp Tryd.func72 rfl trivial ?_ rfl
  simp only [Tryd.ntmps72, List.size_toArray, List.length_cons, List.length_nil, Nat.reduceAdd, Nat.reduceSub, Array.replicate_succ, Array.replicate_zero, List.push_toArray, List.append_toArray, List.nil_append, List.cons_append]
  gi_wp2
  gi_loopw [8] (fun s8 wr => ∃ u : Nat, s8 = .int .i64 (u : Nat) ∧ u ≤ 64 ∧ Aside (J (lowsTo bs d u) wr)) (fun s8 _ => 64 - (intOf s8).toNat)
  case atStart => exact ⟨0, rfl, Nat.zero_le _, h0⟩
  case round =>
    obtain ⟨u, rfl, hu, hJ⟩ := hrel
    by_cases hu64 : u < 64
    · have hui : (u : Int) < 64 := by omega
      have HY := Lib.hid hY
      have HL := Lib.hid hl
      have HB := Lib.hid hJb
      have HT := Lib.hid hJT
      clear hY hl hJb hJT h0
      rcases HL.out u hu64 with hz | he
      · have HZ := Lib.hid hz
        clear hz
        gi_wp2_with fail
        refine ⟨trivial, ?_⟩
        gi_at_call 69
        refine (callsIn_wide.2 (tab_lower wr pt pf gf pm gm k d rs bs (HT.out _ _ hJ.out) u hu64)).mono ?_
        rintro e w1 ⟨rfl, hb⟩
        rw [HZ.out, isEnt_zero, if_neg (by decide), entDecE_zero, errW_none]
        have J1 := Lib.hid (HB.out _ _ _ hJ.out hb)
        clear hb
        gi_wp2
        refine ⟨fun _ h => (by cases h), ?_⟩
        gi_wp2
        go_roundw
        case rel => exact ⟨u + 1, by go_num, by omega, by show J _ _; rw [lowsTo_succ, HZ.out, isEnt_zero, if_neg (by decide), List.append_nil]; exact J1.out⟩
        case measure => simp [intOf]; omega
      · have HE := Lib.hid he
        clear he
        gi_wp2_with fail
        refine ⟨trivial, ?_⟩
        gi_at_call 69
        refine (callsIn_wide.2 (tab_lower wr pt pf gf pm gm k d rs bs (HT.out _ _ hJ.out) u hu64)).mono ?_
        rintro e w1 ⟨rfl, hb⟩
        rw [HE.out, if_pos rfl, show entDecE (wd bs d u) = none by unfold entDecE; rw [HE.out, Bool.or_true]; rfl, errW_none]
        have J1 := Lib.hid (HB.out _ _ _ hJ.out hb)
        clear hb
        obtain ⟨fn, tmps, assign, body, hy, hR⟩ := HY.out (lowsTo bs d u) (u, wd bs d u / 256) w1 J1.out (by
          have h1 := lowsTo_succ bs d u
          rw [HE.out, if_pos rfl] at h1
          rw [← h1]
          have := lowsTo_prefix bs d (u + 1) (64 - (u + 1))
          rwa [show u + 1 + (64 - (u + 1)) = 64 by omega] at this)
        simp only [encL] at hy
        gi_wp2
        refine hR.mono ?_
        rintro e W3 ⟨rfl, hJ3⟩
        have J3 := Lib.hid hJ3
        clear hJ3
        gi_wp2
        go_roundw
        case rel => exact ⟨u + 1, by go_num, by omega, by show J _ _; rw [lowsTo_succ, HE.out, if_pos rfl]; exact J3.out⟩
        case measure => simp [intOf]; omega
    · have hui : ¬ (u : Int) < 64 := by omega
      obtain rfl : u = 64 := by omega
      gi_wp2
      go_end0
      exact ⟨⟨_, rfl⟩, hJ.out⟩
theorem put_blk {W : World} {l k : Nat} {o o' x : Obj} (hl : W.heap[l]? = some o) (ho : o.isCells = false) (hx : W.heap[k]? = some x) (hc : x.isCells = true) : (W.putObj l o').heap[k]? = some x := by
  have hne : k ≠ l := fun e => by
    subst e
    rw [hl] at hx
    obtain rfl := Option.some.inj hx
    rw [ho] at hc
    cases hc
  exact (World.putObj_heap_other hne).trans hx
theorem Tab.put {W : World} {pt pf gf pm gm k d : Nat} {rs bs : List Int} (h : Tab W pt pf gf pm gm k rs bs d) {l : Nat} {o : Obj} (o' : Obj) (hl : W.heap[l]? = some o) (ho : o.isCells = false) : Tab (W.putObj l o') pt pf gf pm gm k rs bs d :=
  ⟨put_blk hl ho h.cell rfl, ⟨put_blk hl ho h.frm.cell rfl, put_blk hl ho h.frm.row rfl, h.frm.len, h.frm.ne, h.frm.lim, h.frm.few⟩, ⟨put_blk hl ho h.mem.cell rfl, put_blk hl ho h.mem.row rfl, h.mem.len, h.mem.ne, h.mem.lim⟩, h.byt, h.n1, h.n2, h.n3, h.n4, h.n5, h.hd⟩
theorem lowsTo_le (bs : List Int) (d j : Nat) : (lowsTo bs d j).length ≤ j := by
  unfold lowsTo
  rw [List.length_map]
  exact Nat.le_trans (List.length_filter_le _ _) (by rw [List.length_range]; exact Nat.le_refl _)
theorem lowsTo_len {bs : List Int} {d : Nat} {pre : List (Nat × Int)} {x : Nat × Int} (h : pre ++ [x] <+: lowsTo bs d 64) : pre.length < 64 := by
  have h1 := h.length_le
  have h2 := lowsTo_le bs d 64
  rw [List.length_append, List.length_singleton] at h1
  omega
theorem Below.putO {B : Nat} {a W : World} (h : Below B a W) {l : Nat} {o o' : Obj} (hl : W.heap[l]? = some o) (hB : B ≤ l) : Below B a (W.putObj l o') := by
  have hz := blk_lt hl
  exact h.trans ⟨rfl, rfl, rfl, by simp [World.putObj], fun k hk => World.putObj_heap_other (by omega)⟩
set_option maxHeartbeats 4000000 in
set_option maxRecDepth 100000 in
theorem tab_frames (w : World) (pt pf gf pm gm k d : Nat) (rs bs : List Int) (h : Tab w pt pf gf pm gm k rs bs d) (hl : Lows bs d) :
    Calls Tryd.prog 29 #[.pointer (some ⟨pt, 0, none⟩)] w fun e w' => e = .returned (.int .i64 (1 + (lowsTo bs d 64).length)) ∧ Below w.heap.size w w' := by
  have H := Lib.hid h
  have HL := Lib.hid hl
  clear h hl
  refine (callsIn_wide (n := 5)).1 ?_
  refine callsIn_of_wp_marks Tryd.func29 rfl trivial ?_ rfl
  simp only [Tryd.ntmps29, List.size_toArray, List.length_cons, List.length_nil, Nat.reduceAdd, Nat.reduceSub, Array.replicate_succ, Array.replicate_zero, List.push_toArray, List.append_toArray, List.nil_append, List.cons_append]
  gi_wp2_with fail
  refine ⟨trivial, ?_⟩
  gi_at_call 67
  refine (callsIn_wide.2 (tab_dead w pt pf gf pm gm k d rs bs H.out)).mono ?_
  rintro e w1 ⟨rfl, rfl⟩
  gi_wp2_with fail
  have B0 : Below w.heap.size w (w.alloc (.cells #[.int .i64 1] 3 (0, 0))) := (Below.refl _ w).alloc (Nat.le_refl _) _
  have T0 := H.out.below B0
  refine each_of (n := 5) rfl (by decide) (gf := 72) (fst := #[.pointer (some ⟨pt, 0, none⟩)]) (lb := #[]) rfl trivial (enters_of Tryd.func72 (by kernel_rfl) rfl) (lowsTo bs d 64) (lowers_each 4 (by decide) pt pf gf pm gm k d rs bs HL.out) (fun _ => rfl)
    (fun pre W => Tab W pt pf gf pm gm k rs bs d ∧ W.heap[w.heap.size]? = some (.cells #[.int .i64 (1 + (pre.length : Int))] 3 (0, 0)) ∧ Below w.heap.size w W) ?_ ?_ ?_ ?_
    (fun x => { tmps := #[.pointer (some ⟨pt, 0, none⟩), undef, .int .i64 0, .pointer (some ⟨w.heap.size, 0, none⟩), .pointer (some ⟨pt, 0, none⟩), .bool false, .pointer (some ⟨pt, 0, none⟩), .func (.func 72) #[.pointer (some ⟨pt, 0, none⟩)] #[], .int .i64 (x.1 : Int), .int .i64 x.2, undef, undef, undef], defers := [] }) ?_ ?_ ?_
  · exact fun pre W h => h.1
  · rintro pre W W' ⟨h1, h2, h3⟩ hb
    exact ⟨h1.below hb, (hb.block _ (blk_lt h2)).trans h2, h3.trans (hb.mono h3.size)⟩
  · rintro pre W l o o' ⟨h1, h2, h3⟩ hl ho hc
    exact ⟨h1.put o' ho hc, put_blk ho hc h2 rfl, Below.putO h3 ho (by simp at hl; omega)⟩
  · exact ⟨T0, heap_alloc_new _ _, B0⟩
  · intro l x W K hK
    gi_wp2
    simpa [encL] using hK
  · rintro l pre x W ⟨h1, h2, h3⟩ hp
    have c0 : W.cell? ⟨w.heap.size, 0, none⟩ = some (.int .i64 (1 + (pre.length : Int))) := (cell_of_row _ _ _ _ _ _ h2).trans rfl
    have f0 : W.frozen? ⟨w.heap.size, 0, none⟩ = false := frozen_of_row _ _ _ _ _ h2
    have hz := blk_lt h2
    have HC := Lib.hid (And.intro h1 (And.intro h2 h3))
    have hlen := lowsTo_len hp
    clear h1 h2 h3 B0 T0 hp
    gi_wp2
    have hv : 1 + (pre.length : Int) + 1 = 1 + ((pre ++ [x]).length : Int) := by
      rw [List.length_append, List.length_singleton]
      omega
    rw [hv]
    have hb : Below w.heap.size w (W.setCell ⟨w.heap.size, 0, none⟩ (.int .i64 (1 + ((pre ++ [x]).length : Int)))) := HC.out.2.2.setCell (Nat.le_refl _) _
    exact ⟨⟨by simp [World.setCell], fun k o hk ho _ => (Below.heap_setCell _ _ _ _ (by simp at hk; show k ≠ w.heap.size; omega)).trans ho⟩, H.out.below hb, (heap_setCell_same _ _ _ _ _ _ HC.out.2.1).trans rfl, hb⟩
  · rintro W ⟨h1, h2, h3⟩ hk
    have c0 : W.cell? ⟨w.heap.size, 0, none⟩ = some (.int .i64 (1 + ((lowsTo bs d 64).length : Int))) := (cell_of_row _ _ _ _ _ _ h2).trans rfl
    have HC := Lib.hid (And.intro h1 (And.intro h2 h3))
    have HK := Lib.hid hk
    clear h1 h2 h3 B0 T0 hk
    gi_wp2
    have hz := blk_lt HK.out
    refine ⟨by simp, .inl ⟨_, _, rfl, run_takeDeferred HK.out, ?_⟩⟩
    refine ⟨_, results_tmp rfl _ _ _, ?_⟩
    exact ⟨rfl, Below.putO HC.out.2.2 HK.out (by simp)⟩
end Go.Proofs.YtikmanafbkiikaaDoor
