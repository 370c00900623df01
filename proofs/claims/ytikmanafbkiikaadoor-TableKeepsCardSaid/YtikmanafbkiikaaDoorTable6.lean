/- Tables, walked: Free. -/
import Derived.Test.YtikmanafbkiikaaDoorTable5
namespace Go.Proofs.YtikmanafbkiikaaDoor
set_option linter.unusedSimpArgs false
set_option linter.unusedVariables false
open Go Go.RowKit Go.Shelf Go.Proofs.YtikmanafbkiikaaDoorW.PrintWords Go.Proofs.YtikmanafbkiikaaDoorW.PrintMore Go.Proofs.YtikmanafbkiikaaDoor.RowK
attribute [local go_sem] Oper.semAt_some

/-- A frame is given back. -/
def unref1 (rs : List Int) (n : Int) : List Int := if 0 < refsOf rs n then rs.set n.toNat (refsOf rs n - 1) else rs
def unrefs (rs : List Int) (ns : List Int) : List Int := ns.foldl unref1 rs
theorem unrefs_snoc (rs ns : List Int) (n : Int) : unrefs rs (ns ++ [n]) = unref1 (unrefs rs ns) n := by
  unfold unrefs
  rw [List.foldl_append]
  rfl
set_option maxHeartbeats 4000000 in
set_option maxRecDepth 100000 in
theorem frUnref (w : World) (p g k : Nat) (rs : List Int) (h : Frm w p g k rs) (n : Int) :
    Calls Tryd.prog 73 #[.pointer (some ⟨p, 0, none⟩), .int .i64 n] w fun e w' => (∃ x E, e = .returned (.tuple #[.bool x, E])) ∧ Frm w' p g k (unref1 rs n) ∧ Oth w w' g := by
  by_cases hp : 0 < refsOf rs n
  · refine (frUnref_ok w p g k rs h n hp).mono ?_
    rintro e w' ⟨rfl, hf, ho⟩
    exact ⟨⟨_, _, rfl⟩, by unfold unref1; rw [if_pos hp]; exact hf, ho⟩
  · refine (frUnref_no w p g k rs h n hp).mono ?_
    rintro e w' ⟨rfl, rfl⟩
    exact ⟨⟨_, _, rfl⟩, by unfold unref1; rw [if_neg hp]; exact h, Oth.refl _ _⟩
/-- The box B holds a slice that owns L; below n0 all is as it was. -/
def Has (w0 : World) (n0 B : Nat) (W : World) (L : List Int) : Prop :=
  (∃ v, Boxed W B 59 v ∧ W.ownsRow n0 3 1 v L.length (L.map (Value.int .i64))) ∧ Below n0 w0 W
theorem Has.below {w0 W W' : World} {n0 B : Nat} {L : List Int} (h : Has w0 n0 B W L) (hn : n0 ≤ B) (hb : Below W.heap.size W W') : Has w0 n0 B W' L := by
  obtain ⟨⟨v, h1, h2⟩, h4⟩ := h
  exact ⟨⟨v, (hb.block _ h1.lt).trans h1, own_below h2 hb⟩, h4.trans (hb.mono (by have := h1.lt; omega))⟩
theorem Has.put {w0 W : World} {n0 B : Nat} {L : List Int} (h : Has w0 n0 B W L) {l : Nat} {o : Obj} (o' : Obj) (hl : W.heap[l]? = some o) (ho : o.isCells = false) (hB : n0 ≤ l) : Has w0 n0 B (W.putObj l o') L := by
  obtain ⟨⟨v, h1, h2⟩, h4⟩ := h
  exact ⟨⟨v, put_blk hl ho h1 rfl, ownsRow_putObj h2 _ hl ho⟩, Below.putO h4 hl hB⟩
def ownOf (d : Nat) (xs : List (Nat × Int)) : List Int := (d : Int) :: xs.map (·.2)
theorem ownOf_snoc (d : Nat) (xs : List (Nat × Int)) (x : Nat × Int) : ownOf d (xs ++ [x]) = ownOf d xs ++ [x.2] := by simp [ownOf]
theorem ownOf_length (d : Nat) (xs : List (Nat × Int)) : (ownOf d xs).length = xs.length + 1 := by simp [ownOf]
set_option maxHeartbeats 4000000 in
set_option maxRecDepth 100000 in
theorem tab_free (w : World) (pt pf gf pm gm k d : Nat) (rs bs : List Int) (h : Tab w pt pf gf pm gm k rs bs d) (hpf : pt ≠ pf) (hpm : pt ≠ pm) (hl : Lows bs d) :
    Calls Tryd.prog 24 #[.pointer (some ⟨pt, 0, none⟩)] w fun e w' => (∃ v, e = .returned v) ∧ Frm w' pf gf k (unrefs rs ((d : Int) :: (lowsTo bs d 64).map (·.2))) ∧ Agr (fun b => b ≠ gf ∧ b ≠ pt) w w' ∧
      w'.heap[pt]? = some (.cells #[.pointer none, .pointer none, .int .i64 0] 143 (0, 0)) := by
  have H := Lib.hid h
  have HL := Lib.hid hl
  clear h hl
  obtain ⟨i0, hi, hz0, hz1, hz2⟩ := info_parts intInfo
  refine (callsIn_wide (n := 5)).1 ?_
  refine callsIn_of_wp_marks Tryd.func24 rfl trivial ?_ rfl
  simp only [Tryd.ntmps24, List.size_toArray, List.length_cons, List.length_nil, Nat.reduceAdd, Nat.reduceSub, Array.replicate_succ, Array.replicate_zero, List.push_toArray, List.append_toArray, List.nil_append, List.cons_append]
  gi_wp2_with fail
  refine ⟨trivial, ?_⟩
  gi_at_call 67
  refine (callsIn_wide.2 (tab_dead w pt pf gf pm gm k d rs bs H.out)).mono ?_
  rintro e w2 ⟨rfl, rfl⟩
  obtain ⟨c0, c1, c2⟩ := H.out.c
  gi_wp2_with fail
  obtain ⟨W0, hW0⟩ : ∃ W0, (w.alloc (.cells #[.int .i64 (d : Int)] 3 (0, 0))).alloc (.cells #[.slice (some ⟨w.heap.size, 0, none⟩) 1 1] 59 (0, 0)) = W0 := ⟨_, rfl⟩
  have hz0' : W0.heap.size = w.heap.size + 2 := by rw [← hW0]; simp
  have O0 : Has w w.heap.size (w.heap.size + 1) W0 (ownOf d []) := by
    rw [← hW0]
    refine ⟨⟨_, ?_, (World.ownsRow_lit w #[.int .i64 (d : Int)] 1 (Nat.le_refl _) (by decide) rfl).alloc _⟩, ((Below.refl _ w).alloc (Nat.le_refl _) _).alloc (by simp) _⟩
    have := Boxed.new (w.alloc (.cells #[.int .i64 (d : Int)] 3 (0, 0))) 59 (.slice (some ⟨w.heap.size, 0, none⟩) 1 1)
    rwa [World.size_alloc] at this
  rw [hW0]
  clear c0 c1 c2 hW0
  refine each_of (n := 5) rfl (by decide) (gf := 72) (fst := #[.pointer (some ⟨pt, 0, none⟩)]) (lb := #[]) rfl trivial (enters_of Tryd.func72 (by kernel_rfl) rfl) (lowsTo bs d 64) (lowers_each 4 (by decide) pt pf gf pm gm k d rs bs HL.out) (fun _ => rfl)
    (fun pre W => Has w w.heap.size (w.heap.size + 1) W (ownOf d pre)) ?_ ?_ ?_ ?_
    (fun x => { tmps := #[.pointer (some ⟨pt, 0, none⟩), undef, .pointer (some ⟨w.heap.size + 1, 0, none⟩), undef, .int .i64 x.2, undef, undef, .pointer (some ⟨pt, 0, none⟩), .bool false, .pointer (some ⟨pt, 0, none⟩), .pointer (some ⟨pt, 0, none⟩), .pointer (some ⟨pt, 2, none⟩), .int .i64 (d : Int), .slice (some ⟨w.heap.size, 0, none⟩) 1 1, .pointer (some ⟨pt, 0, none⟩), .func (.func 72) #[.pointer (some ⟨pt, 0, none⟩)] #[], .int .i64 (x.1 : Int), .int .i64 x.2, undef, undef, undef, undef, undef, undef, undef, undef, undef, undef, undef, undef, undef, undef, undef, undef, undef, undef, undef, undef, undef, undef, undef], defers := [] }) ?_ ?_ ?_
  · exact fun pre W h => H.out.below h.2
  · exact fun pre W W' h hb => h.below (by omega) hb
  · exact fun pre W l o o' h hl ho hc => h.put o' ho hc (by omega)
  · exact O0
  · intro l x W K hK
    gi_wp2
    simpa [encL] using hK
  · rintro l pre x W hO hp
    have hlen := lowsTo_len hp
    obtain ⟨u, n⟩ := x
    obtain ⟨⟨v, hv, hrow⟩, hB⟩ := hO
    have hc := hv.cell
    have hL1 := ownOf_length d pre
    obtain ⟨L, hL⟩ : ∃ L, L = ownOf d pre := ⟨_, rfl⟩
    rw [← hL] at hrow hL1
    have hL65 : L.length ≤ 65 := by omega
    have HL2 := Lib.hid hL
    clear hL1
    have HB4 := Lib.hid hB
    clear hL hB hp O0
    gi_wp2_with (gi_at_builtin; refine wpListIn_append_own _ rfl _ _ 59 rfl w.heap.size 3 i0 (.int .i64 0) 1 8 Tryd.underlying59 hi hz0 hz1 hz2 rfl (by decide) _ _ _ rfl (hrow.alloc _) ⟨W.heap.size, 0, none⟩ 1 1 [.int .i64 n] rfl rfl (cell_one_new _ _ _) (by simp [Value.oneCell']) (by unfold maxLen; omega) (by omega) (by have := hv.lt; simp; omega) ?_; intro v' w3 hown' hgrow _; obtain ⟨g', cap', rfl⟩ := ownsRow_succ hown'; obtain ⟨hv1, hv2, hr2, hk2, hb2⟩ := hv.appended (by decide) hrow (by have := hv.lt; omega) (by omega) hown' hgrow; have hc1 := hv1.cell; have hf1 := hv1.frozen)
    refine ⟨⟨hk2.size, fun q o _ ho hcc => hk2.same q o ho hcc⟩, ⟨⟨_, hv2, ?_⟩, HB4.out.trans hb2⟩⟩
    rw [ownOf_snoc, ← HL2.out]
    simpa using hr2
  · rintro W hO hk
    obtain ⟨⟨v, hv, hrow⟩, hB⟩ := hO
    have hc := hv.cell
    have hlen := lowsTo_le bs d 64
    have hLl := ownOf_length d (lowsTo bs d 64)
    obtain ⟨L, hL⟩ : ∃ L, L = ownOf d (lowsTo bs d 64) := ⟨_, rfl⟩
    rw [← hL] at hrow hLl
    obtain ⟨N, hN⟩ : ∃ N, N = L.length := ⟨_, rfl⟩
    rw [← hN] at hrow hLl
    have hN65 : N ≤ 65 := by omega
    have hN0 : 0 < N := by omega
    have HLL := Lib.hid hL
    have HNN := Lib.hid hN
    have hrow2 := hrow
    rcases hrow2.2 with ⟨_, h0⟩ | ⟨g, cap, cur, rfl, hbg, hgb, hnc, hcm, _⟩
    · omega
    have HR := Lib.hid hrow
    have TW := Lib.hid (H.out.below hB)
    have HBB := Lib.hid hB
    have HKK := Lib.hid hk
    have HG := Lib.hid hgb
    have HZ0 := Lib.hid hz0'
    clear hz0'
    have hgg : g ≠ gf := fun e => by have := blk_lt H.out.frm.row; omega
    clear hv hrow hrow2 hB hk hgb hnc hcm hL hN hLl hlen O0
    gi_wp2
    gi_loopw [24] (fun s24 wr => ∃ j : Nat, s24 = .int .i64 (j : Nat) ∧ j ≤ N ∧ Aside (Frm wr pf gf k (unrefs rs (L.take j)) ∧ Agr (fun b => b ≠ gf) W wr)) (fun s24 _ => N - (intOf s24).toNat)
    case atStart => exact ⟨0, rfl, Nat.zero_le _, TW.out.frm, Agr.refl _ _⟩
    case round =>
      obtain ⟨j, rfl, hj, hS⟩ := hrel
      by_cases hjN : j < N
      · have hji : (j : Int) < N := by omega
        obtain ⟨x, hx⟩ : ∃ x, L[j]? = some x := ⟨_, List.getElem?_eq_getElem (by have := HNN.out; omega)⟩
        have ct : wr.cell? ⟨pt, 0, none⟩ = some (.pointer (some ⟨pf, 0, none⟩)) := (World.cell?_of_block (w := W) (hS.out.2.block _ (blk_lt TW.out.cell) H.out.n2)).trans TW.out.c.1
        have cx : wr.cell? ⟨g, j, none⟩ = some (.int .i64 x) := (World.cell?_of_block (w := W) (hS.out.2.block _ (blk_lt HG.out) hgg)).trans ((HR.out.cellAt j (by omega)).trans (by simp [hx]))
        have HX := Lib.hid hx
        clear hx
        gi_wp2_with fail
        refine ⟨trivial, ?_⟩
        gi_at_call 73
        refine (callsIn_wide.2 (frUnref wr pf gf k _ hS.out.1 x)).mono ?_
        rintro e w4 ⟨⟨b, E, rfl⟩, hf4, ho4⟩
        have F4 := Lib.hid hf4
        have A4 := Lib.hid (hS.out.2.trans (Agr.oth ho4 (fun h => h rfl)))
        clear hf4 ho4 ct cx
        gi_wp2
        go_roundw
        case rel => exact ⟨j + 1, by go_num, by omega, by rw [List.take_add_one, HX.out, Option.toList_some, unrefs_snoc]; exact F4.out, A4.out⟩
        case measure => simp [intOf]; omega
      · have hji : ¬ (j : Int) < N := by omega
        obtain rfl : j = N := by omega
        have hcell : wr.heap[pt]? = some (.cells #[.pointer (some ⟨pf, 0, none⟩), .pointer (some ⟨pm, 0, none⟩), .int .i64 d] 143 (0, 0)) := (hS.out.2.block _ (blk_lt TW.out.cell) H.out.n2).trans TW.out.cell
        have y0 : wr.cell? ⟨pt, 0, none⟩ = some (.pointer (some ⟨pf, 0, none⟩)) := (cell_of_row _ _ _ _ _ _ hcell).trans rfl
        have y1 : wr.cell? ⟨pt, 1, none⟩ = some (.pointer (some ⟨pm, 0, none⟩)) := (cell_of_row _ _ _ _ _ _ hcell).trans rfl
        have y2 : wr.cell? ⟨pt, 2, none⟩ = some (.int .i64 d) := (cell_of_row _ _ _ _ _ _ hcell).trans rfl
        have f0 : wr.frozen? ⟨pt, 0, none⟩ = false := frozen_of_row _ _ _ _ _ hcell
        have f1 : wr.frozen? ⟨pt, 1, none⟩ = false := frozen_of_row _ _ _ _ _ hcell
        have f2 : wr.frozen? ⟨pt, 2, none⟩ = false := frozen_of_row _ _ _ _ _ hcell
        have HC := Lib.hid hcell
        clear hcell
        gi_wp2
        have hD : (((wr.setCell ⟨pt, 0, none⟩ (.pointer none)).setCell ⟨pt, 1, none⟩ (.pointer none)).setCell ⟨pt, 2, none⟩ (.int .i64 0)).heap[W0.heap.size]? = some (.deferred (some [])) := by
          have e1 := blk_lt H.out.cell
          have e2 := HZ0.out
          rw [Below.heap_setCell _ _ _ _ (by show W0.heap.size ≠ pt; omega), Below.heap_setCell _ _ _ _ (by show W0.heap.size ≠ pt; omega), Below.heap_setCell _ _ _ _ (by show W0.heap.size ≠ pt; omega)]
          exact (hS.out.2.block _ (blk_lt HKK.out) (by have := blk_lt H.out.frm.row; omega)).trans HKK.out
        refine ⟨by simp, .inl ⟨_, _, rfl, run_takeDeferred hD, ?_⟩⟩
        refine ⟨_, results_none (by rfl) _ _ _, ?_⟩
        have e1 := blk_lt H.out.cell
        have e2 := HZ0.out
        have hfr : Frm wr pf gf k (unrefs rs ((d : Int) :: (lowsTo bs d 64).map (·.2))) := by
          have := hS.out.1
          rwa [List.take_of_length_le (by rw [← HNN.out]; exact Nat.le_refl _), HLL.out] at this
        have hh : ∀ q, q ≠ pt → q < w.heap.size → ((((wr.setCell ⟨pt, 0, none⟩ (.pointer none)).setCell ⟨pt, 1, none⟩ (.pointer none)).setCell ⟨pt, 2, none⟩ (.int .i64 0)).putObj W0.heap.size (.deferred none)).heap[q]? = wr.heap[q]? := fun q h1 h2 => by
          rw [World.putObj_heap_other (by omega), Below.heap_setCell _ _ _ _ h1, Below.heap_setCell _ _ _ _ h1, Below.heap_setCell _ _ _ _ h1]
        have hsz : wr.heap.size ≤ ((((wr.setCell ⟨pt, 0, none⟩ (.pointer none)).setCell ⟨pt, 1, none⟩ (.pointer none)).setCell ⟨pt, 2, none⟩ (.int .i64 0)).putObj W0.heap.size (.deferred none)).heap.size := by simp [World.putObj, World.setCell]
        have e3 := blk_lt H.out.frm.cell
        have e4 := blk_lt H.out.frm.row
        have e5 := hS.out.2.size
        have e6 := HBB.out.size
        refine ⟨⟨_, rfl⟩, ?_, ?_, ?_⟩
        · exact ⟨(hh _ (fun e => hpf e.symm) e3).trans hfr.cell, (hh _ (fun e => H.out.n2 e.symm) e4).trans hfr.row, hfr.len, hfr.ne, hfr.lim, hfr.few⟩
        · exact ⟨hS.out.2.os.trans HBB.out.os, hS.out.2.tape.trans HBB.out.tape, hS.out.2.output.trans HBB.out.output, by omega, fun q hq hs => (hh q hs.2 hq).trans ((hS.out.2.block q (by omega) hs.1).trans (HBB.out.block q hq))⟩
        · exact (World.putObj_heap_other (by omega)).trans ((heap_setCell_same _ _ _ _ _ _ (heap_setCell_same _ _ _ _ _ _ (heap_setCell_same _ _ _ _ _ _ HC.out))).trans rfl)
end Go.Proofs.YtikmanafbkiikaaDoor
