/- The document's Write, Zero, Copy of frames, walked. -/
import Derived.Test.YtikmanafbkiikaaDoorPhysAll
import Derived.ArgAppend
import Derived.Test.YtikmanafbkiikaaDoorAgr
namespace Go.Proofs.YtikmanafbkiikaaDoor
set_option linter.unusedSimpArgs false
set_option linter.unusedVariables false
open Go Go.RowKit Go.Proofs.YtikmanafbkiikaaDoorW.PrintWords Go.Proofs.YtikmanafbkiikaaDoor.RowK XPhys
abbrev Kn : Kd Nt := k134

theorem refHas (n : Nat) (A : Option Addr) (c : Nat) (L : List Nt) (f : Int) (w : World) (hC : Kd.C Kn w A L.length L) (hc : L.length ≤ c) :
    Calls Tryd.prog 65 #[.agg #[.int .i64 n, .slice A L.length c], .int .i64 f] w fun e w' => e = .returned (.bool (decide (0 ≤ f ∧ f < (n : Int)))) ∧ Below w.heap.size w w' :=
  halterref05_Has.calls n A c L f _ w hC hc (by
    unfold halterref05_Has.f
    by_cases h0 : f ≥ 0
    · rw [if_pos h0]; congr 1; rw [Bool.eq_iff_iff]; simp; omega
    · rw [if_neg h0]; congr 1; rw [eq_comm, decide_eq_false_iff_not]; omega)
theorem noteInfo : (Tryd.prog.info? 134).map (fun i => (i.zero, i.size, i.bytes)) = some (some (.agg #[.int .i64 0, .int .i64 0, .slice none 0 0]), 3, 40) := by kernel_rfl
/-- The document's memory behind a write. -/
def WrAns (n : Nat) (L : List Nt) (er : Option Int) (S : Nat → Prop) (w : World) (e : Ending) (w' : World) : Prop :=
  ∃ A' c', e = .returned (.tuple #[.agg #[.int .i64 n, .slice A' L.length c'], .int .i64 (er.getD 0)]) ∧ (A' = none → c' = 0) ∧ L.length ≤ c' ∧ CS Kn (fun k => S k ∨ w.heap.size ≤ k) w' A' L ∧ Below w.heap.size w w'
theorem cells_two {w : World} {b : Nat} {x y : Value} {t : TypeId} (h : w.heap[b]? = some (.cells #[x, y] t (0, 0))) : w.cell? ⟨b, 0, none⟩ = some x ∧ w.cell? ⟨b, 1, none⟩ = some y ∧ w.frozen? ⟨b, 0, none⟩ = false ∧ w.frozen? ⟨b, 1, none⟩ = false :=
  ⟨(cell_of_row _ _ _ _ _ _ h).trans rfl, (cell_of_row _ _ _ _ _ _ h).trans rfl, frozen_of_row _ _ _ _ _ h, frozen_of_row _ _ _ _ _ h⟩
/-- Two boxes that were made at the start, later on. -/
theorem boxes2 {w : World} {a b c d : Value} {T U : TypeId} {W : World} (h : Below ((w.alloc (.cells #[a, b] T (0, 0))).alloc (.cells #[c, d] U (0, 0))).heap.size ((w.alloc (.cells #[a, b] T (0, 0))).alloc (.cells #[c, d] U (0, 0))) W) :
    (W.heap[w.heap.size]? = some (.cells #[a, b] T (0, 0)) ∧ W.heap[w.heap.size + 1]? = some (.cells #[c, d] U (0, 0))) ∧ w.heap.size + 1 < W.heap.size ∧ Below w.heap.size w W := by
  have e1 : ((w.alloc (.cells #[a, b] T (0, 0))).alloc (.cells #[c, d] U (0, 0))).heap[w.heap.size + 1]? = some (.cells #[c, d] U (0, 0)) := Go.heap_alloc2_new _ _ _
  have e0 : ((w.alloc (.cells #[a, b] T (0, 0))).alloc (.cells #[c, d] U (0, 0))).heap[w.heap.size]? = some (.cells #[a, b] T (0, 0)) := Go.heap_alloc2_old _ _ _
  have hs := h.size
  simp only [World.size_alloc] at hs
  refine ⟨⟨(h.block _ (by simp; omega)).trans e0, (h.block _ (by simp)).trans e1⟩, by omega, ?_⟩
  exact (((Below.refl _ w).alloc (Nat.le_refl _) _).alloc (by simp) _).trans (h.mono (by simp; omega))
set_option maxHeartbeats 4000000 in
set_option maxRecDepth 100000 in
theorem refWrite_no (n : Nat) (A : Option Addr) (c : Nat) (L : List Nt) (f o : Int) (Ab : Option Addr) (b : List Int) (cb : Nat) (S : Nat → Prop) (w : World) (hC : CS Kn S w A L) (hc : L.length ≤ c) (hA : A = none → c = 0) (hf : ¬ (0 ≤ f ∧ f < (n : Int))) :
    Calls Tryd.prog 19 #[.agg #[.int .i64 n, .slice A L.length c], .int .i64 f, .int .i64 o, .slice Ab b.length cb] w (WrAns n L (some 22) S w) := by
  have HC := Lib.hid hC
  have HA := Lib.hid hA
  have HF := Lib.hid (decide_eq_false hf)
  clear hC hA hf
  go_enter Tryd.func19, Tryd.ntmps19
  go_wp2_with fail
  refine (refHas n A c L f _ (HC.out.step (Agr.below (((Below.refl _ w).alloc (Nat.le_refl _) _).alloc (by simp) _))).C hc).mono ?_
  rintro e w1 ⟨rfl, hb1⟩
  obtain ⟨⟨b0, b1⟩, hz, hB⟩ := boxes2 hb1
  obtain ⟨x0, x1, x2, x3⟩ := cells_two b0
  obtain ⟨y0, y1, y2, y3⟩ := cells_two b1
  have B := Lib.hid hB
  rw [HF.out]
  clear hb1 b0 b1 hB
  go_wp2
  have hB2 := (B.out.setCell (p := ⟨w.heap.size + 1, 0, none⟩) (by simp) (.int .i64 (n : Int))).setCell (p := ⟨w.heap.size + 1, 1, none⟩) (by simp) (.slice A L.length c)
  refine bodyPost_ret (v := .tuple #[.agg #[.int .i64 n, .slice A L.length c], .int .i64 22]) (by simp [results, Tryd.results19, go_sem, y0, y1]) rfl ⟨A, c, rfl, HA.out, hc, (HC.out.step (Agr.below hB2)).mono (fun _ _ h => Or.inl h), hB2⟩
set_option maxHeartbeats 4000000 in
set_option maxRecDepth 100000 in
theorem refWrite_far (n : Nat) (A : Option Addr) (c : Nat) (L : List Nt) (f o : Int) (Ab : Option Addr) (b : List Int) (cb : Nat) (S : Nat → Prop) (w : World) (hC : CS Kn S w A L) (hc : L.length ≤ c) (hA : A = none → c = 0) (hf : 0 ≤ f ∧ f < (n : Int)) (hb : b.length ≤ maxLen) (ho : ¬ (0 ≤ o ∧ o ≤ 256 ∧ (b.length : Int) ≤ 256 - o)) :
    Calls Tryd.prog 19 #[.agg #[.int .i64 n, .slice A L.length c], .int .i64 f, .int .i64 o, .slice Ab b.length cb] w (WrAns n L (some 14) S w) := by
  unfold maxLen at hb
  have HC := Lib.hid hC
  have HA := Lib.hid hA
  have HF := Lib.hid (decide_eq_true hf)
  have HO := Lib.hid ho
  clear hC hA hf ho
  by_cases h1 : o < 0
  · go_enter Tryd.func19, Tryd.ntmps19
    go_wp2_with fail
    refine (refHas n A c L f _ (HC.out.step (Agr.below (((Below.refl _ w).alloc (Nat.le_refl _) _).alloc (by simp) _))).C hc).mono ?_
    rintro e w1 ⟨rfl, hb1⟩
    obtain ⟨⟨b0, b1⟩, hz, hB⟩ := boxes2 hb1
    obtain ⟨x0, x1, x2, x3⟩ := cells_two b0
    obtain ⟨y0, y1, y2, y3⟩ := cells_two b1
    have B := Lib.hid hB
    rw [HF.out]
    clear hb1 b0 b1 hB
    go_wp2
    have hB2 := (B.out.setCell (p := ⟨w.heap.size + 1, 0, none⟩) (by simp) (.int .i64 (n : Int))).setCell (p := ⟨w.heap.size + 1, 1, none⟩) (by simp) (.slice A L.length c)
    refine bodyPost_ret (v := .tuple #[.agg #[.int .i64 n, .slice A L.length c], .int .i64 14]) (by simp [results, Tryd.results19, go_sem, y0, y1]) rfl ⟨A, c, rfl, HA.out, hc, (HC.out.step (Agr.below hB2)).mono (fun _ _ h => Or.inl h), hB2⟩
  have h1' : 0 ≤ o := by omega
  by_cases h2 : 256 < o
  · go_enter Tryd.func19, Tryd.ntmps19
    go_wp2_with fail
    refine (refHas n A c L f _ (HC.out.step (Agr.below (((Below.refl _ w).alloc (Nat.le_refl _) _).alloc (by simp) _))).C hc).mono ?_
    rintro e w1 ⟨rfl, hb1⟩
    obtain ⟨⟨b0, b1⟩, hz, hB⟩ := boxes2 hb1
    obtain ⟨x0, x1, x2, x3⟩ := cells_two b0
    obtain ⟨y0, y1, y2, y3⟩ := cells_two b1
    have B := Lib.hid hB
    rw [HF.out]
    clear hb1 b0 b1 hB
    go_wp2
    have hB2 := (B.out.setCell (p := ⟨w.heap.size + 1, 0, none⟩) (by simp) (.int .i64 (n : Int))).setCell (p := ⟨w.heap.size + 1, 1, none⟩) (by simp) (.slice A L.length c)
    refine bodyPost_ret (v := .tuple #[.agg #[.int .i64 n, .slice A L.length c], .int .i64 14]) (by simp [results, Tryd.results19, go_sem, y0, y1]) rfl ⟨A, c, rfl, HA.out, hc, (HC.out.step (Agr.below hB2)).mono (fun _ _ h => Or.inl h), hB2⟩
  have h2' : o ≤ 256 := by omega
  have d1 : decide (o < 0) = false := decide_eq_false h1
  have d2 : decide (256 < o) = false := decide_eq_false h2
  by_cases h3 : 256 < (b.length : Int)
  · have d3 : decide (256 < (b.length : Int)) = true := decide_eq_true h3
    go_enter Tryd.func19, Tryd.ntmps19
    go_wp2_with fail
    refine (refHas n A c L f _ (HC.out.step (Agr.below (((Below.refl _ w).alloc (Nat.le_refl _) _).alloc (by simp) _))).C hc).mono ?_
    rintro e w1 ⟨rfl, hb1⟩
    obtain ⟨⟨b0, b1⟩, hz, hB⟩ := boxes2 hb1
    obtain ⟨x0, x1, x2, x3⟩ := cells_two b0
    obtain ⟨y0, y1, y2, y3⟩ := cells_two b1
    have B := Lib.hid hB
    rw [HF.out]
    clear hb1 b0 b1 hB
    go_wp2
    have hB2 := (B.out.setCell (p := ⟨w.heap.size + 1, 0, none⟩) (by simp) (.int .i64 (n : Int))).setCell (p := ⟨w.heap.size + 1, 1, none⟩) (by simp) (.slice A L.length c)
    refine bodyPost_ret (v := .tuple #[.agg #[.int .i64 n, .slice A L.length c], .int .i64 14]) (by simp [results, Tryd.results19, go_sem, y0, y1]) rfl ⟨A, c, rfl, HA.out, hc, (HC.out.step (Agr.below hB2)).mono (fun _ _ h => Or.inl h), hB2⟩
  have d3 : decide (256 < (b.length : Int)) = false := decide_eq_false h3
  have h4 : 256 < o + (b.length : Int) := by have := HO.out; omega
  have d4 : decide (256 < o + (b.length : Int)) = true := decide_eq_true h4
  go_enter Tryd.func19, Tryd.ntmps19
  go_wp2_with fail
  refine (refHas n A c L f _ (HC.out.step (Agr.below (((Below.refl _ w).alloc (Nat.le_refl _) _).alloc (by simp) _))).C hc).mono ?_
  rintro e w1 ⟨rfl, hb1⟩
  obtain ⟨⟨b0, b1⟩, hz, hB⟩ := boxes2 hb1
  obtain ⟨x0, x1, x2, x3⟩ := cells_two b0
  obtain ⟨y0, y1, y2, y3⟩ := cells_two b1
  have B := Lib.hid hB
  rw [HF.out]
  clear hb1 b0 b1 hB
  go_wp2
  have hB2 := (B.out.setCell (p := ⟨w.heap.size + 1, 0, none⟩) (by simp) (.int .i64 (n : Int))).setCell (p := ⟨w.heap.size + 1, 1, none⟩) (by simp) (.slice A L.length c)
  refine bodyPost_ret (v := .tuple #[.agg #[.int .i64 n, .slice A L.length c], .int .i64 14]) (by simp [results, Tryd.results19, go_sem, y0, y1]) rfl ⟨A, c, rfl, HA.out, hc, (HC.out.step (Agr.below hB2)).mono (fun _ _ h => Or.inl h), hB2⟩
set_option maxHeartbeats 4000000 in
set_option maxRecDepth 100000 in
theorem refWrite_ok (n : Nat) (A : Option Addr) (c : Nat) (L : List Nt) (f o : Int) (Ab : Option Addr) (b : List Int) (cb : Nat) (S : Nat → Prop) (w : World) (hC : CS Kn S w A L) (hc : L.length ≤ c) (hA : A = none → c = 0) (hL : L.length ≤ 1000000000) (hf : 0 ≤ f ∧ f < (n : Int)) (ho0 : 0 ≤ o) (ho1 : o ≤ 256) (ho2 : (b.length : Int) ≤ 256 - o) (hcb : b.length ≤ cb) (hb : CS Bk S w Ab b) :
    Calls Tryd.prog 19 #[.agg #[.int .i64 n, .slice A L.length c], .int .i64 f, .int .i64 o, .slice Ab b.length cb] w (WrAns n (L ++ [⟨f, o, b⟩]) none S w) := by
  have HC := Lib.hid hC
  have HA := Lib.hid hA
  have HF := Lib.hid (decide_eq_true hf)
  have HBB := Lib.hid hb
  clear hC hA hf hb
  go_enter Tryd.func19, Tryd.ntmps19
  go_wp2_with fail
  refine (refHas n A c L f _ (HC.out.step (Agr.below (((Below.refl _ w).alloc (Nat.le_refl _) _).alloc (by simp) _))).C hc).mono ?_
  rintro e w1 ⟨rfl, hb1⟩
  obtain ⟨⟨b0, b1⟩, hz, hB⟩ := boxes2 hb1
  obtain ⟨x0, x1, x2, x3⟩ := cells_two b0
  obtain ⟨y0, y1, y2, y3⟩ := cells_two b1
  have B := Lib.hid hB
  have BX := Lib.hid b0
  have BY := Lib.hid b1
  rw [HF.out]
  have d1 : decide (o < 0) = false := decide_eq_false (by omega)
  have d2 : decide (256 < o) = false := decide_eq_false (by omega)
  have d3 : decide (256 < (b.length : Int)) = false := decide_eq_false (by omega)
  have d4 : decide (256 < o + (b.length : Int)) = false := decide_eq_false (by omega)
  clear hb1 b0 b1 hB
  obtain ⟨i0, hi, hz0, hz1, hz2⟩ := info_parts noteInfo
  obtain ⟨W2, hW2⟩ : ∃ W2, W2 = w1.alloc (.cells #[.int .i64 f, .int .i64 o, .slice Ab b.length cb] 134 (0, 0)) := ⟨_, rfl⟩
  have hb2 : Below w1.heap.size w1 W2 := by rw [hW2]; exact (Below.refl _ _).alloc (Nat.le_refl _) _
  have hB2 : Below w.heap.size w W2 := B.out.trans (hb2.mono B.out.size)
  obtain ⟨hmx, hsome, inner, hil, hall⟩ := HC.out
  have hic : ∀ ad, A = some ad → ∀ j u, inner[j]? = some u → W2.cell? (ad.add j) = some u := (hall W2 (Agr.below hB2)).1
  have hnone : A = none → L.length = 0 ∧ L.length = 0 := fun h => by have := HA.out h; omega
  have HI := Lib.hid hil
  have HIC := Lib.hid hic
  have HIR := Lib.hid hall
  have HN := Lib.hid hnone
  have HW2 := Lib.hid hW2
  have HB2 := Lib.hid hB2
  have Hb2 := Lib.hid hb2
  have hnew : ∀ j u, [Value.int .i64 f, .int .i64 o, .slice Ab b.length cb][j]? = some u → W2.cell? ((⟨w1.heap.size, 0, none⟩ : Addr).add j) = some u := fun j u hj => by
    rw [Addr.add_lit, hW2, cell_of_row _ _ _ _ _ _ (heap_alloc_new _ _)]
    simpa using hj
  have HNW := Lib.hid hnew
  clear hil hic hall hnone hW2 hB2 hb2 hnew hsome
  have hcut : ∀ W : World, (Instr.slice 42 (.slice A L.length c) none (some (.int .i64 (L.length : Int))) (some (.int .i64 (L.length : Int)))).run Tryd.prog W = .ok (.slice A L.length L.length) W := fun W => by
    rw [run_slice_hm W 42 A L.length c Tryd.underlying42 .i64 .i64 _ _ (by omega) (Int.le_refl _) (by omega)]
    rw [show Tryd.prog.elem 42 = 134 by kernel_rfl, Tryd.sizeOf134]
    cases A <;> simp [sliced, Result.andThen, Addr.add]
  go_wp2_with ((with_reducible refine gate_builtin (b := .append) (xs := #[.tmp 42, .tmp 47]) rfl ?_); at_builtin; rw [← HW2.out]; refine wpList_append_grows _ rfl (.tmp 42) (.tmp 47) 42 rfl 134 i0 _ 3 40 Tryd.underlying42 hi hz0 hz1 hz2 rfl (by decide) A L.length L.length inner rfl HN.out HI.out HIC.out ⟨w1.heap.size, 0, none⟩ 1 1 [.int .i64 f, .int .i64 o, .slice Ab b.length cb] rfl rfl HNW.out ?n1 ?n2 ?n3 ?n4 ?_)
  case n1 =>
    intro u hu
    simp only [List.mem_cons, List.not_mem_nil, or_false] at hu
    rcases hu with rfl | rfl | rfl <;> rfl
  case n2 => omega
  case n3 => unfold maxLen; omega
  case n4 => omega
  intro v' w3 hown hg
  have hb3 : Below W2.heap.size W2 w3 := (Below.refl _ _).grown hg (Nat.le_refl _) (fun k hk => by cases hk)
  have hb13 : Below w1.heap.size w1 w3 := Hb2.out.trans (hb3.mono Hb2.out.size)
  have hB3 : Below w.heap.size w w3 := HB2.out.trans (hb3.mono HB2.out.size)
  have hrow : OwnRow (Kn.K w3) 134 3 w3 W2.heap.size v' (L ++ [⟨f, o, b⟩]) := by
    refine ⟨inner ++ [.int .i64 f, .int .i64 o, .slice Ab b.length cb], ?_, Reps.snoc (HIR.out w3 (Agr.below hB3)).2 ?_ rfl⟩
    · rw [List.length_append]; exact hown
    · exact ⟨[.int .i64 f], [.int .i64 o, .slice Ab b.length cb], rfl, rfl, ⟨[.int .i64 o], [.slice Ab b.length cb], rfl, rfl, ⟨Ab, cb, rfl, hcb, (HBB.out.step (Agr.below hB3)).C⟩⟩⟩
  obtain ⟨A', c', rfl, hc', hr⟩ := OwnRow.reads hrow
  have hA' : A' = none → c' = 0 := fun h => by
    obtain ⟨ad, e, _⟩ := hr.2.2 (by simp)
    rw [h] at e; cases e
  obtain ⟨z0, z1, z2, z3⟩ := cells_two ((hb13.block _ (blk_lt BX.out)).trans BX.out)
  obtain ⟨u0, u1, u2, u3⟩ := cells_two ((hb13.block _ (blk_lt BY.out)).trans BY.out)
  have B3 := Lib.hid hB3
  have HOW := Lib.hid hown
  have HA' := Lib.hid hA'
  have HC' := Lib.hid hc'
  obtain ⟨k, hk⟩ : ∃ k, k = (L ++ [⟨f, o, b⟩] : List Nt).length := ⟨_, rfl⟩
  rw [← hk]
  have HK := Lib.hid hk
  clear hb3 hb13 hB3 hrow hr hA' hown hg hc' hk
  go_wp2
  have hB4 := ((B3.out.setCell (p := ⟨w.heap.size, 1, none⟩) (by simp) (.slice A' k c')).setCell (p := ⟨w.heap.size + 1, 0, none⟩) (by simp) (.int .i64 (n : Int))).setCell (p := ⟨w.heap.size + 1, 1, none⟩) (by simp) (.slice A' k c')
  refine bodyPost_ret (v := .tuple #[.agg #[.int .i64 n, .slice A' k c'], .int .i64 0]) (by simp [results, Tryd.results19, go_sem, z0, z1, z2, z3, u0, u1, u2, u3]) rfl ?_
  have hk := HK.out
  subst hk
  have hown := HOW.out
  have hs := HB2.out.size
  have hlt : ∀ g, (Value.slice A' (L ++ [⟨f, o, b⟩] : List Nt).length c').ownBlock = some g → W2.heap.size ≤ g := fun g hg => own_base hown g hg
  have hz2 : w.heap.size + 1 < W2.heap.size := by have := Hb2.out.size; omega
  have hownF : World.ownsRow (((w3.setCell ⟨w.heap.size, 1, none⟩ (.slice A' (L ++ [⟨f, o, b⟩] : List Nt).length c')).setCell ⟨w.heap.size + 1, 0, none⟩ (.int .i64 (n : Int))).setCell ⟨w.heap.size + 1, 1, none⟩ (.slice A' (L ++ [⟨f, o, b⟩] : List Nt).length c')) W2.heap.size 134 3 (.slice A' (L ++ [⟨f, o, b⟩] : List Nt).length c') (L.length + 1) (inner ++ [.int .i64 f, .int .i64 o, .slice Ab b.length cb]) :=
    own_move hown fun g hg => by
      have := hlt g hg
      rw [Below.heap_setCell _ _ _ g (by show g ≠ w.heap.size + 1; omega), Below.heap_setCell _ _ _ g (by show g ≠ w.heap.size + 1; omega), Below.heap_setCell _ _ _ g (by show g ≠ w.heap.size; omega)]
  refine ⟨A', c', rfl, HA'.out, HC'.out, ?_, hB4⟩
  obtain ⟨g1, cap1, he1, hg1, hg2⟩ := hownF.form (by omega)
  injection he1 with he1 he2 he3
  subst he1
  refine ⟨by rw [List.length_append]; simp only [List.length_cons, List.length_nil]; omega, fun _ => ⟨_, rfl⟩, inner ++ [.int .i64 f, .int .i64 o, .slice Ab b.length cb], by rw [hownF.1, List.length_append]; rfl, fun W hW => ⟨fun ad hA j u hj => ?_, ?_⟩⟩
  · obtain rfl := Option.some.inj hA
    have hbl := hW.block g1 hg2 (Or.inr (by omega))
    have hmv := own_move (w1 := W) hownF (fun k hk => by
      obtain rfl : g1 = k := by simpa [Value.ownBlock] using hk
      exact hbl)
    have hjl : j < (L.length + 1) * 3 := by rw [← hownF.1]; exact (List.getElem?_eq_some_iff.1 hj).1
    rw [List.length_append, List.length_cons, List.length_nil] at hmv
    rw [Addr.add_lit, Nat.zero_add, hmv.cellAt j hjl]
    exact hj
  · have hag : Agr S w W := (Agr.below hB4).trans (hW.mono (fun _ _ h => Or.inl h))
    exact Reps.snoc (HIR.out W hag).2 ⟨[.int .i64 f], [.int .i64 o, .slice Ab b.length cb], rfl, rfl, ⟨[.int .i64 o], [.slice Ab b.length cb], rfl, rfl, ⟨Ab, cb, rfl, hcb, (HBB.out.step hag).C⟩⟩⟩ rfl
theorem refWrite_all (n : Nat) (A : Option Addr) (c : Nat) (L : List Nt) (f o : Int) (Ab : Option Addr) (b : List Int) (cb : Nat) (S : Nat → Prop) (w : World) (hC : CS Kn S w A L) (hc : L.length ≤ c) (hA : A = none → c = 0) (hL : L.length ≤ 1000000000) (hcb : b.length ≤ cb) (hb : CS Bk S w Ab b) (hm : b.length ≤ maxLen) :
    Calls Tryd.prog 19 #[.agg #[.int .i64 n, .slice A L.length c], .int .i64 f, .int .i64 o, .slice Ab b.length cb] w (WrAns n (wL n L f o b) (rErr n f o b.length) S w) := by
  unfold wL rErr
  by_cases hf : 0 ≤ f ∧ f < (n : Int)
  · rw [if_pos hf]
    by_cases ho : 0 ≤ o ∧ o ≤ 256 ∧ 0 ≤ (b.length : Int) ∧ (b.length : Int) ≤ 256 - o
    · rw [if_pos ho, if_pos rfl]
      exact refWrite_ok n A c L f o Ab b cb S w hC hc hA hL hf ho.1 ho.2.1 ho.2.2.2 hcb hb
    · rw [if_neg ho, if_neg (show ¬ (some (14 : Int) = none) by simp)]
      exact refWrite_far n A c L f o Ab b cb S w hC hc hA hf hm (by omega)
  · rw [if_neg hf, if_neg (show ¬ (some (22 : Int) = none) by simp)]
    exact refWrite_no n A c L f o Ab b cb S w hC hc hA hf
theorem refRead (n : Nat) (A : Option Addr) (c : Nat) (L : List Nt) (f o m : Int) (w : World) (hC : Kd.C Kn w A L.length L) (hc : L.length ≤ c) (hL : L.length ≤ 1000000000) (hok : Lok L) :
    Calls Tryd.prog 22 #[.agg #[.int .i64 n, .slice A L.length c], .int .i64 f, .int .i64 o, .int .i64 m] w fun e w' => ∃ v, e = .returned (.tuple #[v, .int .i64 ((rErr n f o m).getD 0)]) ∧ Kd.R Bk 5 w' w.heap.size (fun _ => True) v (rL n L f o m) ∧ Below w.heap.size w w' := by
  obtain ⟨k, hk⟩ := read_ev n L f o m (by omega) hok
  exact halterref05_Read.calls k n A c L f o m _ _ w hC hc hk
/-- The notes behind a copy. -/
def cL (n : Nat) (L : List Nt) (t f : Int) : List Nt := if cErr n t f = none then wL n L t 0 (rL n L f 0 256) else L
set_option maxHeartbeats 4000000 in
set_option maxRecDepth 100000 in
theorem refCopy_ok (n : Nat) (A : Option Addr) (c : Nat) (L : List Nt) (t f : Int) (S : Nat → Prop) (w : World) (hC : CS Kn S w A L) (hc : L.length ≤ c) (hA : A = none → c = 0) (hL : L.length ≤ 1000000000) (hok : Lok L) (ht : 0 ≤ t ∧ t < (n : Int)) (hf : 0 ≤ f ∧ f < (n : Int)) :
    Calls Tryd.prog 21 #[.agg #[.int .i64 n, .slice A L.length c], .int .i64 t, .int .i64 f] w (WrAns n (wL n L t 0 (rL n L f 0 256)) none S w) := by
  have HC := Lib.hid hC
  have HA := Lib.hid hA
  have HOK := Lib.hid hok
  have B0 := Lib.hid ((((Below.refl _ w).alloc (Nat.le_refl _) (.cells #[.int .i64 n, .slice A L.length c] 44 (0, 0)))).alloc (by simp) (.cells #[.int .i64 0, .slice none 0 0] 44 (0, 0)))
  have HT := Lib.hid (decide_eq_true ht)
  have HF := Lib.hid (decide_eq_true hf)
  have hre : rErr n f 0 256 = none := by unfold rErr; rw [if_pos hf, if_pos (by decide)]
  have hrl : (rL n L f 0 256).length = 256 := by unfold rL; rw [if_pos hre, pre_length]; rfl
  have hwe : rErr n t 0 ((rL n L f 0 256).length : Int) = none := by rw [hrl]; unfold rErr; rw [if_pos ht, if_pos (by decide)]
  have HRE := Lib.hid hre
  have HRL := Lib.hid hrl
  have HWE := Lib.hid hwe
  obtain ⟨RL, hRL⟩ : ∃ X, X = rL n L f 0 256 := ⟨_, rfl⟩
  rw [← hRL]
  have HRL2 := Lib.hid hRL
  clear hre hrl hwe ht hf hRL hC hA hok
  go_enter Tryd.func21, Tryd.ntmps21
  go_wp2_with fail
  refine (refHas n A c L t _ (HC.out.step (Agr.below B0.out)).C hc).mono ?_
  rintro e w1 ⟨rfl, hb1⟩
  obtain ⟨⟨b0, b1⟩, hz, hB⟩ := boxes2 hb1
  obtain ⟨x0, x1, x2, x3⟩ := cells_two b0
  have B1 := Lib.hid hB
  have D1 := Lib.hid hb1
  rw [HT.out]
  clear hb1 b0 b1 hB
  go_wp2_with fail
  refine (refHas n A c L f _ (HC.out.step (Agr.below B1.out)).C hc).mono ?_
  rintro e w2 ⟨rfl, hb2⟩
  have D2 := Lib.hid (D1.out.trans (hb2.mono D1.out.size))
  obtain ⟨⟨b0, b1⟩, hz2, hB⟩ := boxes2 D2.out
  clear x0 x1 x2 x3
  obtain ⟨x0, x1, x2, x3⟩ := cells_two b0
  have B2 := Lib.hid hB
  have HZ2 := Lib.hid hz2
  rw [HF.out]
  clear hb2 b0 b1 hB
  go_wp2_with fail
  refine (refRead n A c L f 0 256 _ (HC.out.step (Agr.below B2.out)).C hc hL HOK.out).mono ?_
  rintro e w3 ⟨v, rfl, hR, hb3⟩
  rw [HRE.out, show (none : Option Int).getD 0 = 0 from rfl]
  rw [← HRL2.out] at hR
  obtain ⟨Ar, cr, rfl, hcr, hCr⟩ := Kd.R_reads hR
  have D3 := Lib.hid (D2.out.trans (hb3.mono D2.out.size))
  obtain ⟨⟨b0, b1⟩, hz3, hB⟩ := boxes2 D3.out
  clear x0 x1 x2 x3
  obtain ⟨x0, x1, x2, x3⟩ := cells_two b0
  have B3 := Lib.hid hB
  have C3 := Lib.hid (CS.of_R hR)
  have E3 := Lib.hid hcr
  have HS3 := Lib.hid hb3.size
  clear hb3 b0 b1 hB hR hCr hcr
  go_wp2_with fail
  refine (refWrite_all n A c L t 0 Ar RL cr (fun k => (S k ∧ k < w.heap.size) ∨ w2.heap.size ≤ k) _ (((HC.out.mono (T := fun k => (S k ∧ k < w.heap.size) ∨ w2.heap.size ≤ k) (fun k hk hs => Or.inl ⟨hs, hk⟩)).step (Agr.below B3.out))) hc HA.out hL E3.out (C3.out.mono (fun k _ hs => Or.inr hs)) (by rw [HRL2.out, HRL.out]; decide)).mono ?_
  rintro e w4 ⟨A4, c4, rfl, hA4, hc4, hC4, hb4⟩
  rw [show rErr n t 0 (RL.length : Int) = none by rw [HRL2.out]; exact HWE.out, show (none : Option Int).getD 0 = 0 from rfl]
  have D4 := Lib.hid (D3.out.trans (hb4.mono D3.out.size))
  obtain ⟨⟨b0, b1⟩, hz4, hB⟩ := boxes2 D4.out
  obtain ⟨y0, y1, y2, y3⟩ := cells_two b1
  have B4 := Lib.hid hB
  have HA4 := Lib.hid hA4
  have HC4 := Lib.hid hC4
  have HL4 := Lib.hid hc4
  have hs3 := D3.out.size
  obtain ⟨k, hk⟩ : ∃ k, k = (wL n L t 0 RL).length := ⟨_, rfl⟩
  rw [← hk]
  have HK := Lib.hid hk
  clear x0 x1 x2 x3 b0 b1 hB hA4 hC4 hc4 hb4 hk hs3
  go_wp2
  have hB5 := (B4.out.setCell (p := ⟨w.heap.size + 1, 0, none⟩) (by simp) (.int .i64 (n : Int))).setCell (p := ⟨w.heap.size + 1, 1, none⟩) (by simp) (.slice A4 k c4)
  refine bodyPost_ret (v := .tuple #[.agg #[.int .i64 n, .slice A4 k c4], .int .i64 0]) (by simp [results, Tryd.results21, go_sem, y0, y1]) rfl ?_
  have hk := HK.out
  subst hk
  have hz := HZ2.out
  have hn : ∀ k, k = w.heap.size + 1 → ¬ (((S k ∧ k < w.heap.size) ∨ w2.heap.size ≤ k) ∨ w3.heap.size ≤ k) := fun k hk h => by
    have := HS3.out
    omega
  refine ⟨A4, c4, rfl, HA4.out, HL4.out, ?_, hB5⟩
  refine (CS.mono ((HC4.out.step (Agr.set _ _ _ (hn _ rfl))).step (Agr.set _ _ _ (hn _ rfl))) (fun k _ h => ?_))
  rcases h with (h | h) | h
  · exact Or.inl h.1
  · exact Or.inr (by omega)
  · exact Or.inr (by have := HS3.out; omega)
set_option maxHeartbeats 4000000 in
set_option maxRecDepth 100000 in
theorem refCopy_no (n : Nat) (A : Option Addr) (c : Nat) (L : List Nt) (t f : Int) (S : Nat → Prop) (w : World) (hC : CS Kn S w A L) (hc : L.length ≤ c) (hA : A = none → c = 0) (hn : ¬ ((0 ≤ t ∧ t < (n : Int)) ∧ (0 ≤ f ∧ f < (n : Int)))) :
    Calls Tryd.prog 21 #[.agg #[.int .i64 n, .slice A L.length c], .int .i64 t, .int .i64 f] w (WrAns n L (some 22) S w) := by
  have HC := Lib.hid hC
  have HA := Lib.hid hA
  have B0 := Lib.hid ((((Below.refl _ w).alloc (Nat.le_refl _) (.cells #[.int .i64 n, .slice A L.length c] 44 (0, 0)))).alloc (by simp) (.cells #[.int .i64 0, .slice none 0 0] 44 (0, 0)))
  by_cases ht : 0 ≤ t ∧ t < (n : Int)
  · have HT := Lib.hid (decide_eq_true ht)
    have HF := Lib.hid (decide_eq_false (show ¬ (0 ≤ f ∧ f < (n : Int)) from fun h => hn ⟨ht, h⟩))
    clear ht hn hC hA
    go_enter Tryd.func21, Tryd.ntmps21
    go_wp2_with fail
    refine (refHas n A c L t _ (HC.out.step (Agr.below B0.out)).C hc).mono ?_
    rintro e w1 ⟨rfl, hb1⟩
    obtain ⟨⟨b0, b1⟩, hz, hB⟩ := boxes2 hb1
    obtain ⟨x0, x1, x2, x3⟩ := cells_two b0
    have B1 := Lib.hid hB
    have D1 := Lib.hid hb1
    rw [HT.out]
    clear hb1 b0 b1 hB
    go_wp2_with fail
    refine (refHas n A c L f _ (HC.out.step (Agr.below B1.out)).C hc).mono ?_
    rintro e w2 ⟨rfl, hb2⟩
    have D2 := Lib.hid (D1.out.trans (hb2.mono D1.out.size))
    obtain ⟨⟨b0, b1⟩, hz2, hB⟩ := boxes2 D2.out
    clear x0 x1 x2 x3
    obtain ⟨x0, x1, x2, x3⟩ := cells_two b0
    obtain ⟨y0, y1, y2, y3⟩ := cells_two b1
    have B := Lib.hid hB
    rw [HF.out]
    clear hb2 b0 b1 hB
    go_wp2
    have hB2 := (B.out.setCell (p := ⟨w.heap.size + 1, 0, none⟩) (by simp) (.int .i64 (n : Int))).setCell (p := ⟨w.heap.size + 1, 1, none⟩) (by simp) (.slice A L.length c)
    refine bodyPost_ret (v := .tuple #[.agg #[.int .i64 n, .slice A L.length c], .int .i64 22]) (by simp [results, Tryd.results21, go_sem, y0, y1]) rfl ⟨A, c, rfl, HA.out, hc, (HC.out.step (Agr.below hB2)).mono (fun _ _ h => Or.inl h), hB2⟩
  · have HT := Lib.hid (decide_eq_false ht)
    clear ht hn hC hA
    go_enter Tryd.func21, Tryd.ntmps21
    go_wp2_with fail
    refine (refHas n A c L t _ (HC.out.step (Agr.below B0.out)).C hc).mono ?_
    rintro e w1 ⟨rfl, hb1⟩
    obtain ⟨⟨b0, b1⟩, hz, hB⟩ := boxes2 hb1
    obtain ⟨x0, x1, x2, x3⟩ := cells_two b0
    obtain ⟨y0, y1, y2, y3⟩ := cells_two b1
    have B := Lib.hid hB
    rw [HT.out]
    clear hb1 b0 b1 hB
    go_wp2
    have hB2 := (B.out.setCell (p := ⟨w.heap.size + 1, 0, none⟩) (by simp) (.int .i64 (n : Int))).setCell (p := ⟨w.heap.size + 1, 1, none⟩) (by simp) (.slice A L.length c)
    refine bodyPost_ret (v := .tuple #[.agg #[.int .i64 n, .slice A L.length c], .int .i64 22]) (by simp [results, Tryd.results21, go_sem, y0, y1]) rfl ⟨A, c, rfl, HA.out, hc, (HC.out.step (Agr.below hB2)).mono (fun _ _ h => Or.inl h), hB2⟩
theorem refCopy_all (n : Nat) (A : Option Addr) (c : Nat) (L : List Nt) (t f : Int) (S : Nat → Prop) (w : World) (hC : CS Kn S w A L) (hc : L.length ≤ c) (hA : A = none → c = 0) (hL : L.length ≤ 1000000000) (hok : Lok L) :
    Calls Tryd.prog 21 #[.agg #[.int .i64 n, .slice A L.length c], .int .i64 t, .int .i64 f] w (WrAns n (cL n L t f) (cErr n t f) S w) := by
  unfold cL cErr
  by_cases h : (0 ≤ t ∧ t < (n : Int)) ∧ (0 ≤ f ∧ f < (n : Int))
  · rw [if_pos h, if_pos rfl]
    exact refCopy_ok n A c L t f S w hC hc hA hL hok h.1 h.2
  · rw [if_neg h, if_neg (show ¬ (some (22 : Int) = none) by simp)]
    exact refCopy_no n A c L t f S w hC hc hA h
set_option maxHeartbeats 4000000 in
set_option maxRecDepth 100000 in
theorem refZero_no (n : Nat) (A : Option Addr) (c : Nat) (L : List Nt) (f : Int) (S : Nat → Prop) (w : World) (hC : CS Kn S w A L) (hc : L.length ≤ c) (hA : A = none → c = 0) (hf : ¬ (0 ≤ f ∧ f < (n : Int))) :
    Calls Tryd.prog 20 #[.agg #[.int .i64 n, .slice A L.length c], .int .i64 f] w (WrAns n L (some 22) S w) := by
  have HC := Lib.hid hC
  have HA := Lib.hid hA
  have HF := Lib.hid (decide_eq_false hf)
  clear hC hA hf
  go_enter Tryd.func20, Tryd.ntmps20
  go_wp2_with fail
  refine (refHas n A c L f _ (HC.out.step (Agr.below (((Below.refl _ w).alloc (Nat.le_refl _) _).alloc (by simp) _))).C hc).mono ?_
  rintro e w1 ⟨rfl, hb1⟩
  obtain ⟨⟨b0, b1⟩, hz, hB⟩ := boxes2 hb1
  obtain ⟨x0, x1, x2, x3⟩ := cells_two b0
  obtain ⟨y0, y1, y2, y3⟩ := cells_two b1
  have B := Lib.hid hB
  rw [HF.out]
  clear hb1 b0 b1 hB
  go_wp2
  have hB2 := (B.out.setCell (p := ⟨w.heap.size + 1, 0, none⟩) (by simp) (.int .i64 (n : Int))).setCell (p := ⟨w.heap.size + 1, 1, none⟩) (by simp) (.slice A L.length c)
  refine bodyPost_ret (v := .tuple #[.agg #[.int .i64 n, .slice A L.length c], .int .i64 22]) (by simp [results, Tryd.results20, go_sem, y0, y1]) rfl ⟨A, c, rfl, HA.out, hc, (HC.out.step (Agr.below hB2)).mono (fun _ _ h => Or.inl h), hB2⟩
theorem refWrite_m (n : Nat) (A : Option Addr) (c : Nat) (L : List Nt) (f o : Int) (Ab : Option Addr) (b : List Int) (m cb : Nat) (S : Nat → Prop) (w : World) (hl : b.length = m) (hC : CS Kn S w A L) (hc : L.length ≤ c) (hA : A = none → c = 0) (hL : L.length ≤ 1000000000) (hcb : m ≤ cb) (hb : CS Bk S w Ab b) (hm : m ≤ maxLen) :
    Calls Tryd.prog 19 #[.agg #[.int .i64 n, .slice A L.length c], .int .i64 f, .int .i64 o, .slice Ab m cb] w (WrAns n (wL n L f o b) (rErr n f o m) S w) := by
  subst hl
  exact refWrite_all n A c L f o Ab b cb S w hC hc hA hL hcb hb hm
/-- A block of bytes that was just made. -/
theorem made_CS {w : World} {g : Nat} {b : List Int} {m : Nat} (hm : b.length = m) (hx : m ≤ maxLen) (h : w.heap[g]? = some (.cells (b.map (Value.int .u8)).toArray 5 (0, 0))) : CS Bk (fun k => g ≤ k) w (some ⟨g, 0, none⟩) b := by
  subst hm
  have ho : w.ownsRow g 5 1 (.slice (some ⟨g, 0, none⟩) b.length b.length) b.length (b.map (Value.int .u8)) :=
    ⟨by simp, Or.inr ⟨g, b.length, _, rfl, Nat.le_refl _, h, Nat.le_refl _, hx, by simp, by rw [Nat.mul_one]; exact List.take_of_length_le (by simp)⟩⟩
  exact CS.of_R (Kd.R_of_own (enc := Value.int .u8) (h1 := fun _ => rfl) (ok := fun _ => True) ho (fun _ _ => trivial))
set_option maxHeartbeats 4000000 in
set_option maxRecDepth 100000 in
theorem refZero_ok (n : Nat) (A : Option Addr) (c : Nat) (L : List Nt) (f : Int) (S : Nat → Prop) (w : World) (hC : CS Kn S w A L) (hc : L.length ≤ c) (hA : A = none → c = 0) (hL : L.length ≤ 1000000000) (hf : 0 ≤ f ∧ f < (n : Int)) :
    Calls Tryd.prog 20 #[.agg #[.int .i64 n, .slice A L.length c], .int .i64 f] w (WrAns n (wL n L f 0 (List.replicate 256 0)) none S w) := by
  have HC := Lib.hid hC
  have HA := Lib.hid hA
  have HF := Lib.hid (decide_eq_true hf)
  have hre : rErr n f 0 ((256 : Nat) : Int) = none := by unfold rErr; rw [if_pos hf, if_pos (by decide)]
  have HRE := Lib.hid hre
  obtain ⟨Z, hZ⟩ : ∃ Z, Z = List.replicate 256 (0 : Int) := ⟨_, rfl⟩
  rw [← hZ]
  have hZl : Z.length = 256 := by rw [hZ, List.length_replicate]
  have HZ := Lib.hid hZl
  obtain ⟨M, hM⟩ : ∃ M, M = (Z.map (Value.int .u8)).toArray := ⟨_, rfl⟩
  have hmk : ∀ W : World, (Instr.makeSlice 29 (.int .i64 256) (.int .i64 256)).run Tryd.prog W = .ok (.slice (some ⟨W.heap.size, 0, none⟩) 256 256) (W.alloc (.cells M 5 (0, 0))) := fun W => by
    obtain ⟨i0, hi, hz0, hz1, hz2⟩ := info_parts u8info
    have := Go.run_make (P := Tryd.prog) W 29 5 i0 (.int .u8 0) Tryd.underlying29 hi hz0 .i64 .i64 256 256 (by decide) (by decide) (by rw [hz2]; decide) (by decide)
    rw [this, hz1, hM, hZ, List.map_replicate, show (Value.int IntKind.u8 0).cells = (List.replicate 1 (Value.int .u8 0)).toArray from rfl, made_same _ _ _ (by decide)]
    rfl
  have HM := Lib.hid hM
  clear hC hA hf hM hZ hZl hre
  go_enter Tryd.func20, Tryd.ntmps20
  go_wp2_with fail
  refine (refHas n A c L f _ (HC.out.step (Agr.below (((Below.refl _ w).alloc (Nat.le_refl _) _).alloc (by simp) _))).C hc).mono ?_
  rintro e w1 ⟨rfl, hb1⟩
  obtain ⟨⟨b0, b1⟩, hz, hB⟩ := boxes2 hb1
  obtain ⟨x0, x1, x2, x3⟩ := cells_two b0
  have B := Lib.hid hB
  have D1 := Lib.hid hb1
  rw [HF.out]
  have D2 := Lib.hid (hb1.trans (((Below.refl _ w1).alloc (Nat.le_refl _) (.cells M 5 (0, 0))).drew.mono hb1.size))
  have B2 := Lib.hid (hB.trans (((Below.refl _ w1).alloc (Nat.le_refl _) (.cells M 5 (0, 0))).drew.mono hB.size))
  have hCB := made_CS (w := (w1.alloc (.cells M 5 (0, 0))).drew) (g := w1.heap.size) HZ.out (by unfold maxLen; decide) (by rw [← HM.out]; exact heap_alloc_new _ _)
  have HCB := Lib.hid hCB
  have x4 : (w1.alloc (.cells M 5 (0, 0))).cell? ⟨w.heap.size, 0, none⟩ = some (.int .i64 n) := Lib.cell?_alloc_some _ x0
  have x5 : (w1.alloc (.cells M 5 (0, 0))).cell? ⟨w.heap.size, 1, none⟩ = some (.slice A L.length c) := Lib.cell?_alloc_some _ x1
  clear hb1 b0 b1 hB hCB
  go_wp2_with fail
  go_region_with (refine (refWrite_m n A c L f 0 _ Z 256 256 (fun k => (S k ∧ k < w.heap.size) ∨ w1.heap.size ≤ k) _ HZ.out ((HC.out.mono (T := fun k => (S k ∧ k < w.heap.size) ∨ w1.heap.size ≤ k) (fun k hk hs => Or.inl ⟨hs, hk⟩)).step (Agr.below B2.out)) hc HA.out hL (Nat.le_refl _) (HCB.out.mono (fun k _ hs => Or.inr hs)) (by unfold maxLen; decide)).mono ?_; rintro e w4 ⟨A4, c4, rfl, hA4, hc4, hC4, hb4⟩; rw [HRE.out, show (none : Option Int).getD 0 = 0 from rfl]; have D4 := Lib.hid (D2.out.trans (hb4.mono D2.out.size)); obtain ⟨⟨b0, b1⟩, hz4, hB⟩ := boxes2 D4.out; obtain ⟨y0, y1, y2, y3⟩ := cells_two b1; have B4 := Lib.hid hB; have HA4 := Lib.hid hA4; have HC4 := Lib.hid hC4; have HL4 := Lib.hid hc4; obtain ⟨k, hk⟩ : ∃ k, k = (wL n L f 0 Z).length := ⟨_, rfl⟩; rw [← hk]; have HK := Lib.hid hk; clear x0 x1 x2 x3 x4 x5 b0 b1 hB hA4 hC4 hc4 hb4 hk)
  all_goals
    go_wp2
    have hB5 := (B4.out.setCell (p := ⟨w.heap.size + 1, 0, none⟩) (by simp) (.int .i64 (n : Int))).setCell (p := ⟨w.heap.size + 1, 1, none⟩) (by simp) (.slice A4 k c4)
    refine bodyPost_ret (v := .tuple #[.agg #[.int .i64 n, .slice A4 k c4], .int .i64 0]) (by simp [results, Tryd.results20, go_sem, y0, y1]) rfl ?_
    have hk := HK.out
    subst hk
    have hn : ∀ k, k = w.heap.size + 1 → ¬ (((S k ∧ k < w.heap.size) ∨ w1.heap.size ≤ k) ∨ (w1.alloc (.cells M 5 (0, 0))).drew.heap.size ≤ k) := fun k hk h => by
      have e : (w1.alloc (.cells M 5 (0, 0))).drew.heap.size = w1.heap.size + 1 := by simp
      rw [e] at h
      omega
    refine ⟨A4, c4, rfl, HA4.out, HL4.out, ?_, hB5⟩
    refine (CS.mono ((HC4.out.step (Agr.set _ _ _ (hn _ rfl))).step (Agr.set _ _ _ (hn _ rfl))) (fun k _ h => ?_))
    have e : (w1.alloc (.cells M 5 (0, 0))).drew.heap.size = w1.heap.size + 1 := by simp
    rw [e] at h
    rcases h with (h | h) | h
    · exact Or.inl h.1
    · exact Or.inr (by omega)
    · exact Or.inr (by omega)
theorem refZero_all (n : Nat) (A : Option Addr) (c : Nat) (L : List Nt) (f : Int) (S : Nat → Prop) (w : World) (hC : CS Kn S w A L) (hc : L.length ≤ c) (hA : A = none → c = 0) (hL : L.length ≤ 1000000000) :
    Calls Tryd.prog 20 #[.agg #[.int .i64 n, .slice A L.length c], .int .i64 f] w (WrAns n (wL n L f 0 (List.replicate 256 0)) (zErr n f) S w) := by
  by_cases h : 0 ≤ f ∧ f < (n : Int)
  · rw [show zErr n f = none by unfold zErr; rw [if_pos h]]
    exact refZero_ok n A c L f S w hC hc hA hL h
  · have e : zErr n f = some 22 := by unfold zErr; rw [if_neg h]
    have e2 : wL n L f 0 (List.replicate 256 0) = L := by
      unfold wL
      rw [List.length_replicate, show ((256 : Nat) : Int) = 256 from rfl, ← zErr_eq, e, if_neg (by simp)]
    rw [e, e2]
    exact refZero_no n A c L f S w hC hc hA h
end Go.Proofs.YtikmanafbkiikaaDoor
