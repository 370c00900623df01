/- Tables, walked: Get, New. -/
import Derived.Test.YtikmanafbkiikaaDoorTable2
namespace Go.Proofs.YtikmanafbkiikaaDoor
set_option linter.unusedSimpArgs false
set_option linter.unusedVariables false
open Go Go.RowKit Go.Proofs.YtikmanafbkiikaaDoorW.PrintWords Go.Proofs.YtikmanafbkiikaaDoorW.PrintMore Go.Proofs.YtikmanafbkiikaaDoor.RowK

theorem entDecV_form (v : Int) : ∃ (x0 x1 : Int) (x2 : Bool), entDecV v = .agg #[.int .i64 x0, .int .u8 x1, .bool x2] := by
  unfold entDecV
  split
  · exact ⟨_, _, _, rfl⟩
  · exact ⟨_, _, _, rfl⟩
theorem box3 {w : World} {a b c : Value} {T : TypeId} {W : World} (h : Below (w.alloc (.cells #[a, b, c] T (0, 0))).heap.size (w.alloc (.cells #[a, b, c] T (0, 0))) W) :
    (W.cell? ⟨w.heap.size, 0, none⟩ = some a ∧ W.cell? ⟨w.heap.size, 1, none⟩ = some b ∧ W.cell? ⟨w.heap.size, 2, none⟩ = some c) ∧ (W.frozen? ⟨w.heap.size, 0, none⟩ = false ∧ W.frozen? ⟨w.heap.size, 1, none⟩ = false ∧ W.frozen? ⟨w.heap.size, 2, none⟩ = false) ∧ w.heap.size < W.heap.size ∧ Below w.heap.size w W := by
  have e0 : W.heap[w.heap.size]? = some (.cells #[a, b, c] T (0, 0)) := (h.block _ (by simp)).trans (heap_alloc_new _ _)
  have hs := h.size
  simp only [World.size_alloc] at hs
  exact ⟨⟨(cell_of_row _ _ _ _ _ _ e0).trans rfl, (cell_of_row _ _ _ _ _ _ e0).trans rfl, (cell_of_row _ _ _ _ _ _ e0).trans rfl⟩, ⟨frozen_of_row _ _ _ _ _ e0, frozen_of_row _ _ _ _ _ e0, frozen_of_row _ _ _ _ _ e0⟩, by omega, ((Below.refl _ w).alloc (Nat.le_refl _) _).trans (h.mono (by simp))⟩
set_option maxHeartbeats 4000000 in
set_option maxRecDepth 100000 in
theorem tab_get_is (w : World) (pt pf gf pm gm k d : Nat) (rs bs : List Int) (h : Tab w pt pf gf pm gm k rs bs d) (p : Int) (u a n : Nat) (hp0 : 0 ≤ p) (hp1 : p < 4096) (hu : p / 64 = (u : Int)) (ha : p % 64 = (a : Int)) (he : isEnt (wd bs d u) = true) (hn : wd bs d u / 256 = (n : Int)) (hnk : n < k) :
    Calls Tryd.prog 23 #[.pointer (some ⟨pt, 0, none⟩), .int .i64 p] w fun e w' => e = .returned (.tuple #[entDecV (wd bs n a), .bool (isEnt (wd bs n a)), errW (entDecE (wd bs n a))]) ∧ Below w.heap.size w w' := by
  have hu64 : u < 64 := by omega
  have ha64 : a < 64 := by omega
  have hr := wd_range h.byt n a (by have := h.mem.len; omega)
  obtain ⟨v, hv⟩ : ∃ v, v = wd bs n a := ⟨_, rfl⟩
  rw [← hv] at hr ⊢
  obtain ⟨x0, x1, x2, hx⟩ := entDecV_form v
  obtain ⟨E, hE⟩ : ∃ E, E = errW (entDecE v) := ⟨_, rfl⟩
  rw [← hE, hx]
  have H := Lib.hid h
  have HU := Lib.hid hu
  have HA := Lib.hid ha
  have HE := Lib.hid he
  have HN := Lib.hid hn
  have HV := Lib.hid hv
  have HX := Lib.hid hx
  have HEE := Lib.hid hE
  have HPG := Lib.hid (decide_eq_true (show 0 ≤ p ∧ p < 4096 from ⟨hp0, hp1⟩))
  clear h hu ha he hn hv hx hE
  go_enter Tryd.func23, Tryd.ntmps23
  go_wp2_with fail
  have B0 := Lib.hid ((Below.refl _ w).alloc (Nat.le_refl _) (.cells #[.int .i64 0, .int .u8 0, .bool false] 55 (0, 0)))
  refine (tab_dead _ pt pf gf pm gm k d rs bs (H.out.below B0.out)).mono ?_
  rintro e w1 ⟨rfl, rfl⟩
  go_wp2_with fail
  refine (tab_paged _ p).mono ?_
  rintro e w1 ⟨rfl, rfl⟩
  rw [HPG.out]
  go_wp2_with fail
  rw [HU.out]
  refine (tab_lower _ pt pf gf pm gm k d rs bs (H.out.below B0.out) u hu64).mono ?_
  rintro e w1 ⟨rfl, hb1⟩
  rw [HE.out, if_pos rfl, show entDecE (wd bs d u) = none by unfold entDecE; rw [HE.out, Bool.or_true]; rfl, errW_none, HN.out]
  have D1 := Lib.hid hb1
  have T1 := Lib.hid ((H.out.below B0.out).below hb1)
  clear hb1
  go_wp2_with fail
  rw [HA.out]
  refine (tab_number w1 pt pf gf pm gm k d rs bs T1.out n a hnk ha64).mono ?_
  rintro e w2 ⟨rfl, hb2⟩
  rw [← HV.out]
  have D2 := Lib.hid (D1.out.trans (hb2.mono D1.out.size))
  clear hb2
  go_wp2_with fail
  refine (entDecode v hr.1 hr.2 w2).mono ?_
  rintro e w3 ⟨rfl, hb3⟩
  rw [HX.out, ← HEE.out]
  have D3 := Lib.hid (D2.out.trans (hb3.mono D2.out.size))
  obtain ⟨⟨y0, y1, y2⟩, ⟨f0, f1, f2⟩, hz, hB⟩ := box3 D3.out
  have B3 := Lib.hid hB
  clear hb3 hB
  go_wp2
  refine bodyPost_ret (v := .tuple #[.agg #[.int .i64 x0, .int .u8 x1, .bool x2], .bool (isEnt v), E]) (by simp [results, Tryd.results23, go_sem, y0, y1, y2]) rfl ⟨rfl, ?_⟩
  exact ((B3.out.setCell (p := ⟨w.heap.size, 0, none⟩) (Nat.le_refl _) _).setCell (p := ⟨w.heap.size, 1, none⟩) (Nat.le_refl _) _).setCell (p := ⟨w.heap.size, 2, none⟩) (Nat.le_refl _) _
set_option maxHeartbeats 4000000 in
set_option maxRecDepth 100000 in
theorem tab_get_none (w : World) (pt pf gf pm gm k d : Nat) (rs bs : List Int) (h : Tab w pt pf gf pm gm k rs bs d) (p : Int) (u : Nat) (hp0 : 0 ≤ p) (hp1 : p < 4096) (hu : p / 64 = (u : Int)) (he : wd bs d u = 0) :
    Calls Tryd.prog 23 #[.pointer (some ⟨pt, 0, none⟩), .int .i64 p] w fun e w' => e = .returned (.tuple #[.agg #[.int .i64 0, .int .u8 0, .bool false], .bool false, .nilIface]) ∧ Below w.heap.size w w' := by
  have hu64 : u < 64 := by omega
  have H := Lib.hid h
  have HU := Lib.hid hu
  have HE := Lib.hid he
  have HPG := Lib.hid (decide_eq_true (show 0 ≤ p ∧ p < 4096 from ⟨hp0, hp1⟩))
  clear h hu he
  go_enter Tryd.func23, Tryd.ntmps23
  go_wp2_with fail
  have B0 := Lib.hid ((Below.refl _ w).alloc (Nat.le_refl _) (.cells #[.int .i64 0, .int .u8 0, .bool false] 55 (0, 0)))
  refine (tab_dead _ pt pf gf pm gm k d rs bs (H.out.below B0.out)).mono ?_
  rintro e w1 ⟨rfl, rfl⟩
  go_wp2_with fail
  refine (tab_paged _ p).mono ?_
  rintro e w1 ⟨rfl, rfl⟩
  rw [HPG.out]
  go_wp2_with fail
  rw [HU.out]
  refine (tab_lower _ pt pf gf pm gm k d rs bs (H.out.below B0.out) u hu64).mono ?_
  rintro e w1 ⟨rfl, hb1⟩
  rw [HE.out, isEnt_zero, if_neg (by decide), entDecE_zero, errW_none]
  obtain ⟨⟨y0, y1, y2⟩, ⟨f0, f1, f2⟩, hz, hB⟩ := box3 hb1
  have B3 := Lib.hid hB
  clear hb1 hB
  go_wp2
  refine bodyPost_ret (v := .tuple #[.agg #[.int .i64 0, .int .u8 0, .bool false], .bool false, .nilIface]) (by simp [results, Tryd.results23, go_sem, y0, y1, y2]) rfl ⟨rfl, ?_⟩
  exact ((B3.out.setCell (p := ⟨w.heap.size, 0, none⟩) (Nat.le_refl _) _).setCell (p := ⟨w.heap.size, 1, none⟩) (Nat.le_refl _) _).setCell (p := ⟨w.heap.size, 2, none⟩) (Nat.le_refl _) _
set_option maxHeartbeats 4000000 in
set_option maxRecDepth 100000 in
theorem tab_get_bad (w : World) (pt pf gf pm gm k d : Nat) (rs bs : List Int) (h : Tab w pt pf gf pm gm k rs bs d) (p : Int) (hp : ¬ (0 ≤ p ∧ p < 4096)) :
    Calls Tryd.prog 23 #[.pointer (some ⟨pt, 0, none⟩), .int .i64 p] w fun e w' => e = .returned (.tuple #[.agg #[.int .i64 0, .int .u8 0, .bool false], .bool false, errW (some 22)]) ∧ Below w.heap.size w w' := by
  have H := Lib.hid h
  have HPG := Lib.hid (decide_eq_false hp)
  clear h hp
  rw [errW_some]
  go_enter Tryd.func23, Tryd.ntmps23
  go_wp2_with fail
  have B0 := Lib.hid ((Below.refl _ w).alloc (Nat.le_refl _) (.cells #[.int .i64 0, .int .u8 0, .bool false] 55 (0, 0)))
  refine (tab_dead _ pt pf gf pm gm k d rs bs (H.out.below B0.out)).mono ?_
  rintro e w1 ⟨rfl, rfl⟩
  go_wp2_with fail
  refine (tab_paged _ p).mono ?_
  rintro e w1 ⟨rfl, rfl⟩
  rw [HPG.out]
  go_wp2
  refine bodyPost_ret (v := .tuple #[.agg #[.int .i64 0, .int .u8 0, .bool false], .bool false, .iface 123 (.int .i64 22)]) (by simp [results, Tryd.results23, go_sem]) rfl ⟨rfl, ?_⟩
  exact B0.out
set_option maxHeartbeats 4000000 in
set_option maxRecDepth 100000 in
/-- A new table takes the first frame that is free. -/
theorem tab_new (w : World) (pf gf pm gm k : Nat) (rs bs : List Int) (hf : Frm w pf gf k rs) (hm : Mem w pm gm k bs) (hy : Byt bs) (n3 : pf ≠ gm) (n4 : gf ≠ gm) (n5 : pm ≠ gf) (i : Nat) (hi : rs[i]? = some 0) (hn : ∀ j, j < i → rs[j]? ≠ some 0) :
    Calls Tryd.prog 31 #[.pointer (some ⟨pf, 0, none⟩), .pointer (some ⟨pm, 0, none⟩)] w fun e w' => ∃ pt, e = .returned (.tuple #[.pointer (some ⟨pt, 0, none⟩), .nilIface]) ∧ w.heap.size ≤ pt ∧ Tab w' pt pf gf pm gm k (rs.set i 1) (spl bs (i * 256) (List.replicate 256 0)) i ∧ Agr (fun b => b ≠ gf ∧ b ≠ gm) w w' := by
  have hik : i < k := by rw [← hf.len]; exact (List.getElem?_eq_some_iff.1 hi).1
  have hlen := takenTo_length rs k
  have hlim := hf.lim
  have HF := Lib.hid hf
  have HM := Lib.hid hm
  have HY := Lib.hid hy
  have HI := Lib.hid hi
  have HN := Lib.hid hn
  have NE := Lib.hid (show pf ≠ gm ∧ gf ≠ gm ∧ pm ≠ gf from ⟨n3, n4, n5⟩)
  obtain ⟨Z, hZ⟩ : ∃ Z, Z = List.replicate 256 (0 : Int) := ⟨_, rfl⟩
  rw [← hZ]
  have HZ := Lib.hid hZ
  clear hf hm hy hi hn hZ n3 n4 n5
  go_enter Tryd.func31, Tryd.ntmps31
  go_wp2_with fail
  refine (many_ok w pm gm k bs HM.out).mono ?_
  rintro e w1 ⟨rfl, rfl⟩
  go_wp2_with fail
  refine (frFree w pf gf k rs HF.out).mono ?_
  rintro e w1 ⟨rfl, hb1⟩
  have B1 := Lib.hid hb1
  have F1 := Lib.hid (HF.out.below hb1)
  clear hb1
  go_wp2_with fail
  refine (frTaken w1 pf gf k rs F1.out).mono ?_
  rintro e w2 ⟨v, rfl, hR, hb2⟩
  obtain ⟨A, c, rfl, hcc, hCC⟩ := Kd.R_reads hR
  have B2 := Lib.hid (B1.out.trans (hb2.mono B1.out.size))
  clear hR hb2 hcc hCC
  go_wp2_with fail
  refine (tab_taken_ok w2 pf gf pm gm k rs bs (HF.out.below B2.out) (HM.out.below B2.out) NE.out.1 NE.out.2.1 NE.out.2.2 i HI.out HN.out).mono ?_
  rintro e w3 ⟨rfl, hf3, hm3, ha3⟩
  rw [← HZ.out] at hm3
  have F3 := Lib.hid hf3
  have M3 := Lib.hid hm3
  have A3 := Lib.hid ((Agr.below B2.out).trans ha3)
  clear hf3 hm3 ha3
  go_wp2
  go_ret2
  have hbb : Below w3.heap.size w3 (w3.alloc (.cells #[.pointer (some ⟨pf, 0, none⟩), .pointer (some ⟨pm, 0, none⟩), .int .i64 i] 143 (0, 0))) := (Below.refl _ _).alloc (Nat.le_refl _) _
  have e1 := blk_lt F3.out.row
  have e2 := blk_lt M3.out.row
  exact ⟨w3.heap.size, rfl, A3.out.size, ⟨heap_alloc_new _ _, F3.out.below hbb, M3.out.below hbb, HY.out.spl (by rw [HZ.out]; exact Byt.zero _) _, by omega, by omega, NE.out.1, NE.out.2.1, NE.out.2.2, hik⟩, A3.out.trans (Agr.below hbb)⟩
end Go.Proofs.YtikmanafbkiikaaDoor
