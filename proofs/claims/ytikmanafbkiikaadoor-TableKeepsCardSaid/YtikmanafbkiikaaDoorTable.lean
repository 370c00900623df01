/- Tables (package table), walked: the numbers of frames; lower, Get, lay. -/
import Derived.Test.YtikmanafbkiikaaDoorWord
import Derived.Test.YtikmanafbkiikaaDoorPhysW
import Derived.Test.YtikmanafbkiikaaDoorEntryT
import Derived.Test.YtikmanafbkiikaaDoorAgr
import Derived.Deep.RegionWith
namespace Go.Proofs.YtikmanafbkiikaaDoor
set_option linter.unusedSimpArgs false
set_option linter.unusedVariables false
open Go Go.RowKit Go.Proofs.YtikmanafbkiikaaDoorW.PrintWords Go.Proofs.YtikmanafbkiikaaDoorW.PrintMore Go.Proofs.YtikmanafbkiikaaDoor.RowK

/-- A table at block pt: its frames (pf, gf: rs), its memory (pm, gm: bs), k of each; its own frame d. -/
structure Tab (w : World) (pt pf gf pm gm k : Nat) (rs bs : List Int) (d : Nat) : Prop where
  cell : w.heap[pt]? = some (.cells #[.pointer (some ⟨pf, 0, none⟩), .pointer (some ⟨pm, 0, none⟩), .int .i64 d] 143 (0, 0))
  frm : Frm w pf gf k rs
  mem : Mem w pm gm k bs
  byt : Byt bs
  n1 : pt ≠ gm
  n2 : pt ≠ gf
  n3 : pf ≠ gm
  n4 : gf ≠ gm
  n5 : pm ≠ gf
  hd : d < k
section
variable {w w' : World} {pt pf gf pm gm k d : Nat} {rs bs : List Int}
theorem Tab.below (h : Tab w pt pf gf pm gm k rs bs d) (hb : Below w.heap.size w w') : Tab w' pt pf gf pm gm k rs bs d :=
  ⟨(hb.block _ (blk_lt h.cell)).trans h.cell, h.frm.below hb, h.mem.below hb, h.byt, h.n1, h.n2, h.n3, h.n4, h.n5, h.hd⟩
theorem Tab.c (h : Tab w pt pf gf pm gm k rs bs d) : w.cell? ⟨pt, 0, none⟩ = some (.pointer (some ⟨pf, 0, none⟩)) ∧ w.cell? ⟨pt, 1, none⟩ = some (.pointer (some ⟨pm, 0, none⟩)) ∧ w.cell? ⟨pt, 2, none⟩ = some (.int .i64 d) :=
  ⟨(cell_of_row _ _ _ _ _ _ h.cell).trans rfl, (cell_of_row _ _ _ _ _ _ h.cell).trans rfl, (cell_of_row _ _ _ _ _ _ h.cell).trans rfl⟩
/-- The memory's bytes are others. -/
theorem Tab.wrote {bs' : List Int} (h : Tab w pt pf gf pm gm k rs bs d) (hm : Mem w' pm gm k bs') (hy : Byt bs') (ho : Oth w w' gm) : Tab w' pt pf gf pm gm k rs bs' d :=
  ⟨(ho.block _ (blk_lt h.cell) h.n1).trans h.cell, ⟨(ho.block _ (blk_lt h.frm.cell) h.n3).trans h.frm.cell, (ho.block _ (blk_lt h.frm.row) h.n4).trans h.frm.row, h.frm.len, h.frm.ne, h.frm.lim, h.frm.few⟩, hm, hy, h.n1, h.n2, h.n3, h.n4, h.n5, h.hd⟩
/-- The frames are others. -/
theorem Tab.took {rs' : List Int} (h : Tab w pt pf gf pm gm k rs bs d) (hf : Frm w' pf gf k rs') (ho : Oth w w' gf) : Tab w' pt pf gf pm gm k rs' bs d :=
  ⟨(ho.block _ (blk_lt h.cell) h.n2).trans h.cell, hf, ⟨(ho.block _ (blk_lt h.mem.cell) h.n5).trans h.mem.cell, (ho.block _ (blk_lt h.mem.row) (fun e => h.n4 e.symm)).trans h.mem.row, h.mem.len, h.mem.ne, h.mem.lim⟩, h.byt, h.n1, h.n2, h.n3, h.n4, h.n5, h.hd⟩
end
/-- The number at a place of a frame. -/
def wd (bs : List Int) (f a : Nat) : Int := num4 (seg bs (f * 256 + a * 4) 4)
set_option maxRecDepth 100000 in
theorem wd_range {bs : List Int} (h : Byt bs) (f a : Nat) (hl : f * 256 + a * 4 + 4 ≤ bs.length) : 0 ≤ wd bs f a ∧ wd bs f a < 4294967296 := by
  have hy := h.seg (f * 256 + a * 4) 4
  have hs := seg_length bs (f * 256 + a * 4) 4 hl
  have hb : ∀ i, i < 4 → 0 ≤ (seg bs (f * 256 + a * 4) 4).getD i 0 ∧ (seg bs (f * 256 + a * 4) 4).getD i 0 < 256 := fun i hi => by
    rw [List.getD_eq_getElem?_getD, List.getElem?_eq_getElem (by omega)]
    exact hy _ (List.getElem_mem _)
  unfold wd num4
  have h0 := hb 0 (by decide)
  have h1 := hb 1 (by decide)
  have h2 := hb 2 (by decide)
  have h3 := hb 3 (by decide)
  omega
theorem bytes4_byt (v : Int) : Byt (bytes4 v) := fun x hx => by
  unfold bytes4 at hx
  simp only [List.mem_cons, List.not_mem_nil, or_false] at hx
  rcases hx with rfl | rfl | rfl | rfl <;> omega
set_option maxRecDepth 100000 in
theorem wd_same (bs : List Int) (f a : Nat) (v : Int) (h0 : 0 ≤ v) (h1 : v < 4294967296) (hl : f * 256 + a * 4 + 4 ≤ bs.length) : wd (spl bs (f * 256 + a * 4) (bytes4 v)) f a = v := by
  unfold wd
  rw [seg_spl_same _ _ _ 4 rfl (by omega), num4_bytes4 v h0 h1]
set_option maxRecDepth 100000 in
theorem wd_other (bs : List Int) (f a f' a' : Nat) (v : Int) (ha : a < 64) (ha' : a' < 64) (hn : f' ≠ f ∨ a' ≠ a) (hl : f * 256 + a * 4 + 4 ≤ bs.length) : wd (spl bs (f * 256 + a * 4) (bytes4 v)) f' a' = wd bs f' a' := by
  unfold wd
  rw [seg_spl_other _ _ _ _ _ (by omega) (by
    have : (bytes4 v).length = 4 := rfl
    rw [this]
    rcases Nat.lt_trichotomy f' f with h | h | h
    · left; omega
    · subst h
      rcases Nat.lt_trichotomy a' a with h2 | h2 | h2
      · left; omega
      · omega
      · right; omega
    · right; omega)]
set_option maxHeartbeats 2000000 in
set_option maxRecDepth 100000 in
theorem tab_number (w : World) (pt pf gf pm gm k d : Nat) (rs bs : List Int) (h : Tab w pt pf gf pm gm k rs bs d) (f a : Nat) (hf : f < k) (ha : a < 64) :
    Calls Tryd.prog 70 #[.pointer (some ⟨pt, 0, none⟩), .int .i64 f, .int .i64 a] w fun e w' => e = .returned (.tuple #[.int .u32 (wd bs f a), .nilIface]) ∧ Below w.heap.size w w' := by
  obtain ⟨c0, c1, c2⟩ := h.c
  have hlen := h.mem.len
  have hlim := h.mem.lim
  have H := Lib.hid h
  clear h
  go_enter Tryd.func70, Tryd.ntmps70
  go_wp2_with fail
  refine (read_at w pm gm k bs H.out.mem f (a * 4) 4 (f * 256 + a * 4) 4 (by omega) (by decide) (by omega) (by omega) (by omega) (by omega) (by decide) (by omega)).mono ?_
  rintro e w1 ⟨v, rfl, hR, hb⟩
  have hl : (seg bs (f * 256 + a * 4) 4).length = 4 := seg_length _ _ _ (by omega)
  have hy := H.out.byt.seg (f * 256 + a * 4) 4
  obtain ⟨S, hS⟩ : ∃ S, S = seg bs (f * 256 + a * 4) 4 := ⟨_, rfl⟩
  have hw : wd bs f a = num4 S := by rw [hS]; rfl
  have HW := Lib.hid hw
  rw [← hS] at hR hl hy
  obtain ⟨gb, c, rfl, _, _, _⟩ := Kd.R_form hR (by omega)
  have hx : ∀ i : Nat, i < 4 → w1.cell? ⟨gb, i, none⟩ = some (.int .u8 (S.getD i 0)) ∧ 0 ≤ S.getD i 0 ∧ S.getD i 0 < 256 := fun i hi => by
    refine ⟨?_, ?_⟩
    · have := (Kd.R_celln (0 : Int) hR (i : Int) (by omega) (by omega)).1
      rw [show ((i : Nat) : Int).toNat = i by omega] at this
      rw [this]
      unfold rdOf
      rw [show ((i : Nat) : Int).toNat = i by omega]
    · rw [List.getD_eq_getElem?_getD, List.getElem?_eq_getElem (by omega)]
      exact hy _ (List.getElem_mem _)
  have HX := Lib.hid hx
  have B1 := Lib.hid hb
  rw [hl]
  clear hR hb hS hl hy hw hx
  go_wp2_with fail
  refine (word_load w1 gb 0 c (S.getD 0 0) (S.getD 1 0) (S.getD 2 0) (S.getD 3 0) (HX.out 0 (by decide)).2 (HX.out 1 (by decide)).2 (HX.out 2 (by decide)).2 (HX.out 3 (by decide)).2 (HX.out 0 (by decide)).1 (HX.out 1 (by decide)).1 (HX.out 2 (by decide)).1 (HX.out 3 (by decide)).1).mono ?_
  rintro e w2 ⟨rfl, rfl⟩
  go_wp2
  go_ret2
  exact ⟨ret2 (vint (by rw [HW.out]; rfl)) rfl, B1.out⟩
set_option maxHeartbeats 2000000 in
set_option maxRecDepth 100000 in
theorem tab_lay (w : World) (pt pf gf pm gm k d : Nat) (rs bs : List Int) (h : Tab w pt pf gf pm gm k rs bs d) (f a : Nat) (v : Int) (hf : f < k) (ha : a < 64) (h0 : 0 ≤ v) (h1 : v < 4294967296) :
    Calls Tryd.prog 76 #[.pointer (some ⟨pt, 0, none⟩), .int .i64 f, .int .i64 a, .int .u32 v] w fun e w' => e = .returned .nilIface ∧ Tab w' pt pf gf pm gm k rs (spl bs (f * 256 + a * 4) (bytes4 v)) d ∧ Oth w w' gm := by
  have hlen := h.mem.len
  have hlim := h.mem.lim
  have H := Lib.hid h
  clear h
  go_enter Tryd.func76, Tryd.ntmps76
  go_wp2_with fail
  refine (word_store w v h0 h1).mono ?_
  rintro e w1 ⟨x, rfl, hR, hb⟩
  obtain ⟨A, c, rfl, _, hC⟩ := Kd.R_reads hR
  have T1 := Lib.hid (H.out.below hb)
  obtain ⟨c0, c1, c2⟩ := T1.out.c
  have HB := Lib.hid hb
  have HC := Lib.hid hC
  rw [show (bytes4 v).length = 4 from rfl]
  clear hR hb hC
  go_wp2_with fail
  refine (write_at w1 pm gm k bs T1.out.mem f (a * 4) A (bytes4 v) c (f * 256 + a * 4) (by omega) HC.out (by omega) (by omega) (by omega) (by omega) (by rw [show (bytes4 v).length = 4 from rfl]; omega)).mono ?_
  rintro e w2 ⟨rfl, hm2, ho2⟩
  have T2 := Lib.hid (T1.out.wrote hm2 (T1.out.byt.spl (bytes4_byt v) _) ho2)
  have O2 := Lib.hid ((Oth.of_below HB.out).trans ho2)
  clear hm2 ho2 c0 c1 c2
  go_wp2
  go_ret
  exact ⟨rfl, T2.out, O2.out⟩
set_option maxHeartbeats 2000000 in
set_option maxRecDepth 100000 in
theorem tab_dead (w : World) (pt pf gf pm gm k d : Nat) (rs bs : List Int) (h : Tab w pt pf gf pm gm k rs bs d) :
    Calls Tryd.prog 67 #[.pointer (some ⟨pt, 0, none⟩)] w fun e w' => e = .returned (.bool false) ∧ w = w' := by
  obtain ⟨c0, c1, c2⟩ := h.c
  clear h
  go_enter Tryd.func67, Tryd.ntmps67
  go_wp2
  go_ret
  exact ⟨rfl, rfl⟩
set_option maxHeartbeats 2000000 in
set_option maxRecDepth 100000 in
theorem tab_paged (w : World) (p : Int) :
    Calls Tryd.prog 68 #[.int .i64 p] w fun e w' => e = .returned (.bool (decide (0 ≤ p ∧ p < 4096))) ∧ w = w' := by
  by_cases h0 : 0 ≤ p
  · go_enter Tryd.func68, Tryd.ntmps68
    go_wp2
    go_ret
    exact ⟨ret1 (vbool (by simp [h0])), rfl⟩
  · go_enter Tryd.func68, Tryd.ntmps68
    go_wp2
    go_ret
    exact ⟨ret1 (vbool (by have h1 : ¬ 0 ≤ p := by omega
                           simp [h1])), rfl⟩
set_option maxHeartbeats 2000000 in
set_option maxRecDepth 100000 in
/-- The frame of an upper part: what its number says. -/
theorem tab_lower (w : World) (pt pf gf pm gm k d : Nat) (rs bs : List Int) (h : Tab w pt pf gf pm gm k rs bs d) (u : Nat) (hu : u < 64) :
    Calls Tryd.prog 69 #[.pointer (some ⟨pt, 0, none⟩), .int .i64 u] w fun e w' => e = .returned (.tuple #[.int .i64 (if isEnt (wd bs d u) then wd bs d u / 256 else 0), .bool (isEnt (wd bs d u)), errW (entDecE (wd bs d u))]) ∧ Below w.heap.size w w' := by
  obtain ⟨c0, c1, c2⟩ := h.c
  have hd := h.hd
  have hr := wd_range h.byt d u (by have := h.mem.len; omega)
  have H := Lib.hid h
  obtain ⟨v, hv⟩ : ∃ v, v = wd bs d u := ⟨_, rfl⟩
  rw [← hv] at hr ⊢
  have HV := Lib.hid hv
  clear h hv
  obtain ⟨E, hE⟩ : ∃ E, E = errW (entDecE v) := ⟨_, rfl⟩
  obtain ⟨x0, x1, x2, hx, hx0⟩ : ∃ (x0 x1 : Int) (x2 : Bool), entDecV v = .agg #[.int .i64 x0, .int .u8 x1, .bool x2] ∧ x0 = (if isEnt v then v / 256 else 0) := by
    unfold entDecV
    split
    · exact ⟨_, _, _, rfl, rfl⟩
    · exact ⟨_, _, _, rfl, rfl⟩
  rw [← hx0, ← hE]
  have HX := Lib.hid hx
  have HE := Lib.hid hE
  clear hx hx0 hE
  go_enter Tryd.func69, Tryd.ntmps69
  go_wp2_with fail
  refine (tab_number w pt pf gf pm gm k d rs bs H.out d u hd hu).mono ?_
  rintro e w1 ⟨rfl, hb1⟩
  rw [← HV.out]
  have B1 := Lib.hid hb1
  clear hb1 c0 c1 c2
  go_wp2_with fail
  refine (entDecode v hr.1 hr.2 w1).mono ?_
  rintro e w2 ⟨rfl, hb2⟩
  rw [HX.out, ← HE.out]
  have B2 := Lib.hid (B1.out.trans (hb2.mono B1.out.size))
  clear hb2
  go_wp2_with fail
  go_ret3
  exact ⟨rfl, B2.out.alloc B2.out.size _⟩
set_option maxHeartbeats 2000000 in
set_option maxRecDepth 100000 in
theorem tab_taken_ok (w : World) (pf gf pm gm k : Nat) (rs bs : List Int) (hf : Frm w pf gf k rs) (hm : Mem w pm gm k bs) (n3 : pf ≠ gm) (n4 : gf ≠ gm) (n5 : pm ≠ gf) (i : Nat) (hi : rs[i]? = some 0) (hn : ∀ j, j < i → rs[j]? ≠ some 0) :
    Calls Tryd.prog 77 #[.pointer (some ⟨pf, 0, none⟩), .pointer (some ⟨pm, 0, none⟩)] w fun e w' => e = .returned (.tuple #[.int .i64 i, .nilIface]) ∧ Frm w' pf gf k (rs.set i 1) ∧ Mem w' pm gm k (spl bs (i * 256) (List.replicate 256 0)) ∧ Agr (fun b => b ≠ gf ∧ b ≠ gm) w w' := by
  have hik : i < k := by rw [← hf.len]; exact (List.getElem?_eq_some_iff.1 hi).1
  have HF := Lib.hid hf
  have HM := Lib.hid hm
  have HI := Lib.hid hi
  have HN := Lib.hid hn
  obtain ⟨Z, hZ⟩ : ∃ Z, Z = List.replicate 256 (0 : Int) := ⟨_, rfl⟩
  rw [← hZ]
  have HZ := Lib.hid hZ
  have NE := Lib.hid (show pf ≠ gm ∧ gf ≠ gm ∧ pm ≠ gf from ⟨n3, n4, n5⟩)
  clear hf hm hi hn hZ n3 n4 n5
  go_enter Tryd.func77, Tryd.ntmps77
  go_wp2_with fail
  refine (frAlloc_ok w pf gf k rs HF.out i HI.out HN.out).mono ?_
  rintro e w1 ⟨rfl, hf1, ho1⟩
  have F1 := Lib.hid hf1
  have O1 := Lib.hid ho1
  have M1 := Lib.hid (show Mem w1 pm gm k bs from ⟨(ho1.block _ (blk_lt HM.out.cell) NE.out.2.2).trans HM.out.cell, (ho1.block _ (blk_lt HM.out.row) (fun e => NE.out.2.1 e.symm)).trans HM.out.row, HM.out.len, HM.out.ne, HM.out.lim⟩)
  clear hf1 ho1
  go_wp2_with fail
  refine (zero_ok w1 pm gm k bs M1.out i (by omega) (by omega)).mono ?_
  rintro e w2 ⟨rfl, hm2, ho2⟩
  rw [← HZ.out, show ((i : Nat) : Int).toNat = i by omega] at hm2
  have M2 := Lib.hid hm2
  have O2 := Lib.hid ho2
  have F2 := Lib.hid (show Frm w2 pf gf k (rs.set i 1) from ⟨(ho2.block _ (blk_lt F1.out.cell) NE.out.1).trans F1.out.cell, (ho2.block _ (blk_lt F1.out.row) NE.out.2.1).trans F1.out.row, F1.out.len, F1.out.ne, F1.out.lim, F1.out.few⟩)
  clear hm2 ho2
  go_wp2
  go_ret2
  exact ⟨rfl, F2.out, M2.out, (Agr.oth O1.out (fun h => h.1 rfl)).trans (Agr.oth O2.out (fun h => h.2 rfl))⟩
set_option maxHeartbeats 2000000 in
set_option maxRecDepth 100000 in
theorem tab_taken_no (w : World) (pf gf pm gm k : Nat) (rs bs : List Int) (hf : Frm w pf gf k rs) (hm : Mem w pm gm k bs) (hn : ∀ j, j < k → rs[j]? ≠ some 0) :
    Calls Tryd.prog 77 #[.pointer (some ⟨pf, 0, none⟩), .pointer (some ⟨pm, 0, none⟩)] w fun e w' => e = .returned (.tuple #[.int .i64 0, errW (some 12)]) ∧ w = w' := by
  have HF := Lib.hid hf
  have HN := Lib.hid hn
  clear hf hm hn
  rw [errW_some]
  go_enter Tryd.func77, Tryd.ntmps77
  go_wp2_with fail
  refine (frAlloc_no w pf gf k rs HF.out HN.out).mono ?_
  rintro e w1 ⟨rfl, rfl⟩
  rw [errW_some]
  go_wp2
  go_ret2
  exact ⟨rfl, rfl⟩
theorem Tab.agr {w w' : World} {pt pf gf pm gm k d : Nat} {rs bs rs' bs' : List Int} (h : Tab w pt pf gf pm gm k rs bs d) (hf : Frm w' pf gf k rs') (hm : Mem w' pm gm k bs') (hy : Byt bs') (ha : Agr (fun b => b ≠ gf ∧ b ≠ gm) w w') : Tab w' pt pf gf pm gm k rs' bs' d :=
  ⟨(ha.block _ (blk_lt h.cell) ⟨h.n2, h.n1⟩).trans h.cell, hf, hm, hy, h.n1, h.n2, h.n3, h.n4, h.n5, h.hd⟩
/-- Below what the table has. -/
theorem Agr.low {w0 w w' : World} {g1 g2 : Nat} (h : Agr (fun b => b ≠ g1 ∧ b ≠ g2) w w') (hb : Below w0.heap.size w0 w) (h1 : w0.heap.size ≤ g1) (h2 : w0.heap.size ≤ g2) : Below w0.heap.size w0 w' :=
  h.old hb (fun k hk => ⟨by omega, by omega⟩)
set_option maxHeartbeats 2000000 in
set_option maxRecDepth 100000 in
theorem tab_made_is (w : World) (pt pf gf pm gm k d : Nat) (rs bs : List Int) (h : Tab w pt pf gf pm gm k rs bs d) (u : Nat) (hu : u < 64) (he : isEnt (wd bs d u) = true) :
    Calls Tryd.prog 75 #[.pointer (some ⟨pt, 0, none⟩), .int .i64 u] w fun e w' => e = .returned (.tuple #[.int .i64 (wd bs d u / 256), .nilIface]) ∧ Below w.heap.size w w' := by
  have H := Lib.hid h
  have HE := Lib.hid he
  clear h he
  go_enter Tryd.func75, Tryd.ntmps75
  go_wp2_with fail
  refine (tab_lower w pt pf gf pm gm k d rs bs H.out u hu).mono ?_
  rintro e w1 ⟨rfl, hb1⟩
  rw [HE.out, if_pos rfl, show entDecE (wd bs d u) = none by unfold entDecE; rw [HE.out, Bool.or_true]; rfl, errW_none]
  have B1 := Lib.hid hb1
  clear hb1
  go_wp2
  go_ret2
  exact ⟨rfl, B1.out⟩
theorem isEnt_zero : isEnt 0 = false := by decide
theorem entDecE_zero : entDecE 0 = none := by decide
set_option maxHeartbeats 4000000 in
set_option maxRecDepth 100000 in
theorem tab_made_full (w : World) (pt pf gf pm gm k d : Nat) (rs bs : List Int) (h : Tab w pt pf gf pm gm k rs bs d) (u : Nat) (hu : u < 64) (he : wd bs d u = 0) (hn : ∀ j, j < k → rs[j]? ≠ some 0) :
    Calls Tryd.prog 75 #[.pointer (some ⟨pt, 0, none⟩), .int .i64 u] w fun e w' => e = .returned (.tuple #[.int .i64 0, errW (some 12)]) ∧ Below w.heap.size w w' := by
  have H := Lib.hid h
  have HE := Lib.hid he
  have HN := Lib.hid hn
  clear h he hn
  rw [errW_some]
  go_enter Tryd.func75, Tryd.ntmps75
  go_wp2_with fail
  refine (tab_lower w pt pf gf pm gm k d rs bs H.out u hu).mono ?_
  rintro e w1 ⟨rfl, hb1⟩
  rw [HE.out, isEnt_zero, if_neg (by decide), entDecE_zero, errW_none]
  have B1 := Lib.hid hb1
  have T1 := Lib.hid (H.out.below hb1)
  have TD := Lib.hid (T1.out.below (w' := w1.drew) (below_drew (Below.refl _ _)))
  obtain ⟨c0, c1, c2⟩ := T1.out.c
  clear hb1
  go_wp2_with fail
  go_region_with (refine (tab_taken_no w1.drew pf gf pm gm k rs bs TD.out.frm TD.out.mem HN.out).mono ?_; rintro e w2 ⟨rfl, rfl⟩; rw [errW_some])
  all_goals
    go_wp2
    go_ret2
    exact ⟨rfl, B1.out.drew⟩
set_option maxHeartbeats 4000000 in
set_option maxRecDepth 100000 in
theorem tab_made_new (w : World) (pt pf gf pm gm k d : Nat) (rs bs : List Int) (h : Tab w pt pf gf pm gm k rs bs d) (u : Nat) (hu : u < 64) (he : wd bs d u = 0) (i : Nat) (hi : rs[i]? = some 0) (hn : ∀ j, j < i → rs[j]? ≠ some 0) :
    Calls Tryd.prog 75 #[.pointer (some ⟨pt, 0, none⟩), .int .i64 u] w fun e w' => e = .returned (.tuple #[.int .i64 i, .nilIface]) ∧ Tab w' pt pf gf pm gm k (rs.set i 1) (spl (spl bs (i * 256) (List.replicate 256 0)) (d * 256 + u * 4) (bytes4 (entNum i 1 false))) d ∧ Agr (fun b => b ≠ gf ∧ b ≠ gm) w w' := by
  have hik : i < k := by rw [← h.frm.len]; exact (List.getElem?_eq_some_iff.1 hi).1
  have hlim := h.frm.lim
  have hok : entOk i 1 = true := entOk_iff.2 ⟨by omega, by omega, by decide⟩
  have hnum : entNum i 1 false = (i : Int) * 256 + 129 := by unfold entNum; simp; omega
  have H := Lib.hid h
  have HE := Lib.hid he
  have HI := Lib.hid hi
  have HN := Lib.hid hn
  have HOK := Lib.hid hok
  obtain ⟨Z, hZ⟩ : ∃ Z, Z = List.replicate 256 (0 : Int) := ⟨_, rfl⟩
  rw [← hZ]
  have HZ := Lib.hid hZ
  obtain ⟨v, hv⟩ : ∃ v, v = entNum i 1 false := ⟨_, rfl⟩
  rw [← hv] at hnum ⊢
  have hv0 : 0 ≤ v := by omega
  have hv1 : v < 4294967296 := by omega
  have HV := Lib.hid hv
  clear h he hi hn hok hZ hv hnum
  go_enter Tryd.func75, Tryd.ntmps75
  go_wp2_with fail
  refine (tab_lower w pt pf gf pm gm k d rs bs H.out u hu).mono ?_
  rintro e w1 ⟨rfl, hb1⟩
  rw [HE.out, isEnt_zero, if_neg (by decide), entDecE_zero, errW_none]
  have B1 := Lib.hid hb1
  have T1 := Lib.hid (H.out.below hb1)
  have TD := Lib.hid (T1.out.below (w' := w1.drew) (below_drew (Below.refl _ _)))
  obtain ⟨c0, c1, c2⟩ := T1.out.c
  clear hb1
  go_wp2_with fail
  go_region_with (refine (tab_taken_ok w1.drew pf gf pm gm k rs bs TD.out.frm TD.out.mem TD.out.n3 TD.out.n4 TD.out.n5 i HI.out HN.out).mono ?_; rintro e w2 ⟨rfl, hf2, hm2, ha2⟩; rw [← HZ.out] at hm2; have T2 := Lib.hid (TD.out.agr hf2 hm2 (TD.out.byt.spl (by rw [HZ.out]; exact Byt.zero _) _) ha2); have A2 := Lib.hid (((Agr.below B1.out).trans (Agr.below (below_drew (Below.refl _ _)))).trans ha2); clear hf2 hm2 ha2)
  all_goals
    clear c0 c1 c2
    go_wp2_with fail
    refine (entEncode (i : Int) 1 false (by decide) (by decide) _).mono ?_
    rintro e w3 ⟨rfl, hb3⟩
    rw [entEnc, HOK.out, if_pos rfl, show errW (argErr true) = .nilIface from rfl, ← HV.out]
    have T3 := Lib.hid (T2.out.below hb3)
    have A3 := Lib.hid (A2.out.trans (Agr.below hb3))
    obtain ⟨c0, c1, c2⟩ := T3.out.c
    clear hb3
    go_wp2_with fail
    refine (tab_lay _ pt pf gf pm gm k d _ _ T3.out d u v T3.out.hd hu hv0 hv1).mono ?_
    rintro e w4 ⟨rfl, ht4, ho4⟩
    have T4 := Lib.hid ht4
    have A4 := Lib.hid (A3.out.trans (Agr.oth ho4 (fun h => h.2 rfl)))
    clear ht4 ho4 c0 c1 c2
    go_wp2
    go_ret2
    exact ⟨rfl, T4.out, A4.out⟩
end Go.Proofs.YtikmanafbkiikaaDoor
