/- Which frames are taken (package frames), walked. -/
import Derived.Test.YtikmanafbkiikaaDoorProg
import Derived.Test.YtikmanafbkiikaaDoorKit
import Derived.Test.YtikmanafbkiikaaDoorRowK
import Derived.Test.YtikmanafbkiikaaDoorWMore
import Derived.WalkKit
import Derived.WalkSpells
import Derived.BigQuiet
import Derived.Deep.QuietTactic
import Derived.Deep.LoopGhost
import Derived.LoopN
import Derived.Laws.Rows
import Derived.Laws.MakeOwn
import Derived.Outline
import Derived.Lib.Hide
namespace Go.Proofs.YtikmanafbkiikaaDoor
set_option linter.unusedSimpArgs false
set_option linter.unusedVariables false
open Go Go.RowKit Go.Proofs.YtikmanafbkiikaaDoorW.PrintWords Go.Proofs.YtikmanafbkiikaaDoorW.PrintMore Go.Proofs.YtikmanafbkiikaaDoor.RowK

/-- Frames at block p: how often each of k is taken, in block g. -/
structure Frm (w : World) (p g k : Nat) (rs : List Int) : Prop where
  cell : w.heap[p]? = some (.cells #[.slice (some ⟨g, 0, none⟩) k k] 151 (0, 0))
  row : w.heap[g]? = some (.cells (rs.map (Value.int .i64)).toArray 3 (0, 0))
  len : rs.length = k
  ne : p ≠ g
  lim : k ≤ 1024
  few : ∀ r ∈ rs, 0 ≤ r ∧ r ≤ 1073741824
section
variable {w w' : World} {p g k : Nat} {rs : List Int}
theorem Frm.c0 (h : Frm w p g k rs) : w.cell? ⟨p, 0, none⟩ = some (.slice (some ⟨g, 0, none⟩) k k) := (cell_of_row _ _ _ _ _ _ h.cell).trans rfl
theorem Frm.cellAt (h : Frm w p g k rs) (j : Nat) (r : Int) (hj : rs[j]? = some r) : w.cell? ⟨g, j, none⟩ = some (.int .i64 r) := by
  rw [cell_of_row _ _ _ _ _ _ h.row]
  simp [hj]
theorem Frm.below (h : Frm w p g k rs) (hb : Below w.heap.size w w') : Frm w' p g k rs :=
  ⟨(hb.block _ (blk_lt h.cell)).trans h.cell, (hb.block _ (blk_lt h.row)).trans h.row, h.len, h.ne, h.lim, h.few⟩
theorem Frm.set (h : Frm w p g k rs) (j : Nat) (v : Int) (h0 : 0 ≤ v) (h1 : v ≤ 1073741824) : Frm (w.setCell ⟨g, j, none⟩ (.int .i64 v)) p g k (rs.set j v) := by
  refine ⟨(Below.heap_setCell w ⟨g, j, none⟩ _ p h.ne).trans h.cell, ?_, by rw [List.length_set]; exact h.len, h.ne, h.lim, fun r hr => ?_⟩
  · rw [heap_setCell_same w g j _ _ _ h.row]
    simp [List.map_set]
  · rcases List.mem_or_eq_of_mem_set hr with hr | rfl
    · exact h.few r hr
    · exact ⟨h0, h1⟩
end
theorem intInfo : (Tryd.prog.info? 3).map (fun i => (i.zero, i.size, i.bytes)) = some (some (.int .i64 0), 1, 8) := by kernel_rfl
set_option maxHeartbeats 1000000 in
set_option maxRecDepth 100000 in
theorem frNew (w : World) (k : Int) (h0 : 1 ≤ k) (h1 : k ≤ 1024) :
    Calls Tryd.prog 30 #[.int .i64 k] w fun e w' => ∃ p g, e = .returned (.tuple #[.pointer (some ⟨p, 0, none⟩), .nilIface]) ∧ Frm w' p g k.toNat (List.replicate k.toNat 0) ∧ w.heap.size ≤ g ∧ w.heap.size ≤ p ∧ Below w.heap.size w w' := by
  obtain ⟨i0, hi, hz0, hz1, hz2⟩ := info_parts intInfo
  have hmk := Go.run_make (P := Tryd.prog) w 59 3 i0 (.int .i64 0) Tryd.underlying59 hi hz0 .i64 .i64 k k (by omega) (Int.le_refl _) (by rw [hz2]; omega) (by omega)
  have hm1 : madeCells (Value.int IntKind.i64 0).cells (k.toNat * i0.size) = ((List.replicate k.toNat (0 : Int)).map (Value.int .i64)).toArray := by
    rw [hz1, Nat.mul_one, List.map_replicate]
    apply Array.ext'
    exact toList_madeCells_one _ _
  rw [hm1] at hmk
  obtain ⟨M, hM⟩ : ∃ M, M = ((List.replicate k.toNat (0 : Int)).map (Value.int .i64)).toArray := ⟨_, rfl⟩
  rw [← hM] at hmk
  have HM := Lib.hid hM
  clear hM hi hz0 hz1 hz2 hm1
  go_enter Tryd.func30, Tryd.ntmps30
  go_wp2
  go_ret2
  refine ⟨w.heap.size + 1, w.heap.size, by first | rfl | simp, ⟨?_, ?_, by simp, by omega, by omega, fun r hr => ?_⟩, Nat.le_refl _, by omega, ((Below.refl _ w).alloc (Nat.le_refl _) _).alloc (by simp) _⟩
  · have := heap_alloc_new (w.alloc (.cells M 3)) (.cells #[.slice (some ⟨w.heap.size, 0, none⟩) k.toNat k.toNat] 151)
    rw [World.size_alloc] at this
    exact this
  · rw [heap_alloc_old _ _ (by simp), heap_alloc_new, HM.out]
  · rw [List.eq_of_mem_replicate hr]; decide
set_option maxHeartbeats 1000000 in
set_option maxRecDepth 100000 in
theorem frIndex_ok (w : World) (g k : Nat) (rs : List Int) (hk : k ≤ 1024) (hc : ∀ j r, rs[j]? = some r → w.cell? ⟨g, j, none⟩ = some (.int .i64 r)) (hl : rs.length = k) (i : Nat) (hi : rs[i]? = some 0) (hn : ∀ j, j < i → rs[j]? ≠ some 0) :
    Calls Tryd.prog 82 #[.slice (some ⟨g, 0, none⟩) k k, .int .i64 0] w fun e w' => e = .returned (.int .i64 i) ∧ w = w' := by
  have HC := Lib.hid hc
  have HI := Lib.hid hi
  have HN := Lib.hid hn
  have hik : i < k := by rw [← hl]; exact (List.getElem?_eq_some_iff.1 hi).1
  have HL := Lib.hid hl
  clear hc hi hn hl
  go_enter Tryd.func82, Tryd.ntmps82
  go_wp2_with fail
  go_loopg [8] k (fun gg s8 wr => ∃ j : Nat, s8 = .int .i64 (j : Nat) ∧ j + gg = k ∧ j ≤ i ∧ wr = w)
  case atStart => exact ⟨0, rfl, by omega, Nat.zero_le _, rfl⟩
  case round =>
    obtain ⟨j, rfl, hj, hji, rfl⟩ := hrel
    have hlt : (j : Int) < (k : Int) := by omega
    obtain ⟨r, hr⟩ : ∃ r, rs[j]? = some r := ⟨_, List.getElem?_eq_getElem (by rw [HL.out]; omega)⟩
    have hcell := HC.out j r hr
    have hjk : j < k := by omega
    by_cases he : j = i
    · subst he
      obtain rfl : r = 0 := by have := HI.out; rw [hr] at this; exact Option.some.inj this
      clear hr
      go_wp2
      go_ret
      exact ⟨rfl, rfl⟩
    · have hr0 : ((0 : Int) == r) = false := beq_false_of_ne (fun h => HN.out j (by omega) (by rw [hr, ← h]))
      clear hr
      go_wp2_with fail
      go_roundg (k - (j + 1))
      case measure => omega
      case rel => exact ⟨j + 1, by go_num, by omega, by omega, rfl⟩
set_option maxHeartbeats 1000000 in
set_option maxRecDepth 100000 in
theorem frIndex_no (w : World) (g k : Nat) (rs : List Int) (hk : k ≤ 1024) (hc : ∀ j r, rs[j]? = some r → w.cell? ⟨g, j, none⟩ = some (.int .i64 r)) (hl : rs.length = k) (hn : ∀ j, j < k → rs[j]? ≠ some 0) :
    Calls Tryd.prog 82 #[.slice (some ⟨g, 0, none⟩) k k, .int .i64 0] w fun e w' => e = .returned (.int .i64 (-1)) ∧ w = w' := by
  have HC := Lib.hid hc
  have HN := Lib.hid hn
  have HL := Lib.hid hl
  clear hc hn hl
  go_enter Tryd.func82, Tryd.ntmps82
  go_wp2_with fail
  go_loopg [8] k (fun gg s8 wr => ∃ j : Nat, s8 = .int .i64 (j : Nat) ∧ j + gg = k ∧ wr = w)
  case atStart => exact ⟨0, rfl, by omega, rfl⟩
  case round =>
    obtain ⟨j, rfl, hj, rfl⟩ := hrel
    by_cases hjk : j < k
    · have hlt : (j : Int) < (k : Int) := by omega
      obtain ⟨r, hr⟩ : ∃ r, rs[j]? = some r := ⟨_, List.getElem?_eq_getElem (by rw [HL.out]; omega)⟩
      have hcell := HC.out j r hr
      have hr0 : ((0 : Int) == r) = false := beq_false_of_ne (fun h => HN.out j (by omega) (by rw [hr, ← h]))
      clear hr
      go_wp2_with fail
      go_roundg (k - (j + 1))
      case measure => omega
      case rel => exact ⟨j + 1, by go_num, by omega, rfl⟩
    · have hlt : ¬ (j : Int) < (k : Int) := by omega
      go_wp2
      go_ret
      exact ⟨rfl, rfl⟩
set_option maxHeartbeats 1000000 in
set_option maxRecDepth 100000 in
theorem frAlloc_ok (w : World) (p g k : Nat) (rs : List Int) (h : Frm w p g k rs) (i : Nat) (hi : rs[i]? = some 0) (hn : ∀ j, j < i → rs[j]? ≠ some 0) :
    Calls Tryd.prog 36 #[.pointer (some ⟨p, 0, none⟩)] w fun e w' => e = .returned (.tuple #[.int .i64 i, .nilIface]) ∧ Frm w' p g k (rs.set i 1) ∧ Oth w w' g := by
  have c0 := h.c0
  have hik : i < k := by rw [← h.len]; exact (List.getElem?_eq_some_iff.1 hi).1
  have hikz : (i : Int) < (k : Int) := by omega
  have hk := h.lim
  have ci := h.cellAt i 0 hi
  have fi : w.frozen? ⟨g, i, none⟩ = false := frozen_of_row _ _ _ _ _ h.row
  have H := Lib.hid h
  have HI := Lib.hid hi
  have HN := Lib.hid hn
  clear h hi hn
  go_enter Tryd.func36, Tryd.ntmps36
  go_wp2_with fail
  ((with_reducible refine (frIndex_ok w g k rs hk H.out.cellAt H.out.len i HI.out HN.out).mono ?_); rintro e w' ⟨rfl, rfl⟩)
  go_wp2
  go_ret2
  exact ⟨rfl, H.out.set i 1 (by decide) (by decide), Oth.put1 _ _ _ _⟩
set_option maxHeartbeats 1000000 in
set_option maxRecDepth 100000 in
theorem frAlloc_no (w : World) (p g k : Nat) (rs : List Int) (h : Frm w p g k rs) (hn : ∀ j, j < k → rs[j]? ≠ some 0) :
    Calls Tryd.prog 36 #[.pointer (some ⟨p, 0, none⟩)] w fun e w' => e = .returned (.tuple #[.int .i64 0, errW (some 12)]) ∧ w = w' := by
  have c0 := h.c0
  have hk := h.lim
  have H := Lib.hid h
  have HN := Lib.hid hn
  clear h hn
  rw [errW_some]
  go_enter Tryd.func36, Tryd.ntmps36
  go_wp2_with fail
  ((with_reducible refine (frIndex_no w g k rs hk H.out.cellAt H.out.len HN.out).mono ?_); rintro e w' ⟨rfl, rfl⟩)
  go_wp2
  go_ret2
  exact ⟨rfl, rfl⟩
/-- How often a frame is taken. -/
def refsOf (rs : List Int) (n : Int) : Int := if 0 ≤ n then rs[n.toNat]?.getD 0 else 0
set_option maxHeartbeats 1000000 in
set_option maxRecDepth 100000 in
theorem frRefs (w : World) (p g k : Nat) (rs : List Int) (h : Frm w p g k rs) (n : Int) :
    Calls Tryd.prog 112 #[.pointer (some ⟨p, 0, none⟩), .int .i64 n] w fun e w' => e = .returned (.int .i64 (refsOf rs n)) ∧ w = w' := by
  have c0 := h.c0
  have hk := h.lim
  unfold refsOf
  by_cases h0 : 0 ≤ n
  · rw [if_pos h0]
    by_cases h1 : n < k
    · have hl : n.toNat < rs.length := by rw [h.len]; omega
      have hc := h.cellAt n.toNat _ (List.getElem?_eq_getElem hl)
      rw [List.getElem?_eq_getElem hl, Option.getD_some]
      obtain ⟨r, hr⟩ : ∃ r, r = rs[n.toNat] := ⟨_, rfl⟩
      rw [← hr] at hc
      rw [← hr]
      have hlk : n.toNat < k := by omega
      clear hr hl h
      have d1 : ¬ n < 0 := by omega
      have d2 : ¬ (k : Int) ≤ n := by omega
      go_enter Tryd.func112, Tryd.ntmps112
      go_wp2
      go_ret
      exact ⟨rfl, rfl⟩
    · rw [List.getElem?_eq_none (by rw [h.len]; omega), Option.getD_none]
      have d1 : ¬ n < 0 := by omega
      have d2 : (k : Int) ≤ n := by omega
      clear h
      go_enter Tryd.func112, Tryd.ntmps112
      go_wp2
      go_ret
      exact ⟨rfl, rfl⟩
  · rw [if_neg h0]
    have d1 : n < 0 := by omega
    clear h
    go_enter Tryd.func112, Tryd.ntmps112
    go_wp2
    go_ret
    exact ⟨rfl, rfl⟩
set_option maxHeartbeats 1000000 in
set_option maxRecDepth 100000 in
theorem frIs (w : World) (p g k : Nat) (rs : List Int) (h : Frm w p g k rs) (n : Int) :
    Calls Tryd.prog 102 #[.pointer (some ⟨p, 0, none⟩), .int .i64 n] w fun e w' => e = .returned (.bool (decide (0 < refsOf rs n))) ∧ w = w' := by
  have H := Lib.hid h
  clear h
  go_enter Tryd.func102, Tryd.ntmps102
  go_wp2_with fail
  ((with_reducible refine (frRefs w p g k rs H.out n).mono ?_); rintro e w' ⟨rfl, rfl⟩)
  go_wp2
  go_ret
  exact ⟨rfl, rfl⟩
theorem refsOf_pos {rs : List Int} {n : Int} (h : 0 < refsOf rs n) : 0 ≤ n ∧ n.toNat < rs.length := by
  unfold refsOf at h
  split at h
  · rename_i h0
    refine ⟨h0, ?_⟩
    rcases Nat.lt_or_ge n.toNat rs.length with hl | hl
    · exact hl
    · rw [List.getElem?_eq_none hl] at h; simp at h
  · omega
set_option maxHeartbeats 1000000 in
set_option maxRecDepth 100000 in
theorem frUnref_ok (w : World) (p g k : Nat) (rs : List Int) (h : Frm w p g k rs) (n : Int) (hp : 0 < refsOf rs n) :
    Calls Tryd.prog 73 #[.pointer (some ⟨p, 0, none⟩), .int .i64 n] w fun e w' => e = .returned (.tuple #[.bool (refsOf rs n - 1 == 0), .nilIface]) ∧ Frm w' p g k (rs.set n.toNat (refsOf rs n - 1)) ∧ Oth w w' g := by
  obtain ⟨h0, hl⟩ := refsOf_pos hp
  have c0 := h.c0
  have hlim := h.lim
  have hnk : n < (k : Int) := by have := h.len; omega
  have hnk2 : n.toNat < k := by omega
  have hr : refsOf rs n = rs[n.toNat] := by unfold refsOf; rw [if_pos h0, List.getElem?_eq_getElem hl, Option.getD_some]
  obtain ⟨r, hr'⟩ : ∃ r, r = refsOf rs n := ⟨_, rfl⟩
  have ci : w.cell? ⟨g, n.toNat, none⟩ = some (.int .i64 r) := by rw [hr', hr]; exact h.cellAt _ _ (List.getElem?_eq_getElem hl)
  have hfew : 0 ≤ r ∧ r ≤ 1073741824 := by rw [hr', hr]; exact h.few _ (List.getElem_mem _)
  have fi : w.frozen? ⟨g, n.toNat, none⟩ = false := frozen_of_row _ _ _ _ _ h.row
  rw [← hr'] at hp ⊢
  have hne : ¬ p = g := h.ne
  have hne' : ¬ g = p := fun e => h.ne e.symm
  have H := Lib.hid h
  have HR := Lib.hid hr'
  have hd : decide (0 < refsOf rs n) = true := by rw [← hr']; exact decide_eq_true hp
  have HD := Lib.hid hd
  clear h hr hr' hd hl
  go_enter Tryd.func73, Tryd.ntmps73
  go_wp2_with fail
  ((with_reducible refine (frIs w p g k rs H.out n).mono ?_); rintro e w' ⟨rfl, rfl⟩)
  rw [HD.out]
  go_wp2
  go_ret2
  exact ⟨rfl, H.out.set n.toNat (r - 1) (by omega) (by omega), Oth.put1 _ _ _ _⟩
set_option maxHeartbeats 1000000 in
set_option maxRecDepth 100000 in
theorem frUnref_no (w : World) (p g k : Nat) (rs : List Int) (h : Frm w p g k rs) (n : Int) (hp : ¬ 0 < refsOf rs n) :
    Calls Tryd.prog 73 #[.pointer (some ⟨p, 0, none⟩), .int .i64 n] w fun e w' => e = .returned (.tuple #[.bool false, errW (some 22)]) ∧ w = w' := by
  have H := Lib.hid h
  have HD := Lib.hid (decide_eq_false hp)
  clear h hp
  rw [errW_some]
  go_enter Tryd.func73, Tryd.ntmps73
  go_wp2_with fail
  ((with_reducible refine (frIs w p g k rs H.out n).mono ?_); rintro e w' ⟨rfl, rfl⟩)
  rw [HD.out]
  go_wp2
  go_ret2
  exact ⟨rfl, rfl⟩
/-- The frames that are taken, of the first j. -/
def takenTo (rs : List Int) (j : Nat) : List Int := ((List.range j).filter fun i => decide (0 < rs[i]?.getD 0)).map fun i : Nat => (i : Int)
theorem takenTo_succ (rs : List Int) (j : Nat) : takenTo rs (j + 1) = takenTo rs j ++ (if 0 < rs[j]?.getD 0 then [(j : Int)] else []) := by
  unfold takenTo
  rw [List.range_succ, List.filter_append, List.map_append]
  congr 1
  by_cases h : 0 < rs[j]?.getD 0
  · simp [h]
  · simp [h]
theorem takenTo_length (rs : List Int) (j : Nat) : (takenTo rs j).length ≤ j := by
  unfold takenTo
  rw [List.length_map]
  exact Nat.le_trans (List.length_filter_le _ _) (by simp)
set_option maxHeartbeats 2000000 in
set_option maxRecDepth 100000 in
theorem frTaken (w : World) (p g k : Nat) (rs : List Int) (h : Frm w p g k rs) :
    Calls Tryd.prog 40 #[.pointer (some ⟨p, 0, none⟩)] w fun e w' => ∃ v, e = .returned v ∧ Kd.R (Kd.int .i64) 3 w' w.heap.size (fun _ => True) v (takenTo rs k) ∧ Below w.heap.size w w' := by
  have c0 := h.c0
  have hlim := h.lim
  have H := Lib.hid h
  clear h
  go_enter Tryd.func40, Tryd.ntmps40
  go_wp2_with fail
  go_loopg [3, 13] k (fun gg s3 s13 wr => ∃ j : Nat, s13 = .int .i64 (j : Nat) ∧ j + gg = k ∧ Aside (Kd.R (Kd.int .i64) 3 wr w.heap.size (fun _ => True) s3 (takenTo rs j)) ∧ Aside (Below w.heap.size w wr))
  case atStart => exact ⟨0, rfl, by omega, Kd.R_nil _ _ _ _ _, Below.refl _ _⟩
  case round =>
    obtain ⟨j, rfl, hj, Rr, Br⟩ := hrel
    by_cases hjk : j < k
    · have hlt : (j : Int) < (k : Int) := by omega
      have Hr := Lib.hid (H.out.below Br.out)
      obtain ⟨r, hr⟩ : ∃ r, rs[j]? = some r := ⟨_, List.getElem?_eq_getElem (by have := H.out.len; omega)⟩
      have hcell := Hr.out.cellAt j r hr
      have HRR := Lib.hid hr
      have hlen := takenTo_length rs j
      clear hr
      by_cases hpos : 0 < r
      · go_wp2_with ((with_reducible refine gate_builtin (b := .append) (xs := #[.tmp 20, .tmp 22]) rfl ?_); at_builtin; refine Kd.R_append_row (Value.int .i64) (0 : Int) (h1 := fun _ => rfl) (w0 := w) w.heap.size rfl (.tmp 20) (.tmp 22) 59 3 (.int .i64 0) 8 rfl Tryd.underlying59 intInfo rfl (by decide) _ (takenTo rs j) [(j : Int)] (some ⟨wr.heap.size, 0, none⟩) 1 1 (fun _ => True) rfl rfl (fun _ _ => trivial) (Kd.R_alloc Rr.out _) ?aR ?aB ?aS ?aL ?_)
        case aR =>
          exact Kd.C_of_reads (d := (0 : Int)) ⟨rfl, by omega, fun _ => ⟨_, rfl, fun i hi => by
            obtain rfl : i = 0 := by omega
            rw [Addr.add_lit, Nat.zero_add, cell_of_row _ _ _ _ _ _ (heap_alloc_new _ _)]
            simp⟩⟩
        case aB => exact Br.out.alloc Br.out.size _
        case aS => have := Br.out.size; simp; omega
        case aL => omega
        intro v1 w2 hR2 hB2 hG2 hat2
        have R2 := Lib.hid hR2
        have B2 := Lib.hid hB2
        clear hR2 hB2 hG2 hat2
        go_wp2_with fail
        go_roundg (k - (j + 1))
        case measure => omega
        case rel => exact ⟨j + 1, by go_num, by omega, by show Kd.R _ _ _ _ _ _ _; rw [takenTo_succ, HRR.out, Option.getD_some, if_pos hpos]; exact R2.out, B2.out⟩
      · go_wp2_with fail
        go_roundg (k - (j + 1))
        case measure => omega
        case rel => exact ⟨j + 1, by go_num, by omega, by show Kd.R _ _ _ _ _ _ _; rw [takenTo_succ, HRR.out, Option.getD_some, if_neg (by omega), List.append_nil]; exact Rr.out, Br.out⟩
    · have hlt : ¬ (j : Int) < (k : Int) := by omega
      obtain rfl : j = k := by omega
      go_wp2
      go_ret
      exact ⟨_, rfl, Rr.out, Br.out⟩
set_option maxHeartbeats 2000000 in
set_option maxRecDepth 100000 in
theorem frFree (w : World) (p g k : Nat) (rs : List Int) (h : Frm w p g k rs) :
    Calls Tryd.prog 43 #[.pointer (some ⟨p, 0, none⟩)] w fun e w' => e = .returned (.int .i64 ((k : Int) - (takenTo rs k).length)) ∧ Below w.heap.size w w' := by
  have c0 := h.c0
  have hlim := h.lim
  have H := Lib.hid h
  have hblk := blk_lt h.cell
  have q0 : ∀ n : Later w, n.1.cell? ⟨p, 0, none⟩ = some (.slice (some ⟨g, 0, none⟩) k k) := fun n => (n.cell 0 hblk).trans c0
  have hlen := takenTo_length rs k
  clear h hblk
  go_enter Tryd.func43, Tryd.ntmps43
  go_wp2_with fail
  have HD := Lib.hid (H.out.below (w' := w.drew) (below_drew (Below.refl _ _)))
  go_region_with (refine (frTaken w.drew p g k rs HD.out).mono ?_; rintro e w2 ⟨v, rfl, hR, hb⟩; obtain ⟨A, c, rfl, hcc, hCC⟩ := Kd.R_reads hR; have c2 := (H.out.below ((below_drew (Below.refl _ w)).trans hb)).c0; have B2 := Lib.hid ((below_drew (Below.refl _ w)).trans hb); clear hR hb hcc hCC)
  all_goals
    go_wp2
    go_ret
    refine ⟨?_, B2.out⟩
    go_simp
    rw [IntKind.wrap_i64]
    omega
end Go.Proofs.YtikmanafbkiikaaDoor
