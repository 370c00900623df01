/- The frames of bytes (package phys), walked: what each function answers and what becomes of the bytes. -/
import Derived.Test.YtikmanafbkiikaaDoorProg
import Derived.Test.YtikmanafbkiikaaDoorKit
import Derived.Test.YtikmanafbkiikaaDoorPhysMath
import Derived.Test.YtikmanafbkiikaaDoorRowK
import Derived.Test.YtikmanafbkiikaaDoorWMore
import Derived.WalkSpells
import Derived.WalkKit
import Derived.RegionTactic
import Derived.StillTailTactics
import Derived.ChangeAlike
import Derived.BigQuiet
import Derived.Deep.QuietTactic
import Derived.Laws.IdiomCopy
import Derived.Laws.Rows
import Derived.Outline
import Derived.Lib.Hide
namespace Go.Proofs.YtikmanafbkiikaaDoor
set_option linter.unusedSimpArgs false
set_option linter.unusedVariables false
open Go Go.RowKit Go.Proofs.YtikmanafbkiikaaDoorW.PrintWords Go.Proofs.YtikmanafbkiikaaDoor.RowK

/-- A memory at block p: n frames, whose bytes are bs, in block g. -/
structure Mem (w : World) (p g n : Nat) (bs : List Int) : Prop where
  cell : w.heap[p]? = some (.cells #[.slice (some ⟨g, 0, none⟩) n n] 126 (0, 0))
  row : w.heap[g]? = some (.cells (bs.map (Value.int .u8)).toArray 129 (0, 0))
  len : bs.length = n * 256
  ne : p ≠ g
  lim : n ≤ 1024
theorem Mem.c0 {w : World} {p g n : Nat} {bs : List Int} (h : Mem w p g n bs) : w.cell? ⟨p, 0, none⟩ = some (.slice (some ⟨g, 0, none⟩) n n) := (cell_of_row _ _ _ _ _ _ h.cell).trans rfl

set_option maxHeartbeats 1000000 in
theorem has_any (w : World) (p g n : Nat) (bs : List Int) (h : Mem w p g n bs) (f : Int) :
    Calls Tryd.prog 63 #[.pointer (some ⟨p, 0, none⟩), .int .i64 f] w fun e w' => e = .returned (.bool (decide (0 ≤ f ∧ f < n))) ∧ w = w' := by
  have c0 := h.c0
  by_cases h0 : 0 ≤ f
  · go_enter Tryd.func63, Tryd.ntmps63
    go_wp2
    go_ret
    exact ⟨ret1 (vbool (by simp [h0])), rfl⟩
  · go_enter Tryd.func63, Tryd.ntmps63
    go_wp2
    go_ret
    exact ⟨ret1 (vbool (by have h1 : ¬ 0 ≤ f := by omega
                           simp [h1])), rfl⟩
theorem has_yes (w : World) (p g n : Nat) (bs : List Int) (h : Mem w p g n bs) (f : Int) (h0 : 0 ≤ f) (h1 : f < n) :
    Calls Tryd.prog 63 #[.pointer (some ⟨p, 0, none⟩), .int .i64 f] w fun e w' => e = .returned (.bool true) ∧ w = w' := by
  have := has_any w p g n bs h f
  rwa [decide_eq_true (show 0 ≤ f ∧ f < n from ⟨h0, h1⟩)] at this
theorem arr_len : Tryd.prog.arrayLen 129 = 256 := by kernel_rfl
theorem arr_und : Tryd.prog.underlying 129 = some (.array (Tryd.prog.arrayLen 129) (Tryd.prog.elem 129)) := by kernel_rfl
theorem arr_elt (w : World) : (Go.sizeOf (Tryd.prog.elem 129)).run Tryd.prog w = .ok 1 w := by kernel_rfl
theorem arr_slice (w : World) (g q : Nat) (o h : Int) (h0 : 0 ≤ o) (h1 : o ≤ h) (h2 : h ≤ 256) :
    ∃ q', (Instr.sliceAt 129 (.pointer (some ⟨g, q, none⟩)) (some (.int .i64 o)) (some (.int .i64 h)) none).run Tryd.prog w = .ok (.slice (some ⟨g, q', none⟩) (h.toNat - o.toNat) (256 - o.toNat)) w ∧ (o < h → q' = q + o.toNat) := by
  refine ⟨if 256 = o.toNat then q else q + o.toNat, ?_, fun hl => by rw [if_neg (by omega)]⟩
  rw [run_sliceAt_array_lh w _ _ arr_und .i64 .i64 o h h0 h1 (by rw [arr_len]; exact h2), arr_elt, arr_len]
  simp only [Result.andThen, slicedAt]
  by_cases e : 256 = o.toNat
  · simp [e]
  · simp [e, Addr.add_lit]
set_option maxHeartbeats 1000000 in
set_option maxRecDepth 100000 in
theorem part_ok (w : World) (p g n : Nat) (bs : List Int) (h : Mem w p g n bs) (f o m : Int) (hf0 : 0 ≤ f) (hf1 : f < n) (ho0 : 0 ≤ o) (ho1 : o ≤ 256) (hm0 : 0 ≤ m) (hm1 : m ≤ 256 - o) :
    Calls Tryd.prog 61 #[.pointer (some ⟨p, 0, none⟩), .int .i64 f, .int .i64 o, .int .i64 m] w fun e w' => (∃ q c, e = .returned (.tuple #[.slice (some ⟨g, q, none⟩) m.toNat c, .nilIface]) ∧ (0 < m.toNat → q = f.toNat * 256 + o.toNat) ∧ m.toNat ≤ c) ∧ w = w' := by
  have c0 := h.c0
  obtain ⟨q, hq, hq'⟩ := arr_slice w g (f.toNat * 256) o (o + m) ho0 (by omega) (by omega)
  rw [show (o + m).toNat - o.toNat = m.toNat by omega] at hq
  have hlt : f.toNat < n := by omega
  have HQ := Lib.hid hq'
  have H := Lib.hid h
  clear h hq'
  go_enter Tryd.func61, Tryd.ntmps61
  go_wp2_with fail
  ((with_reducible refine (has_yes _ _ _ _ _ H.out _ hf0 hf1).mono ?_); rintro e w' ⟨rfl, rfl⟩)
  go_wp2
  go_ret2
  exact ⟨⟨q, _, rfl, fun hm => HQ.out (by omega), by omega⟩, rfl⟩
/-! ### What stays -/
theorem Mem.below {w w' : World} {p g n : Nat} {bs : List Int} (h : Mem w p g n bs) (hb : Below w.heap.size w w') : Mem w' p g n bs :=
  ⟨(hb.block _ (blk_lt h.cell)).trans h.cell, (hb.block _ (blk_lt h.row)).trans h.row, h.len, h.ne, h.lim⟩
theorem u8info : (Tryd.prog.info? 5).map (fun i => (i.zero, i.size, i.bytes)) = some (some (.int .u8 0), 1, 1) := by kernel_rfl
theorem u8size : (Tryd.prog.info? 5).map (·.size) = some 1 := by kernel_rfl
abbrev Bk : Kd Int := Kd.int .u8
theorem cells_of_C {w : World} {A : Option Addr} {n : Nat} {l : List Int} (h : Kd.C Bk w A n l) (hn : 0 < n) : ∃ ad, A = some ad ∧ ∀ j v, (l.map (Value.int .u8))[j]? = some v → w.cell? (ad.add j) = some v := by
  obtain ⟨ad, e, hc⟩ := (Kd.reads_of_C (enc := Value.int .u8) (d := (0 : Int)) (h1 := fun _ => rfl) h).2.2 hn
  refine ⟨ad, e, fun j v hj => ?_⟩
  have hl : j < l.length := by have := (List.getElem?_eq_some_iff.1 hj).1; simpa using this
  rw [hc j (by have := h.1; omega)]
  rw [List.getElem?_map, List.getElem?_eq_getElem hl] at hj
  simp only [Option.map_some, Option.some.injEq] at hj
  rw [← hj, List.getD_eq_getElem?_getD, List.getElem?_eq_getElem hl]
  rfl
set_option maxHeartbeats 2000000 in
theorem clone_bytes (b off n c : Nat) (l : List Int) (w : World) (hl : l.length = n) (hn : n ≤ 4611686018427387904) (hbig : n ≤ 140737488355328)
    (hc : 0 < n → ∀ j v, (l.map (Value.int .u8))[j]? = some v → w.cell? ⟨b, off + j, none⟩ = some v) :
    Calls Tryd.prog 62 #[.slice (some ⟨b, off, none⟩) n c] w fun e w' => ∃ v, e = .returned v ∧ Kd.R Bk 5 w' w.heap.size (fun _ => True) v l ∧ Below w.heap.size w w' := by
  have q22 : ∀ (w : World) (a : Option Addr) (n c n' c' : Nat), (binOp .eql 29 (.slice a n c) (.slice none n' c')).run Tryd.prog w = .ok (.bool a.isNone) w := fun w a n c n' c' => Lib.run_eql_slice_nil w _ _ a n c n' c' Tryd.underlying29
  have u22 : ∀ w, Sem.run Tryd.prog (underlying 29) w = .ok (TypeDesc.slice 5) w := run_underlying Tryd.underlying29
  obtain ⟨i0, hi, hz0, hz1, hz2⟩ := info_parts u8info
  have A : Aside (∀ j u, (l.map (Value.int .u8))[j]? = some u → w.cell? ⟨b, off + j, none⟩ = some u) := fun j u hj => hc (by have := (List.getElem?_eq_some_iff.1 hj).1; simp at this; omega) j u hj
  have HL := Lib.hid hl
  clear hc hl
  go_enter Tryd.func62, Tryd.ntmps62
  go_wp2_with (at_builtin; refine wpList_append_own _ rfl _ _ 29 rfl w.heap.size 5 i0 (.int .u8 0) 1 1 Tryd.underlying29 hi hz0 hz1 hz2 rfl (by decide) _ _ _ rfl (World.ownsRow_made w #[] 0 (Nat.le_refl _) (Nat.zero_le _) (by simp)) ⟨b, off, none⟩ n c (l.map (Value.int .u8)) rfl ?qc1 ?qc2 ?qc3 ?qc4 ?qc5 ?qc6 ?_)
  case qc1 => simp [HL.out]
  case qc2 =>
    intro j u hj
    rw [Addr.add_lit]
    exact Lib.cell?_alloc_some _ (A.out j u hj)
  case qc3 =>
    intro u hu
    obtain ⟨x, _, rfl⟩ := List.mem_map.1 hu
    rfl
  case qc4 => unfold maxLen; omega
  case qc5 => omega
  case qc6 => simp
  intro v' w1 hown hgrow hnil
  go_wp2
  go_ret
  refine ⟨v', rfl, ?_, ((Below.refl _ w).alloc (Nat.le_refl _) _).grown hgrow (by simp) (by intro k hk; simp [Value.ownBlock] at hk; omega)⟩
  have ho : w1.ownsRow w.heap.size 5 1 v' l.length (l.map (Value.int .u8)) := by rw [HL.out]; simpa using hown
  exact Kd.R_of_own ho (fun _ _ => trivial)

theorem Mem.cellAt {w : World} {p g n : Nat} {bs : List Int} (h : Mem w p g n bs) (q m : Nat) : ∀ j v, ((seg bs q m).map (Value.int .u8))[j]? = some v → w.cell? ⟨g, q + j, none⟩ = some v := fun j v hj => by
  rw [cell_of_row _ _ _ _ _ _ h.row]
  unfold seg at hj
  rw [List.getElem?_map, List.getElem?_take] at hj
  split at hj
  · rw [List.getElem?_drop] at hj
    simpa using hj
  · simp at hj
set_option maxHeartbeats 1000000 in
theorem read_ok (w : World) (p g n : Nat) (bs : List Int) (h : Mem w p g n bs) (f o m : Int) (hf0 : 0 ≤ f) (hf1 : f < n) (ho0 : 0 ≤ o) (ho1 : o ≤ 256) (hm0 : 0 ≤ m) (hm1 : m ≤ 256 - o) :
    Calls Tryd.prog 12 #[.pointer (some ⟨p, 0, none⟩), .int .i64 f, .int .i64 o, .int .i64 m] w fun e w' => ∃ v, e = .returned (.tuple #[v, .nilIface]) ∧ Kd.R Bk 5 w' w.heap.size (fun _ => True) v (seg bs (f.toNat * 256 + o.toNat) m.toNat) ∧ Below w.heap.size w w' := by
  have hlen := h.len
  have hlim := h.lim
  have H := Lib.hid h
  have hC : ∀ q c, (0 < m.toNat → q = f.toNat * 256 + o.toNat) → Calls Tryd.prog 62 #[.slice (some ⟨g, q, none⟩) m.toNat c] w fun e w' => ∃ v, e = .returned v ∧ Kd.R Bk 5 w' w.heap.size (fun _ => True) v (seg bs (f.toNat * 256 + o.toNat) m.toNat) ∧ Below w.heap.size w w' := fun q c hq =>
    clone_bytes g q m.toNat c _ w (seg_length _ _ _ (by omega)) (by omega) (by omega) (fun hp => by rw [hq hp]; exact H.out.cellAt _ _)
  have HC := Lib.hid hC
  clear h hC hlen hlim
  go_enter Tryd.func12, Tryd.ntmps12
  go_wp2_with fail
  ((with_reducible refine (part_ok _ _ _ _ _ H.out _ _ _ hf0 hf1 ho0 ho1 hm0 hm1).mono ?_); rintro e w' ⟨⟨q, c, rfl, hq, hc⟩, rfl⟩)
  have HQ := Lib.hid hq
  clear hq hc
  go_wp2_with fail
  refine (HC.out q c HQ.out).mono ?_
  rintro e w1 ⟨v, rfl, hR, hb⟩
  have HR := Lib.hid hR
  have HB := Lib.hid hb
  clear hR hb
  go_wp2
  go_ret2
  exact ⟨v, rfl, HR.out, HB.out⟩
theorem Oth.row (w : World) (g : Nat) (cs : Array Value) : Oth w (w.setRow g cs) g := ⟨rfl, rfl, rfl, by simp, fun k _ hk => setRow_other w g k cs hk⟩
theorem Mem.put {w : World} {p g n : Nat} {bs : List Int} (h : Mem w p g n bs) (q : Nat) (b : List Int) (hq : q + b.length ≤ n * 256) : Mem (w.setRow g ((bs.map (Value.int .u8)).toArray.toList.take q ++ (b.map (Value.int .u8) ++ (bs.map (Value.int .u8)).toArray.toList.drop (q + (b.map (Value.int .u8)).length))).toArray) p g n (spl bs q b) := by
  refine ⟨?_, ?_, ?_, h.ne, h.lim⟩
  · rw [setRow_other _ _ _ _ h.ne]; exact h.cell
  · rw [setRow_heap _ _ _ _ _ _ h.row]
    unfold spl
    simp [List.map_append, List.map_take, List.map_drop]
  · rw [spl_length _ _ _ (by rw [h.len]; exact hq), h.len]
set_option maxHeartbeats 1000000 in
set_option maxRecDepth 100000 in
theorem write_ok (w : World) (p g n : Nat) (bs : List Int) (h : Mem w p g n bs) (f o : Int) (A : Option Addr) (b : List Int) (c : Nat) (hb : Kd.C Bk w A b.length b) (hf0 : 0 ≤ f) (hf1 : f < n) (ho0 : 0 ≤ o) (ho1 : o ≤ 256) (hm1 : (b.length : Int) ≤ 256 - o) :
    Calls Tryd.prog 13 #[.pointer (some ⟨p, 0, none⟩), .int .i64 f, .int .i64 o, .slice A b.length c] w fun e w' => e = .returned .nilIface ∧ Mem w' p g n (spl bs (f.toNat * 256 + o.toNat) b) ∧ Oth w w' g := by
  have hlen := h.len
  have hlim := h.lim
  have H := Lib.hid h
  have HB := Lib.hid hb
  have hfit : f.toNat * 256 + o.toNat + b.length ≤ n * 256 := by omega
  have hm0 : 0 ≤ (b.length : Int) := by omega
  clear h hb
  go_enter Tryd.func13, Tryd.ntmps13
  go_wp2_with fail
  ((with_reducible refine (part_ok _ _ _ _ _ H.out _ _ _ hf0 hf1 ho0 ho1 hm0 hm1).mono ?_); rintro e w' ⟨⟨q, cc, rfl, hq, hc⟩, rfl⟩)
  have HQ := Lib.hid hq
  clear hq hc
  rcases Nat.eq_zero_or_pos b.length with hz | hz
  · have hbn : b = [] := List.length_eq_zero_iff.1 hz
    subst hbn
    have hcp : (Builtin.copy_ #[29, 29] 3 #[.slice (some ⟨g, q, none⟩) 0 cc, .slice A 0 c]).run Tryd.prog w = .ok (goInt 0) w := run_copy_none w _ _ _ 5 _ _ _ _ _ _ Tryd.underlying29 u8size (by rfl)
    go_wp2
    go_ret
    refine ⟨rfl, ?_, Oth.refl _ _⟩
    have : spl bs (f.toNat * 256 + o.toNat) [] = bs := by unfold spl; simp
    rw [this]; exact H.out
  · obtain ⟨ad, rfl, hcell⟩ := cells_of_C HB.out hz
    have HC := Lib.hid hcell
    have hqe : q = f.toNat * 256 + o.toNat := HQ.out (by omega)
    subst hqe
    clear hcell
    have hcp := run_copy_row (P := Tryd.prog) w 29 29 3 5 g (f.toNat * 256 + o.toNat) b.length cc ad b.length c (bs.map (Value.int .u8)).toArray 129 (b.map (Value.int .u8)) Tryd.underlying29 u8size H.out.row (by simp) HC.out (by simp; omega) (fun u hu => by
      obtain ⟨x, _, rfl⟩ := List.mem_map.1 hu
      rfl)
    rw [List.append_assoc] at hcp
    obtain ⟨W, hW⟩ : ∃ W, W = w.setRow g ((bs.map (Value.int .u8)).toArray.toList.take (f.toNat * 256 + o.toNat) ++ (b.map (Value.int .u8) ++ (bs.map (Value.int .u8)).toArray.toList.drop (f.toNat * 256 + o.toNat + (b.map (Value.int .u8)).length))).toArray := ⟨_, rfl⟩
    rw [← hW] at hcp
    have HW := Lib.hid hW
    clear hW
    go_wp2
    go_ret
    obtain hW := HW.out
    subst hW
    exact ⟨rfl, H.out.put _ _ hfit, Oth.row _ _ _⟩

theorem zero_cells256 : Tryd.zeroCells129.toList = (List.replicate 256 (0 : Int)).map (Value.int .u8) := by kernel_rfl
set_option maxHeartbeats 1000000 in
set_option maxRecDepth 100000 in
theorem zero_ok (w : World) (p g n : Nat) (bs : List Int) (h : Mem w p g n bs) (f : Int) (hf0 : 0 ≤ f) (hf1 : f < n) :
    Calls Tryd.prog 17 #[.pointer (some ⟨p, 0, none⟩), .int .i64 f] w fun e w' => e = .returned .nilIface ∧ Mem w' p g n (spl bs (f.toNat * 256) (List.replicate 256 0)) ∧ Oth w w' g := by
  have c0 := h.c0
  have hlt : f.toNat < n := by omega
  have hlen := h.len
  have hst := run_storeCells_at Tryd.prog g (f.toNat * 256) 129 ((List.replicate 256 (0 : Int)).map (Value.int .u8)) 0 _ w h.row (by simp; omega) (fun u hu => by
    obtain ⟨x, _, rfl⟩ := List.mem_map.1 hu
    rfl)
  rw [Nat.add_zero, List.append_assoc, ← zero_cells256] at hst
  have hput := h.put (f.toNat * 256) (List.replicate 256 0) (by simp; omega)
  obtain ⟨W, hW⟩ : ∃ W, W = w.setRow g ((bs.map (Value.int .u8)).toArray.toList.take (f.toNat * 256) ++ ((List.replicate 256 (0 : Int)).map (Value.int .u8) ++ (bs.map (Value.int .u8)).toArray.toList.drop (f.toNat * 256 + ((List.replicate 256 (0 : Int)).map (Value.int .u8)).length))).toArray := ⟨_, rfl⟩
  have hoth : Oth w W g := by rw [hW]; exact Oth.row _ _ _
  rw [← hW] at hput
  rw [← zero_cells256] at hW
  rw [← hW] at hst
  have HP := Lib.hid hput
  have HO := Lib.hid hoth
  have H := Lib.hid h
  clear hput hW hoth h hlen
  go_enter Tryd.func17, Tryd.ntmps17
  go_wp2_with fail
  ((with_reducible refine (has_yes _ _ _ _ _ H.out _ hf0 hf1).mono ?_); rintro e w' ⟨rfl, rfl⟩)
  go_wp2
  go_ret
  exact ⟨rfl, HP.out, HO.out⟩
set_option maxHeartbeats 1000000 in
theorem many_ok (w : World) (p g n : Nat) (bs : List Int) (h : Mem w p g n bs) :
    Calls Tryd.prog 18 #[.pointer (some ⟨p, 0, none⟩)] w fun e w' => e = .returned (.int .i64 n) ∧ w = w' := by
  have c0 := h.c0
  go_enter Tryd.func18, Tryd.ntmps18
  go_wp2
  go_ret
  exact ⟨rfl, rfl⟩
theorem arr_row : (Tryd.prog.info? 129).map (fun i => (i.zero, i.size, i.bytes)) = some (some (.agg Tryd.zeroCells129), 256, 256) := by kernel_rfl
theorem made_same (v : Value) (m n : Nat) (hm : 0 < m) : madeCells (List.replicate m v).toArray n = (List.replicate n v).toArray := by
  unfold madeCells
  apply Array.ext
  · simp
  · intro i h1 h2
    simp only [List.size_toArray, List.length_replicate, Array.getElem_map, List.getElem_toArray, List.getElem_replicate, Array.getElem_range]
    rw [getElem!_pos _ _ (by simpa using Nat.mod_lt i hm)]
    simp
theorem made_zero (n : Nat) : madeCells Tryd.zeroCells129 n = ((List.replicate n (0 : Int)).map (Value.int .u8)).toArray := by
  have hz : Tryd.zeroCells129 = (List.replicate 256 (Value.int .u8 0)).toArray := by rw [← List.map_replicate, ← zero_cells256]
  rw [hz, made_same _ _ _ (by decide), List.map_replicate]
set_option maxHeartbeats 1000000 in
set_option maxRecDepth 100000 in
theorem new_ok (w : World) (k : Int) (h0 : 1 ≤ k) (h1 : k ≤ 1024) :
    Calls Tryd.prog 11 #[.int .i64 k] w fun e w' => e = .returned (.tuple #[.pointer (some ⟨w.heap.size + 1, 0, none⟩), .nilIface]) ∧ Mem w' (w.heap.size + 1) w.heap.size k.toNat (List.replicate (k.toNat * 256) 0) ∧ Below w.heap.size w w' := by
  obtain ⟨i0, hi, hz0, hz1, hz2⟩ := info_parts arr_row
  have hmk := Go.run_make (P := Tryd.prog) w 124 129 i0 (.agg Tryd.zeroCells129) Tryd.underlying124 hi hz0 .i64 .i64 k k (by omega) (Int.le_refl _) (by rw [hz2]; omega) (by omega)
  rw [hz1, show (Value.agg Tryd.zeroCells129).cells = Tryd.zeroCells129 from rfl, made_zero] at hmk
  obtain ⟨M, hM⟩ : ∃ M, M = ((List.replicate (k.toNat * 256) (0 : Int)).map (Value.int .u8)).toArray := ⟨_, rfl⟩
  rw [← hM] at hmk
  have HM := Lib.hid hM
  clear hM hi hz0 hz1 hz2
  go_enter Tryd.func11, Tryd.ntmps11
  go_wp2
  go_ret2
  refine ⟨by first | rfl | simp, ⟨?_, ?_, by simp, by omega, by omega⟩, ((Below.refl _ w).alloc (Nat.le_refl _) _).alloc (by simp) _⟩
  · have := heap_alloc_new (w.alloc (.cells M 129)) (.cells #[.slice (some ⟨w.heap.size, 0, none⟩) k.toNat k.toNat] 126)
    rw [World.size_alloc] at this
    exact this
  · rw [heap_alloc_old _ _ (by simp), heap_alloc_new, HM.out]
end Go.Proofs.YtikmanafbkiikaaDoor
