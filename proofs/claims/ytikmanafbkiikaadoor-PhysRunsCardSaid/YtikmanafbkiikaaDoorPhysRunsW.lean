/- The walk of PhysRuns. -/
import Derived.Test.YtikmanafbkiikaaDoorPhysRefW
import Derived.Test.YtikmanafbkiikaaDoorPhysKeepsW
namespace Go.Proofs.YtikmanafbkiikaaDoor
set_option linter.unusedSimpArgs false
set_option linter.unusedVariables false
open Go Go.RowKit Go.Proofs.YtikmanafbkiikaaDoorW.PrintWords Go.Proofs.YtikmanafbkiikaaDoorW.PrintMore Go.Proofs.YtikmanafbkiikaaDoor.RowK Kinds XPhys

theorem c_rel {n : Nat} {bs : List Int} {L : List Nt} (h : Rel n bs L) (t f : Int) : Rel n (cB n bs t f) (cL n L t f) := by
  unfold cB cL
  by_cases hc : cErr n t f = none
  · rw [if_pos hc, if_pos hc]
    have hf : 0 ≤ f ∧ f < (n : Int) := by
      unfold cErr at hc
      split at hc
      · rename_i h1; exact h1.2
      · cases hc
    have hr : rErr n f 0 256 = none := by unfold rErr; rw [if_pos hf, if_pos (by decide)]
    have e : seg bs (f.toNat * 256) 256 = rL n L f 0 256 := by
      rw [← r_rel h]
      unfold rB
      rw [if_pos hr, show (0 : Int).toNat = 0 from rfl, Nat.add_zero, show (256 : Int).toNat = 256 by decide]
    rw [e]
    exact w_rel h t 0 _
  · rw [if_neg hc, if_neg hc]
    exact h
theorem c_lok {n : Nat} {L : List Nt} (h : Lok L) (t f : Int) : Lok (cL n L t f) := by
  unfold cL; split
  · exact w_lok h _ _ _
  · exact h
theorem c_len (n : Nat) (L : List Nt) (t f : Int) : (cL n L t f).length ≤ L.length + 1 := by
  unfold cL; split
  · exact w_len _ _ _ _ _
  · omega
theorem Mem.oth_blk {w w' : World} {g k : Nat} {o : Obj} (h : Oth w w' g) (hb : w.heap[k]? = some o) (hk : k ≠ g) : w'.heap[k]? = some o := (h.block k (blk_lt hb) hk).trans hb
theorem cells_five {w : World} {b : Nat} {x0 x1 x2 x3 x4 : Value} {t : TypeId} (h : w.heap[b]? = some (.cells #[x0, x1, x2, x3, x4] t (0, 0))) : w.cell? ⟨b, 0, none⟩ = some x0 ∧ w.cell? ⟨b, 1, none⟩ = some x1 ∧ w.cell? ⟨b, 2, none⟩ = some x2 ∧ w.cell? ⟨b, 3, none⟩ = some x3 ∧ w.cell? ⟨b, 4, none⟩ = some x4 :=
  ⟨(cell_of_row _ _ _ _ _ _ h).trans rfl, (cell_of_row _ _ _ _ _ _ h).trans rfl, (cell_of_row _ _ _ _ _ _ h).trans rfl, (cell_of_row _ _ _ _ _ _ h).trans rfl, (cell_of_row _ _ _ _ _ _ h).trans rfl⟩
theorem Mem.set {w : World} {p g n : Nat} {bs : List Int} (h : Mem w p g n bs) (b j : Nat) (v : Value) (hp : p ≠ b) (hg : g ≠ b) : Mem (w.setCell ⟨b, j, none⟩ v) p g n bs :=
  ⟨(Below.heap_setCell w ⟨b, j, none⟩ v p hp).trans h.cell, (Below.heap_setCell w ⟨b, j, none⟩ v g hg).trans h.row, h.len, h.ne, h.lim⟩
theorem set_two {w : World} {b : Nat} {x y u v : Value} {t : TypeId} (h : w.heap[b]? = some (.cells #[x, y] t (0, 0))) : ((w.setCell ⟨b, 0, none⟩ u).setCell ⟨b, 1, none⟩ v).heap[b]? = some (.cells #[u, v] t (0, 0)) := by
  have h1 := heap_setCell_same w b 0 _ t u h
  have h2 := heap_setCell_same _ b 1 _ t v h1
  exact h2
theorem set_far {w : World} {b k j : Nat} {v : Value} (hk : k ≠ b) : (w.setCell ⟨b, j, none⟩ v).heap[k]? = w.heap[k]? := Below.heap_setCell w ⟨b, j, none⟩ v k hk
/-- x = y: what is behind it. -/
theorem fin4 {w W : World} {p g n gx gc : Nat} {bs : List Int} {oc : Obj} {u v x y : Value} {t : TypeId} {A : Option Addr} {L : List Nt} {S : Nat → Prop} (hM : Mem W p g n bs) (hB : Below w.heap.size w W) (hc : W.heap[gc]? = some oc)
    (hx : W.heap[gx]? = some (.cells #[x, y] t (0, 0))) (hC : CS Kn S W A L) (hS : ∀ k, S k → k ≠ gx ∧ k ≠ g) (n1 : p ≠ gx) (n2 : g ≠ gx) (n3 : gc ≠ gx) (hw : w.heap.size ≤ gx) :
    Mem ((W.setCell ⟨gx, 0, none⟩ u).setCell ⟨gx, 1, none⟩ v) p g n bs ∧ Below w.heap.size w ((W.setCell ⟨gx, 0, none⟩ u).setCell ⟨gx, 1, none⟩ v) ∧ ((W.setCell ⟨gx, 0, none⟩ u).setCell ⟨gx, 1, none⟩ v).heap[gc]? = some oc
      ∧ ((W.setCell ⟨gx, 0, none⟩ u).setCell ⟨gx, 1, none⟩ v).heap[gx]? = some (.cells #[u, v] t (0, 0)) ∧ CS Kn (fun j => j ≠ gx ∧ j ≠ g) ((W.setCell ⟨gx, 0, none⟩ u).setCell ⟨gx, 1, none⟩ v) A L :=
  ⟨(hM.set gx 0 u n1 n2).set gx 1 v n1 n2, (hB.setCell (p := ⟨gx, 0, none⟩) hw u).setCell (p := ⟨gx, 1, none⟩) hw v, by rw [set_far n3, set_far n3]; exact hc, set_two hx,
    ((hC.step (Agr.set _ _ _ (fun h => (hS _ h).1 rfl))).step (Agr.set _ _ _ (fun h => (hS _ h).1 rfl))).mono (fun k _ h => hS k h)⟩
theorem fin3 {w W : World} {p g n gx gy gc : Nat} {bs : List Int} {oc : Obj} {u v x y x' y' : Value} {t : TypeId} {A : Option Addr} {L : List Nt} {S : Nat → Prop} (hM : Mem W p g n bs) (hB : Below w.heap.size w W) (hc : W.heap[gc]? = some oc) (hy : W.heap[gy]? = some (.cells #[x', y'] t (0, 0)))
    (hx : W.heap[gx]? = some (.cells #[x, y] t (0, 0))) (hC : CS Kn S W A L) (hS : ∀ k, S k → k ≠ gx ∧ k ≠ g ∧ k ≠ gy) (n1 : p ≠ gx) (n2 : g ≠ gx) (n3 : gc ≠ gx) (hw : w.heap.size ≤ gx) (m1 : p ≠ gy) (m2 : g ≠ gy) (m3 : gc ≠ gy) (m4 : gx ≠ gy) (hw' : w.heap.size ≤ gy) :
    Mem ((((W.setCell ⟨gy, 0, none⟩ u).setCell ⟨gy, 1, none⟩ v).setCell ⟨gx, 0, none⟩ u).setCell ⟨gx, 1, none⟩ v) p g n bs ∧ Below w.heap.size w ((((W.setCell ⟨gy, 0, none⟩ u).setCell ⟨gy, 1, none⟩ v).setCell ⟨gx, 0, none⟩ u).setCell ⟨gx, 1, none⟩ v) ∧ ((((W.setCell ⟨gy, 0, none⟩ u).setCell ⟨gy, 1, none⟩ v).setCell ⟨gx, 0, none⟩ u).setCell ⟨gx, 1, none⟩ v).heap[gc]? = some oc
      ∧ ((((W.setCell ⟨gy, 0, none⟩ u).setCell ⟨gy, 1, none⟩ v).setCell ⟨gx, 0, none⟩ u).setCell ⟨gx, 1, none⟩ v).heap[gx]? = some (.cells #[u, v] t (0, 0)) ∧ CS Kn (fun j => j ≠ gx ∧ j ≠ g) ((((W.setCell ⟨gy, 0, none⟩ u).setCell ⟨gy, 1, none⟩ v).setCell ⟨gx, 0, none⟩ u).setCell ⟨gx, 1, none⟩ v) A L :=
  fin4 ((hM.set gy 0 u m1 m2).set gy 1 v m1 m2) ((hB.setCell (p := ⟨gy, 0, none⟩) hw' u).setCell (p := ⟨gy, 1, none⟩) hw' v) (by rw [set_far m3, set_far m3]; exact hc) (x := x) (y := y) (by rw [set_far m4, set_far m4]; exact hx)
    ((hC.step (Agr.set _ _ _ (fun h => (hS _ h).2.2 rfl))).step (Agr.set _ _ _ (fun h => (hS _ h).2.2 rfl))) (fun k h => ⟨(hS k h).1, (hS k h).2.1⟩) n1 n2 n3 hw
set_option maxHeartbeats 16000000 in
set_option maxRecDepth 100000 in
theorem physRuns (many : Int) (A0 : Option Addr) (c0 : Nat) (l : List S31) (w : World) (hE : EW w) (hC : Kd.C k31 w A0 l.length l)
    (wfl : ∀ x ∈ l, (Lit.int .i64 x.f3).wf = true) :
    Calls Tryd.prog 5 #[.int .i64 many, .slice A0 l.length c0] w fun e w' => e = .returned (.bool true) ∧ Below w.heap.size w w' := by
  have HE := Lib.hid hE
  have HC := Lib.hid hC
  have HW := Lib.hid wfl
  have hmx := Kd.C_max hC
  clear hE hC wfl
  go_enter Tryd.func5, Tryd.ntmps5
  go_wp2_with fail
  refine (read_nil w 0 0 0).mono ?_
  rintro e w1 ⟨rfl, rfl⟩
  rw [errW_some]
  go_wp2_with fail
  refine (num_calls (some 22) w HE.out).mono ?_
  rintro e w1 ⟨rfl, hb1⟩
  rw [show numOf (some 22) = 22 from rfl]
  have B1 := Lib.hid hb1
  clear hb1
  go_wp2_with fail
  refine (write_nil w1 0 0 none 0 0 (by unfold maxLen; omega)).mono ?_
  rintro e w2 ⟨rfl, rfl⟩
  rw [errW_some]
  go_wp2_with fail
  refine (num_calls (some 22) w1 (HE.out.below' B1.out)).mono ?_
  rintro e w2 ⟨rfl, hb2⟩
  rw [show numOf (some 22) = 22 from rfl]
  have B2 := Lib.hid (B1.out.trans (hb2.mono B1.out.size))
  clear hb2 B1
  go_wp2_with fail
  refine (zero_nil w2 0).mono ?_
  rintro e w3 ⟨rfl, rfl⟩
  rw [errW_some]
  go_wp2_with fail
  refine (num_calls (some 22) w2 (HE.out.below' B2.out)).mono ?_
  rintro e w3 ⟨rfl, hb3⟩
  rw [show numOf (some 22) = 22 from rfl]
  have B3 := Lib.hid (B2.out.trans (hb3.mono B2.out.size))
  clear hb3 B2
  go_wp2_with fail
  refine (copy_nil w3 0 0).mono ?_
  rintro e w4 ⟨rfl, rfl⟩
  rw [errW_some]
  go_wp2_with fail
  refine (num_calls (some 22) w3 (HE.out.below' B3.out)).mono ?_
  rintro e w4 ⟨rfl, hb4⟩
  rw [show numOf (some 22) = 22 from rfl]
  have B4 := Lib.hid (B3.out.trans (hb4.mono B3.out.size))
  clear hb4 B3
  go_wp2_with fail
  refine (many_nil w4).mono ?_
  rintro e w5 ⟨rfl, rfl⟩
  by_cases hmany : 1 ≤ many ∧ many ≤ 1024
  · obtain ⟨n, rfl⟩ : ∃ n : Nat, many = n := ⟨many.toNat, by omega⟩
    have hn1 : 1 ≤ n := by omega
    have hn2 : n ≤ 1024 := by omega
    clear hmany
    have d1 : decide ((n : Int) < 1) = false := decide_eq_false (by omega)
    have d2 : decide (1024 < (n : Int)) = false := decide_eq_false (by omega)
    go_wp2_with fail
    refine (new_mem w4 (n : Int) (by omega) (by omega)).mono ?_
    rintro e w5 ⟨p, g, rfl, hm5, hg5, hb5⟩
    rw [Int.toNat_natCast] at hm5
    have M5 := Lib.hid hm5
    have B5 := Lib.hid (B4.out.trans (hb5.mono B4.out.size))
    have HG := Lib.hid (Nat.le_trans B4.out.size hg5)
    have HGL := Lib.hid (blk_lt hm5.row)
    have HPL := Lib.hid (blk_lt hm5.cell)
    clear hm5 hg5 hb5 B4
    go_wp2_with fail
    refine (many_ok w5 p g n _ M5.out).mono ?_
    rintro e w6 ⟨rfl, rfl⟩
    go_wp2_with fail
    have B6 := Lib.hid (B5.out.alloc B5.out.size (.cells #[.int .i64 n, .slice none 0 0] 44 (0, 0)))
    have M6 := Lib.hid (M5.out.below (w' := w5.alloc (.cells #[.int .i64 n, .slice none 0 0] 44 (0, 0))) ((Below.refl _ _).alloc (Nat.le_refl _) _))
    have X6 := Lib.hid (heap_alloc_new w5 (.cells #[.int .i64 n, .slice none 0 0] 44 (0, 0)))
    obtain ⟨gx, hgx⟩ : ∃ gx, gx = w5.heap.size := ⟨_, rfl⟩
    have hggx : g < gx := by rw [hgx]; exact HGL.out
    have hpgx : p < gx := by rw [hgx]; exact HPL.out
    have hgxw : w.heap.size ≤ gx := by rw [hgx]; exact B5.out.size
    rw [← hgx]
    rw [← hgx] at X6
    have HGX := Lib.hid hggx
    have HPX := Lib.hid hpgx
    have HXW := Lib.hid hgxw
    clear hgx hggx hpgx hgxw M5 B5 HGL HPL
    generalize w5.alloc (.cells #[.int .i64 n, .slice none 0 0] 44 (0, 0)) = w6 at *
    go_loopg [11] 25 (fun gg s11 wr => ∃ (k : Nat) (bs : List Int) (L : List Nt) (A : Option Addr) (c : Nat), s11 = .int .i64 (k : Nat) ∧ k + gg = 25 ∧ k ≤ l.length ∧ Aside (Mem wr p g n bs) ∧ Aside (Below w.heap.size w wr) ∧ Aside (Rel n bs L ∧ Lok L ∧ L.length ≤ k ∧ (A = none → c = 0) ∧ L.length ≤ c)
      ∧ Aside (wr.heap[gx]? = some (.cells #[.int .i64 (n : Int), .slice A L.length c] 44 (0, 0))) ∧ Aside (CS Kn (fun j => j ≠ gx ∧ j ≠ g) wr A L))
    case atStart => exact ⟨0, _, [], none, 0, rfl, rfl, Nat.zero_le _, M6.out, B6.out, ⟨Rel.zero n, fun _ h => by simp at h, Nat.le_refl _, fun _ => rfl, Nat.le_refl _⟩, X6.out, CS.nil _ _ _⟩
    case round =>
      obtain ⟨k, bs, L, A, c, rfl, hkg, hkl, Mr, Br, Rr, Xr, Cr⟩ := hrel
      clear M6 B6 X6
      by_cases hk : k < l.length
      · by_cases hk25 : k < 25
        · have hki : (k : Int) < (l.length : Int) := by omega
          have hk25i : (k : Int) < 25 := by omega
          obtain ⟨bk, off, rfl⟩ := C_addr HC.out (by omega) (by decide)
          obtain ⟨ad, cs, had, hcl, hK, hcell⟩ := Kd.C_get HC.out z31 (k : Int) (by omega) (by omega)
          have hmem : l.getD (k : Int).toNat z31 ∈ l := by
            rw [List.getD_eq_getElem?_getD, List.getElem?_eq_getElem (by omega)]
            exact List.getElem_mem _
          obtain ⟨x, hx⟩ : ∃ x, x = l.getD (k : Int).toNat z31 := ⟨_, rfl⟩
          rw [← hx] at hK hmem
          obtain ⟨A4, c4, rfl, hc4, hX4⟩ := k31_open hK
          obtain rfl := Option.some.inj had
          have hce : ∀ j u, [Value.int .i64 x.f0, .int .i64 x.f1, .int .i64 x.f2, .int .i64 x.f3, .slice A4 x.f4.length c4][j]? = some u → wr.cell? ⟨bk, off + k * 5 + j, none⟩ = some u := fun j u hj => by
            have h1 := hcell j u hj
            rw [Addr.add_lit] at h1
            have h2 : w.cell? ⟨bk, off + k * 5 + j, none⟩ = some u := by rwa [Nat.add_assoc]
            exact (Br.out.cell (p := ⟨bk, off + k * 5 + j, none⟩) (Go.block_lt_of_cell h2)).trans h2
          have q0 := hce 0 _ rfl
          have q1 := hce 1 _ rfl
          have q2 := hce 2 _ rfl
          have q3 := hce 3 _ rfl
          have q4 := hce 4 _ rfl
          rw [Nat.add_zero] at q0
          obtain ⟨q, hq, hq8⟩ := mod_u x.f0 8 (by decide) (by decide)
          have hx4 := Kd.C_max hX4
          have HQ := Lib.hid (show wrap64 ((IntKind.u64.wrap x.f0).tmod 8) = (q : Int) from hq)
          have X4 := Lib.hid hX4
          have HM := Lib.hid hmem
          have C4 := Lib.hid hc4
          obtain ⟨z0, z1, z2, z3⟩ := cells_two Xr.out
          have hgxr := blk_lt Xr.out
          clear hcell hcl hK hx hce had hq hX4 hmem hc4
          by_cases h300 : 300 < (x.f4.length : Int)
          · have d3 : decide (300 < (x.f4.length : Int)) = true := decide_eq_true h300
            go_wp2_with fail
            refine (physSure _ (HE.out.below' (Br.out.trans (((Below.refl _ wr).alloc (Nat.le_refl _) _).mono Br.out.size)))).mono ?_
            rintro e W2 ⟨rfl, hb2⟩
            have B2 := Lib.hid ((Br.out.alloc Br.out.size (.cells #[.int .i64 x.f0, .int .i64 x.f1, .int .i64 x.f2, .int .i64 x.f3, .slice A4 x.f4.length c4] 31 (0, 0))).trans (hb2.mono (by have := Br.out.size; simp; omega)))
            clear hb2
            go_wp2
            go_ret
            exact ⟨rfl, B2.out⟩
          have d3 : decide (300 < (x.f4.length : Int)) = false := decide_eq_false h300
          have hbB : Below wr.heap.size wr ((wr.alloc (.cells #[.int .i64 x.f0, .int .i64 x.f1, .int .i64 x.f2, .int .i64 x.f3, .slice A4 x.f4.length c4] 31 (0, 0))).alloc (.cells #[.int .i64 (n : Int), .slice A L.length c] 44 (0, 0))) := (((Below.refl _ wr).alloc (Nat.le_refl _) _).alloc (by simp) _)
          have hXB : ((wr.alloc (.cells #[.int .i64 x.f0, .int .i64 x.f1, .int .i64 x.f2, .int .i64 x.f3, .slice A4 x.f4.length c4] 31 (0, 0))).alloc (.cells #[.int .i64 (n : Int), .slice A L.length c] 44 (0, 0))).heap[wr.heap.size]? = some (.cells #[.int .i64 x.f0, .int .i64 x.f1, .int .i64 x.f2, .int .i64 x.f3, .slice A4 x.f4.length c4] 31 (0, 0)) := Go.heap_alloc2_old _ _ _
          have hYB : ((wr.alloc (.cells #[.int .i64 x.f0, .int .i64 x.f1, .int .i64 x.f2, .int .i64 x.f3, .slice A4 x.f4.length c4] 31 (0, 0))).alloc (.cells #[.int .i64 (n : Int), .slice A L.length c] 44 (0, 0))).heap[wr.heap.size + 1]? = some (.cells #[.int .i64 (n : Int), .slice A L.length c] 44 (0, 0)) := Go.heap_alloc2_new _ _ _
          go_upto_region 20 with (fail)
          rw [HQ.out]
          obtain ⟨gc, hgc⟩ : ∃ gc, gc = wr.heap.size := ⟨_, rfl⟩
          obtain ⟨gy, hgy⟩ : ∃ gy, gy = gc + 1 := ⟨_, rfl⟩
          rw [← hgc, ← hgy]
          rw [← hgc] at hXB
          rw [← hgc, ← hgy] at hYB
          obtain ⟨W2, hW2⟩ : ∃ W2, W2 = ((wr.alloc (.cells #[.int .i64 x.f0, .int .i64 x.f1, .int .i64 x.f2, .int .i64 x.f3, .slice A4 x.f4.length c4] 31 (0, 0))).alloc (.cells #[.int .i64 (n : Int), .slice A L.length c] 44 (0, 0))) := ⟨_, rfl⟩
          rw [← hW2] at hbB hXB hYB
          rw [← hW2]
          have ngy : gx ≠ gy := by omega
          have ngc : gx ≠ gc := by omega
          have nyc : gy ≠ gc := by omega
          have npx : p ≠ gx := by have := HPX.out; omega
          have ngx : g ≠ gx := by have := HGX.out; omega
          have npy : p ≠ gy := by have := HPX.out; omega
          have ngy' : g ≠ gy := by have := HGX.out; omega
          have ngc' : g ≠ gc := by have := HGX.out; omega
          have hwy : w.heap.size ≤ gy := by have := HXW.out; omega
          have NE := Lib.hid (show gx ≠ gy ∧ gx ≠ gc ∧ gy ≠ gc ∧ p ≠ gx ∧ g ≠ gx ∧ p ≠ gy ∧ g ≠ gy ∧ g ≠ gc ∧ w.heap.size ≤ gy from ⟨ngy, ngc, nyc, npx, ngx, npy, ngy', ngc', hwy⟩)
          have M2 := Lib.hid (Mr.out.below hbB)
          have B2 := Lib.hid (Br.out.trans (hbB.mono Br.out.size))
          have xb2 := Lib.hid hXB
          have yb2 := Lib.hid hYB
          have xx2 := Lib.hid ((hbB.block _ hgxr).trans Xr.out)
          have CC2 := Lib.hid ((Cr.out.mono (T := fun j => j ≠ gx ∧ j ≠ g ∧ j ≠ gy) (fun k hk hs => ⟨hs.1, hs.2, by omega⟩)).step (Agr.below hbB))
          obtain ⟨hrel0, hlok0, hLk, hA0, hLc⟩ := Rr.out
          have HR0 := Lib.hid hrel0
          have HL0 := Lib.hid hlok0
          have HA0 := Lib.hid hA0
          have HLC := Lib.hid hLc
          have HLK := Lib.hid hLk
          have hLbig : L.length ≤ 1000000000 := by omega
          have HLB := Lib.hid hLbig
          clear hgc hgy hW2 hbB hXB hYB ngy ngc nyc npx ngx npy ngy' ngc' hwy hrel0 hlok0 hLk hA0 hLc hLbig q0 q1 q2 q3 q4 z0 z1 z2 z3 hgxr
          by_cases hq4 : q < 4
          · have t4 : decide ((q : Int) < 4) = true := decide_eq_true (by omega)
            have HQ4 := Lib.hid t4
            have tq := HQ4.out
            obtain ⟨s0, s1, s2, s3, s4⟩ := cells_five xb2.out
            go_wp2_with fail
            refine (write_all W2 p g n bs M2.out x.f1 x.f2 A4 x.f4 c4 (Kd.C_below X4.out B2.out) (by unfold maxLen; omega)).mono ?_
            rintro e W3 ⟨rfl, hm3, ho3⟩
            have M3 := Lib.hid hm3
            have B3 := Lib.hid (B2.out.trans (ho3.below HG.out B2.out.size))
            have xb3 := Lib.hid (Mem.oth_blk ho3 xb2.out (fun e => NE.out.2.2.2.2.2.2.2.1 e.symm))
            have yb3 := Lib.hid (Mem.oth_blk ho3 yb2.out (fun e => NE.out.2.2.2.2.2.2.1 e.symm))
            have xx3 := Lib.hid (Mem.oth_blk ho3 xx2.out (fun e => NE.out.2.2.2.2.1 e.symm))
            have CC3 := Lib.hid (CC2.out.step (Agr.oth ho3 (fun h => h.2.1 rfl)))
            clear hm3 ho3 M2 B2 xb2 yb2 xx2 CC2
            clear s0 s1 s2 s3 s4
            go_wp2_with fail
            refine (num_calls (rErr n x.f1 x.f2 x.f4.length) _ (HE.out.below' B3.out)).mono ?_
            rintro e W4 ⟨rfl, hb4⟩
            rw [show numOf (rErr n x.f1 x.f2 x.f4.length) = (rErr n x.f1 x.f2 x.f4.length).getD 0 from rfl]
            have M4 := Lib.hid (M3.out.below hb4)
            have B4 := Lib.hid (B3.out.trans (hb4.mono B3.out.size))
            have xb4 := Lib.hid ((hb4.block _ (blk_lt xb3.out)).trans xb3.out)
            have yb4 := Lib.hid ((hb4.block _ (blk_lt yb3.out)).trans yb3.out)
            have xx4 := Lib.hid ((hb4.block _ (blk_lt xx3.out)).trans xx3.out)
            have CC4 := Lib.hid (CC3.out.step (Agr.below hb4))
            clear hb4 M3 B3 xb3 yb3 xx3 CC3
            obtain ⟨p0, p1, p2, p3⟩ := cells_two xx4.out
            obtain ⟨s0, s1, s2, s3, s4⟩ := cells_five xb4.out
            go_wp2_with fail
            refine (refWrite_all n A c L x.f1 x.f2 A4 x.f4 c4 (fun j => j ≠ gx ∧ j ≠ g ∧ j ≠ gy) W4 CC4.out HLC.out HA0.out HLB.out C4.out (((CS.of_C X4.out).mono (fun k hk _ => (show k ≠ gx ∧ k ≠ g ∧ k ≠ gy from ⟨by have := HXW.out; omega, by have := HG.out; omega, by have := NE.out.2.2.2.2.2.2.2.2; omega⟩))).step (Agr.below B4.out)) (by unfold maxLen; omega)).mono ?_
            rintro e W5 ⟨A5, c5, rfl, hA5, hc5, hC5, hb5⟩
            have M5 := Lib.hid (M4.out.below hb5)
            have B5 := Lib.hid (B4.out.trans (hb5.mono B4.out.size))
            have xb5 := Lib.hid ((hb5.block _ (blk_lt xb4.out)).trans xb4.out)
            have yb5 := Lib.hid ((hb5.block _ (blk_lt yb4.out)).trans yb4.out)
            have xx5 := Lib.hid ((hb5.block _ (blk_lt xx4.out)).trans xx4.out)
            have hgW := blk_lt M4.out.row
            have hgxW := blk_lt xx4.out
            have hgyW := blk_lt yb4.out
            obtain ⟨L5, hL5⟩ : ∃ L5, L5 = wL n L x.f1 x.f2 x.f4 := ⟨_, rfl⟩
            obtain ⟨bs5, hbs5⟩ : ∃ b5, b5 = wB n bs x.f1 x.f2 x.f4 := ⟨_, rfl⟩
            obtain ⟨ev, hev⟩ : ∃ ev, ev = (rErr n x.f1 x.f2 x.f4.length).getD 0 := ⟨_, rfl⟩
            rw [← hL5] at hC5 hc5
            rw [← hbs5] at M5
            rw [← hL5, ← hev]
            have hrl : Rel n bs5 L5 := by rw [hbs5, hL5]; exact w_rel HR0.out _ _ _
            have hlk : Lok L5 := by rw [hL5]; exact w_lok HL0.out _ _ _
            have hle : L5.length ≤ k + 1 := by have h1 := w_len n L x.f1 x.f2 x.f4; have h2 := HLK.out; rw [hL5]; omega
            obtain ⟨M6, B6, xb6, xx6, CC6⟩ := fin3 (u := .int .i64 (n : Int)) (v := .slice A5 L5.length c5) M5.out B5.out xb5.out yb5.out xx5.out hC5 (fun k h => (by rcases h with h | h; (exact h); (exact ⟨by omega, by omega, by omega⟩))) NE.out.2.2.2.1 NE.out.2.2.2.2.1 (fun e => NE.out.2.1 e.symm) HXW.out NE.out.2.2.2.2.2.1 NE.out.2.2.2.2.2.2.1 (fun e => NE.out.2.2.1 e.symm) NE.out.1 NE.out.2.2.2.2.2.2.2.2
            have M6 := Lib.hid M6
            have B6 := Lib.hid B6
            have xb6 := Lib.hid xb6
            have xx6 := Lib.hid xx6
            have CC6 := Lib.hid CC6
            have HA5 := Lib.hid hA5
            have HC5 := Lib.hid hc5
            have HR5 := Lib.hid hrl
            have HK5 := Lib.hid hlk
            have HE5 := Lib.hid hle
            clear p0 p1 p2 p3 s0 s1 s2 s3 s4
            obtain ⟨p0, p1, p2, p3⟩ := cells_two xx5.out
            obtain ⟨y0, y1, y2, y3⟩ := cells_two yb5.out
            obtain ⟨t0, t1, t2, t3, t4⟩ := cells_five xb6.out
            clear hC5 hc5 hA5 hb5 hgW hgxW hgyW hL5 hbs5 hev hrl hlk hle M4 B4 xb4 yb4 xx4 CC4 M5 B5 xb5 yb5 xx5
            have ne1 : ¬ gx = gy := NE.out.1
            have ne2 : ¬ gy = gx := fun e => NE.out.1 e.symm
            go_wp2_with fail
            generalize ((((W5.setCell ⟨gy, 0, none⟩ (.int .i64 (n : Int))).setCell ⟨gy, 1, none⟩ (.slice A5 L5.length c5)).setCell ⟨gx, 0, none⟩ (.int .i64 (n : Int))).setCell ⟨gx, 1, none⟩ (.slice A5 L5.length c5)) = W6 at *
            clear t0 t1 t2 t3 t4 y0 y1 y2 y3 p0 p1 p2 p3 ne1 ne2
            refine (read_all W6 p g n bs5 M6.out x.f1 x.f2 x.f3 (HW.out x HM.out)).mono ?_
            rintro e W7 ⟨v7, rfl, hR7, hb7⟩
            rw [r_rel HR5.out] at hR7
            have M7 := Lib.hid (M6.out.below hb7)
            have B7 := Lib.hid (B6.out.trans (hb7.mono B6.out.size))
            have xb7 := Lib.hid ((hb7.block _ (blk_lt xb6.out)).trans xb6.out)
            have xx7 := Lib.hid ((hb7.block _ (blk_lt xx6.out)).trans xx6.out)
            have CC7 := Lib.hid (CC6.out.step (Agr.below hb7))
            have R7 := Lib.hid hR7
            clear hR7 hb7 M6 B6 xb6 xx6 CC6
            obtain ⟨p0, p1, p2, p3⟩ := cells_two xx7.out
            obtain ⟨s0, s1, s2, s3, s4⟩ := cells_five xb7.out
            have hL5b : L5.length ≤ 1000000000 := by have := HE5.out; omega
            go_wp2_with fail
            refine (refRead n A5 c5 L5 x.f1 x.f2 x.f3 W7 CC7.out.C HC5.out hL5b HK5.out).mono ?_
            rintro e W8 ⟨v8, rfl, hR8, hb8⟩
            have M8 := Lib.hid (M7.out.below hb8)
            have B8 := Lib.hid (B7.out.trans (hb8.mono B7.out.size))
            have xx8 := Lib.hid ((hb8.block _ (blk_lt xx7.out)).trans xx7.out)
            have CC8 := Lib.hid (CC7.out.step (Agr.below hb8))
            obtain ⟨Va, ca, rfl, _, hCa⟩ := Kd.R_reads (Kd.R_below R7.out hb8)
            obtain ⟨Vb, cb, rfl, _, hCb⟩ := Kd.R_reads hR8
            obtain ⟨V, hV⟩ : ∃ V, V = rL n L5 x.f1 x.f2 x.f3 := ⟨_, rfl⟩
            rw [← hV] at hCa hCb
            have hs1 := str_of (c := ca) hCa
            have hs2 := str_of (c := cb) hCb
            rw [← hV]
            clear hCa hCb hV hR8 hb8 M7 B7 xb7 xx7 CC7 R7 hL5b
            clear p0 p1 p2 p3 s0 s1 s2 s3 s4
            go_wp2_with fail
            refine (num_calls (rErr n x.f1 x.f2 x.f3) _ (HE.out.below' B8.out)).mono ?_
            rintro e W9 ⟨rfl, hb9⟩
            rw [show numOf (rErr n x.f1 x.f2 x.f3) = (rErr n x.f1 x.f2 x.f3).getD 0 from rfl]
            have M9 := Lib.hid (M8.out.below hb9)
            have B9 := Lib.hid (B8.out.trans (hb9.mono B8.out.size))
            have xx9 := Lib.hid ((hb9.block _ (blk_lt xx8.out)).trans xx8.out)
            have CC9 := Lib.hid (CC8.out.step (Agr.below hb9))
            clear hb9 M8 B8 xx8 CC8
            go_wp2_with fail
            go_roundg (24 - k)
            case measure => omega
            case rel => exact ⟨k + 1, bs5, L5, A5, c5, by go_num, by omega, by omega, M9.out, B9.out, ⟨HR5.out, HK5.out, HE5.out, HA5.out, HC5.out⟩, xx9.out, CC9.out⟩
          have t4 : decide ((q : Int) < 4) = false := decide_eq_false (by omega)
          by_cases hq5 : q = 4
          · subst hq5
            obtain ⟨s0, s1, s2, s3, s4⟩ := cells_five xb2.out
            go_wp2_with fail
            refine (zero_all W2 p g n bs M2.out x.f1).mono ?_
            rintro e W3 ⟨rfl, hm3, ho3⟩
            have M3 := Lib.hid hm3
            have B3 := Lib.hid (B2.out.trans (ho3.below HG.out B2.out.size))
            have xb3 := Lib.hid (Mem.oth_blk ho3 xb2.out (fun e => NE.out.2.2.2.2.2.2.2.1 e.symm))
            have yb3 := Lib.hid (Mem.oth_blk ho3 yb2.out (fun e => NE.out.2.2.2.2.2.2.1 e.symm))
            have xx3 := Lib.hid (Mem.oth_blk ho3 xx2.out (fun e => NE.out.2.2.2.2.1 e.symm))
            have CC3 := Lib.hid (CC2.out.step (Agr.oth ho3 (fun h => h.2.1 rfl)))
            clear hm3 ho3 M2 B2 xb2 yb2 xx2 CC2
            clear s0 s1 s2 s3 s4
            go_wp2_with fail
            refine (num_calls (zErr n x.f1) _ (HE.out.below' B3.out)).mono ?_
            rintro e W4 ⟨rfl, hb4⟩
            rw [show numOf (zErr n x.f1) = (zErr n x.f1).getD 0 from rfl]
            have M4 := Lib.hid (M3.out.below hb4)
            have B4 := Lib.hid (B3.out.trans (hb4.mono B3.out.size))
            have xb4 := Lib.hid ((hb4.block _ (blk_lt xb3.out)).trans xb3.out)
            have yb4 := Lib.hid ((hb4.block _ (blk_lt yb3.out)).trans yb3.out)
            have xx4 := Lib.hid ((hb4.block _ (blk_lt xx3.out)).trans xx3.out)
            have CC4 := Lib.hid (CC3.out.step (Agr.below hb4))
            clear hb4 M3 B3 xb3 yb3 xx3 CC3
            obtain ⟨p0, p1, p2, p3⟩ := cells_two xx4.out
            obtain ⟨s0, s1, s2, s3, s4⟩ := cells_five xb4.out
            go_wp2_with fail
            refine (refZero_all n A c L x.f1 (fun j => j ≠ gx ∧ j ≠ g ∧ j ≠ gy) W4 CC4.out HLC.out HA0.out HLB.out).mono ?_
            rintro e W5 ⟨A5, c5, rfl, hA5, hc5, hC5, hb5⟩
            have M5 := Lib.hid (M4.out.below hb5)
            have B5 := Lib.hid (B4.out.trans (hb5.mono B4.out.size))
            have xb5 := Lib.hid ((hb5.block _ (blk_lt xb4.out)).trans xb4.out)
            have yb5 := Lib.hid ((hb5.block _ (blk_lt yb4.out)).trans yb4.out)
            have xx5 := Lib.hid ((hb5.block _ (blk_lt xx4.out)).trans xx4.out)
            have hgW := blk_lt M4.out.row
            have hgxW := blk_lt xx4.out
            have hgyW := blk_lt yb4.out
            obtain ⟨L5, hL5⟩ : ∃ L5, L5 = wL n L x.f1 0 (List.replicate 256 0) := ⟨_, rfl⟩
            obtain ⟨bs5, hbs5⟩ : ∃ b5, b5 = wB n bs x.f1 0 (List.replicate 256 0) := ⟨_, rfl⟩
            obtain ⟨ev, hev⟩ : ∃ ev, ev = (zErr n x.f1).getD 0 := ⟨_, rfl⟩
            rw [← hL5] at hC5 hc5
            rw [← hbs5] at M5
            rw [← hL5, ← hev]
            have hrl : Rel n bs5 L5 := by rw [hbs5, hL5]; exact w_rel HR0.out _ _ _
            have hlk : Lok L5 := by rw [hL5]; exact w_lok HL0.out _ _ _
            have hle : L5.length ≤ k + 1 := by have h1 := w_len n L x.f1 0 (List.replicate 256 0); have h2 := HLK.out; rw [hL5]; omega
            obtain ⟨M6, B6, xb6, xx6, CC6⟩ := fin3 (u := .int .i64 (n : Int)) (v := .slice A5 L5.length c5) M5.out B5.out xb5.out yb5.out xx5.out hC5 (fun k h => (by rcases h with h | h; (exact h); (exact ⟨by omega, by omega, by omega⟩))) NE.out.2.2.2.1 NE.out.2.2.2.2.1 (fun e => NE.out.2.1 e.symm) HXW.out NE.out.2.2.2.2.2.1 NE.out.2.2.2.2.2.2.1 (fun e => NE.out.2.2.1 e.symm) NE.out.1 NE.out.2.2.2.2.2.2.2.2
            have M6 := Lib.hid M6
            have B6 := Lib.hid B6
            have xb6 := Lib.hid xb6
            have xx6 := Lib.hid xx6
            have CC6 := Lib.hid CC6
            have HA5 := Lib.hid hA5
            have HC5 := Lib.hid hc5
            have HR5 := Lib.hid hrl
            have HK5 := Lib.hid hlk
            have HE5 := Lib.hid hle
            clear p0 p1 p2 p3 s0 s1 s2 s3 s4
            obtain ⟨p0, p1, p2, p3⟩ := cells_two xx5.out
            obtain ⟨y0, y1, y2, y3⟩ := cells_two yb5.out
            obtain ⟨t0, t1, t2, t3, t4⟩ := cells_five xb6.out
            clear hC5 hc5 hA5 hb5 hgW hgxW hgyW hL5 hbs5 hev hrl hlk hle M4 B4 xb4 yb4 xx4 CC4 M5 B5 xb5 yb5 xx5
            have ne1 : ¬ gx = gy := NE.out.1
            have ne2 : ¬ gy = gx := fun e => NE.out.1 e.symm
            go_wp2_with fail
            generalize ((((W5.setCell ⟨gy, 0, none⟩ (.int .i64 (n : Int))).setCell ⟨gy, 1, none⟩ (.slice A5 L5.length c5)).setCell ⟨gx, 0, none⟩ (.int .i64 (n : Int))).setCell ⟨gx, 1, none⟩ (.slice A5 L5.length c5)) = W6 at *
            clear t0 t1 t2 t3 t4 y0 y1 y2 y3 p0 p1 p2 p3 ne1 ne2
            refine (read_all W6 p g n bs5 M6.out x.f1 x.f2 x.f3 (HW.out x HM.out)).mono ?_
            rintro e W7 ⟨v7, rfl, hR7, hb7⟩
            rw [r_rel HR5.out] at hR7
            have M7 := Lib.hid (M6.out.below hb7)
            have B7 := Lib.hid (B6.out.trans (hb7.mono B6.out.size))
            have xb7 := Lib.hid ((hb7.block _ (blk_lt xb6.out)).trans xb6.out)
            have xx7 := Lib.hid ((hb7.block _ (blk_lt xx6.out)).trans xx6.out)
            have CC7 := Lib.hid (CC6.out.step (Agr.below hb7))
            have R7 := Lib.hid hR7
            clear hR7 hb7 M6 B6 xb6 xx6 CC6
            obtain ⟨p0, p1, p2, p3⟩ := cells_two xx7.out
            obtain ⟨s0, s1, s2, s3, s4⟩ := cells_five xb7.out
            have hL5b : L5.length ≤ 1000000000 := by have := HE5.out; omega
            go_wp2_with fail
            refine (refRead n A5 c5 L5 x.f1 x.f2 x.f3 W7 CC7.out.C HC5.out hL5b HK5.out).mono ?_
            rintro e W8 ⟨v8, rfl, hR8, hb8⟩
            have M8 := Lib.hid (M7.out.below hb8)
            have B8 := Lib.hid (B7.out.trans (hb8.mono B7.out.size))
            have xx8 := Lib.hid ((hb8.block _ (blk_lt xx7.out)).trans xx7.out)
            have CC8 := Lib.hid (CC7.out.step (Agr.below hb8))
            obtain ⟨Va, ca, rfl, _, hCa⟩ := Kd.R_reads (Kd.R_below R7.out hb8)
            obtain ⟨Vb, cb, rfl, _, hCb⟩ := Kd.R_reads hR8
            obtain ⟨V, hV⟩ : ∃ V, V = rL n L5 x.f1 x.f2 x.f3 := ⟨_, rfl⟩
            rw [← hV] at hCa hCb
            have hs1 := str_of (c := ca) hCa
            have hs2 := str_of (c := cb) hCb
            rw [← hV]
            clear hCa hCb hV hR8 hb8 M7 B7 xb7 xx7 CC7 R7 hL5b
            clear p0 p1 p2 p3 s0 s1 s2 s3 s4
            go_wp2_with fail
            refine (num_calls (rErr n x.f1 x.f2 x.f3) _ (HE.out.below' B8.out)).mono ?_
            rintro e W9 ⟨rfl, hb9⟩
            rw [show numOf (rErr n x.f1 x.f2 x.f3) = (rErr n x.f1 x.f2 x.f3).getD 0 from rfl]
            have M9 := Lib.hid (M8.out.below hb9)
            have B9 := Lib.hid (B8.out.trans (hb9.mono B8.out.size))
            have xx9 := Lib.hid ((hb9.block _ (blk_lt xx8.out)).trans xx8.out)
            have CC9 := Lib.hid (CC8.out.step (Agr.below hb9))
            clear hb9 M8 B8 xx8 CC8
            go_wp2_with fail
            go_roundg (24 - k)
            case measure => omega
            case rel => exact ⟨k + 1, bs5, L5, A5, c5, by go_num, by omega, by omega, M9.out, B9.out, ⟨HR5.out, HK5.out, HE5.out, HA5.out, HC5.out⟩, xx9.out, CC9.out⟩
          have e4 : ((q : Int) == 4) = false := beq_false_of_ne (by omega)
          by_cases hq6 : q = 5
          · subst hq6
            obtain ⟨s0, s1, s2, s3, s4⟩ := cells_five xb2.out
            go_wp2_with fail
            refine (copy_all W2 p g n bs M2.out x.f1 x.f3).mono ?_
            rintro e W3 ⟨rfl, hm3, ho3⟩
            have M3 := Lib.hid hm3
            have B3 := Lib.hid (B2.out.trans (ho3.below HG.out B2.out.size))
            have xb3 := Lib.hid (Mem.oth_blk ho3 xb2.out (fun e => NE.out.2.2.2.2.2.2.2.1 e.symm))
            have yb3 := Lib.hid (Mem.oth_blk ho3 yb2.out (fun e => NE.out.2.2.2.2.2.2.1 e.symm))
            have xx3 := Lib.hid (Mem.oth_blk ho3 xx2.out (fun e => NE.out.2.2.2.2.1 e.symm))
            have CC3 := Lib.hid (CC2.out.step (Agr.oth ho3 (fun h => h.2.1 rfl)))
            clear hm3 ho3 M2 B2 xb2 yb2 xx2 CC2
            clear s0 s1 s2 s3 s4
            go_wp2_with fail
            refine (num_calls (cErr n x.f1 x.f3) _ (HE.out.below' B3.out)).mono ?_
            rintro e W4 ⟨rfl, hb4⟩
            rw [show numOf (cErr n x.f1 x.f3) = (cErr n x.f1 x.f3).getD 0 from rfl]
            have M4 := Lib.hid (M3.out.below hb4)
            have B4 := Lib.hid (B3.out.trans (hb4.mono B3.out.size))
            have xb4 := Lib.hid ((hb4.block _ (blk_lt xb3.out)).trans xb3.out)
            have yb4 := Lib.hid ((hb4.block _ (blk_lt yb3.out)).trans yb3.out)
            have xx4 := Lib.hid ((hb4.block _ (blk_lt xx3.out)).trans xx3.out)
            have CC4 := Lib.hid (CC3.out.step (Agr.below hb4))
            clear hb4 M3 B3 xb3 yb3 xx3 CC3
            obtain ⟨p0, p1, p2, p3⟩ := cells_two xx4.out
            obtain ⟨s0, s1, s2, s3, s4⟩ := cells_five xb4.out
            go_wp2_with fail
            refine (refCopy_all n A c L x.f1 x.f3 (fun j => j ≠ gx ∧ j ≠ g ∧ j ≠ gy) W4 CC4.out HLC.out HA0.out HLB.out HL0.out).mono ?_
            rintro e W5 ⟨A5, c5, rfl, hA5, hc5, hC5, hb5⟩
            have M5 := Lib.hid (M4.out.below hb5)
            have B5 := Lib.hid (B4.out.trans (hb5.mono B4.out.size))
            have xb5 := Lib.hid ((hb5.block _ (blk_lt xb4.out)).trans xb4.out)
            have yb5 := Lib.hid ((hb5.block _ (blk_lt yb4.out)).trans yb4.out)
            have xx5 := Lib.hid ((hb5.block _ (blk_lt xx4.out)).trans xx4.out)
            have hgW := blk_lt M4.out.row
            have hgxW := blk_lt xx4.out
            have hgyW := blk_lt yb4.out
            obtain ⟨L5, hL5⟩ : ∃ L5, L5 = cL n L x.f1 x.f3 := ⟨_, rfl⟩
            obtain ⟨bs5, hbs5⟩ : ∃ b5, b5 = cB n bs x.f1 x.f3 := ⟨_, rfl⟩
            obtain ⟨ev, hev⟩ : ∃ ev, ev = (cErr n x.f1 x.f3).getD 0 := ⟨_, rfl⟩
            rw [← hL5] at hC5 hc5
            rw [← hbs5] at M5
            rw [← hL5, ← hev]
            have hrl : Rel n bs5 L5 := by rw [hbs5, hL5]; exact c_rel HR0.out _ _
            have hlk : Lok L5 := by rw [hL5]; exact c_lok HL0.out _ _
            have hle : L5.length ≤ k + 1 := by have h1 := c_len n L x.f1 x.f3; have h2 := HLK.out; rw [hL5]; omega
            obtain ⟨M6, B6, xb6, xx6, CC6⟩ := fin3 (u := .int .i64 (n : Int)) (v := .slice A5 L5.length c5) M5.out B5.out xb5.out yb5.out xx5.out hC5 (fun k h => (by rcases h with h | h; (exact h); (exact ⟨by omega, by omega, by omega⟩))) NE.out.2.2.2.1 NE.out.2.2.2.2.1 (fun e => NE.out.2.1 e.symm) HXW.out NE.out.2.2.2.2.2.1 NE.out.2.2.2.2.2.2.1 (fun e => NE.out.2.2.1 e.symm) NE.out.1 NE.out.2.2.2.2.2.2.2.2
            have M6 := Lib.hid M6
            have B6 := Lib.hid B6
            have xb6 := Lib.hid xb6
            have xx6 := Lib.hid xx6
            have CC6 := Lib.hid CC6
            have HA5 := Lib.hid hA5
            have HC5 := Lib.hid hc5
            have HR5 := Lib.hid hrl
            have HK5 := Lib.hid hlk
            have HE5 := Lib.hid hle
            clear p0 p1 p2 p3 s0 s1 s2 s3 s4
            obtain ⟨p0, p1, p2, p3⟩ := cells_two xx5.out
            obtain ⟨y0, y1, y2, y3⟩ := cells_two yb5.out
            obtain ⟨t0, t1, t2, t3, t4⟩ := cells_five xb6.out
            clear hC5 hc5 hA5 hb5 hgW hgxW hgyW hL5 hbs5 hev hrl hlk hle M4 B4 xb4 yb4 xx4 CC4 M5 B5 xb5 yb5 xx5
            have ne1 : ¬ gx = gy := NE.out.1
            have ne2 : ¬ gy = gx := fun e => NE.out.1 e.symm
            go_wp2_with fail
            generalize ((((W5.setCell ⟨gy, 0, none⟩ (.int .i64 (n : Int))).setCell ⟨gy, 1, none⟩ (.slice A5 L5.length c5)).setCell ⟨gx, 0, none⟩ (.int .i64 (n : Int))).setCell ⟨gx, 1, none⟩ (.slice A5 L5.length c5)) = W6 at *
            clear t0 t1 t2 t3 t4 y0 y1 y2 y3 p0 p1 p2 p3 ne1 ne2
            refine (read_all W6 p g n bs5 M6.out x.f1 x.f2 x.f3 (HW.out x HM.out)).mono ?_
            rintro e W7 ⟨v7, rfl, hR7, hb7⟩
            rw [r_rel HR5.out] at hR7
            have M7 := Lib.hid (M6.out.below hb7)
            have B7 := Lib.hid (B6.out.trans (hb7.mono B6.out.size))
            have xb7 := Lib.hid ((hb7.block _ (blk_lt xb6.out)).trans xb6.out)
            have xx7 := Lib.hid ((hb7.block _ (blk_lt xx6.out)).trans xx6.out)
            have CC7 := Lib.hid (CC6.out.step (Agr.below hb7))
            have R7 := Lib.hid hR7
            clear hR7 hb7 M6 B6 xb6 xx6 CC6
            obtain ⟨p0, p1, p2, p3⟩ := cells_two xx7.out
            obtain ⟨s0, s1, s2, s3, s4⟩ := cells_five xb7.out
            have hL5b : L5.length ≤ 1000000000 := by have := HE5.out; omega
            go_wp2_with fail
            refine (refRead n A5 c5 L5 x.f1 x.f2 x.f3 W7 CC7.out.C HC5.out hL5b HK5.out).mono ?_
            rintro e W8 ⟨v8, rfl, hR8, hb8⟩
            have M8 := Lib.hid (M7.out.below hb8)
            have B8 := Lib.hid (B7.out.trans (hb8.mono B7.out.size))
            have xx8 := Lib.hid ((hb8.block _ (blk_lt xx7.out)).trans xx7.out)
            have CC8 := Lib.hid (CC7.out.step (Agr.below hb8))
            obtain ⟨Va, ca, rfl, _, hCa⟩ := Kd.R_reads (Kd.R_below R7.out hb8)
            obtain ⟨Vb, cb, rfl, _, hCb⟩ := Kd.R_reads hR8
            obtain ⟨V, hV⟩ : ∃ V, V = rL n L5 x.f1 x.f2 x.f3 := ⟨_, rfl⟩
            rw [← hV] at hCa hCb
            have hs1 := str_of (c := ca) hCa
            have hs2 := str_of (c := cb) hCb
            rw [← hV]
            clear hCa hCb hV hR8 hb8 M7 B7 xb7 xx7 CC7 R7 hL5b
            clear p0 p1 p2 p3 s0 s1 s2 s3 s4
            go_wp2_with fail
            refine (num_calls (rErr n x.f1 x.f2 x.f3) _ (HE.out.below' B8.out)).mono ?_
            rintro e W9 ⟨rfl, hb9⟩
            rw [show numOf (rErr n x.f1 x.f2 x.f3) = (rErr n x.f1 x.f2 x.f3).getD 0 from rfl]
            have M9 := Lib.hid (M8.out.below hb9)
            have B9 := Lib.hid (B8.out.trans (hb9.mono B8.out.size))
            have xx9 := Lib.hid ((hb9.block _ (blk_lt xx8.out)).trans xx8.out)
            have CC9 := Lib.hid (CC8.out.step (Agr.below hb9))
            clear hb9 M8 B8 xx8 CC8
            go_wp2_with fail
            go_roundg (24 - k)
            case measure => omega
            case rel => exact ⟨k + 1, bs5, L5, A5, c5, by go_num, by omega, by omega, M9.out, B9.out, ⟨HR5.out, HK5.out, HE5.out, HA5.out, HC5.out⟩, xx9.out, CC9.out⟩
          have e5 : ((q : Int) == 5) = false := beq_false_of_ne (by omega)
          obtain ⟨bs5, rfl⟩ : ∃ b5, b5 = bs := ⟨_, rfl⟩
          obtain ⟨L5, rfl⟩ : ∃ L5, L5 = L := ⟨_, rfl⟩
          obtain ⟨A5, rfl⟩ : ∃ A5, A5 = A := ⟨_, rfl⟩
          obtain ⟨c5, rfl⟩ : ∃ c5, c5 = c := ⟨_, rfl⟩
          obtain ⟨M6, B6, xb6, xx6, CC6⟩ := fin4 (u := .int .i64 (n : Int)) (v := .slice A5 L5.length c5) M2.out B2.out xb2.out xx2.out CC2.out (fun k h => ⟨h.1, h.2.1⟩) NE.out.2.2.2.1 NE.out.2.2.2.2.1 (fun e => NE.out.2.1 e.symm) HXW.out
          have M6 := Lib.hid M6
          have B6 := Lib.hid B6
          have xb6 := Lib.hid xb6
          have xx6 := Lib.hid xx6
          have CC6 := Lib.hid CC6
          have HA5 := Lib.hid HA0.out
          have HC5 := Lib.hid HLC.out
          have HR5 := Lib.hid HR0.out
          have HK5 := Lib.hid HL0.out
          have HE5 := Lib.hid (show L5.length ≤ k + 1 from Nat.le_succ_of_le HLK.out)
          obtain ⟨p0, p1, p2, p3⟩ := cells_two xx2.out
          obtain ⟨y0, y1, y2, y3⟩ := cells_two yb2.out
          obtain ⟨t0, t1, t2, t3, t4⟩ := cells_five xb6.out
          clear M2 B2 xb2 yb2 xx2 CC2
          go_wp2_with fail
          generalize ((W2.setCell ⟨gx, 0, none⟩ (.int .i64 (n : Int))).setCell ⟨gx, 1, none⟩ (.slice A5 L5.length c5)) = W6 at *
          clear t0 t1 t2 t3 t4 y0 y1 y2 y3 p0 p1 p2 p3
          refine (read_all W6 p g n bs5 M6.out x.f1 x.f2 x.f3 (HW.out x HM.out)).mono ?_
          rintro e W7 ⟨v7, rfl, hR7, hb7⟩
          rw [r_rel HR5.out] at hR7
          have M7 := Lib.hid (M6.out.below hb7)
          have B7 := Lib.hid (B6.out.trans (hb7.mono B6.out.size))
          have xb7 := Lib.hid ((hb7.block _ (blk_lt xb6.out)).trans xb6.out)
          have xx7 := Lib.hid ((hb7.block _ (blk_lt xx6.out)).trans xx6.out)
          have CC7 := Lib.hid (CC6.out.step (Agr.below hb7))
          have R7 := Lib.hid hR7
          clear hR7 hb7 M6 B6 xb6 xx6 CC6
          obtain ⟨p0, p1, p2, p3⟩ := cells_two xx7.out
          obtain ⟨s0, s1, s2, s3, s4⟩ := cells_five xb7.out
          have hL5b : L5.length ≤ 1000000000 := by have := HE5.out; omega
          go_wp2_with fail
          refine (refRead n A5 c5 L5 x.f1 x.f2 x.f3 W7 CC7.out.C HC5.out hL5b HK5.out).mono ?_
          rintro e W8 ⟨v8, rfl, hR8, hb8⟩
          have M8 := Lib.hid (M7.out.below hb8)
          have B8 := Lib.hid (B7.out.trans (hb8.mono B7.out.size))
          have xx8 := Lib.hid ((hb8.block _ (blk_lt xx7.out)).trans xx7.out)
          have CC8 := Lib.hid (CC7.out.step (Agr.below hb8))
          obtain ⟨Va, ca, rfl, _, hCa⟩ := Kd.R_reads (Kd.R_below R7.out hb8)
          obtain ⟨Vb, cb, rfl, _, hCb⟩ := Kd.R_reads hR8
          obtain ⟨V, hV⟩ : ∃ V, V = rL n L5 x.f1 x.f2 x.f3 := ⟨_, rfl⟩
          rw [← hV] at hCa hCb
          have hs1 := str_of (c := ca) hCa
          have hs2 := str_of (c := cb) hCb
          rw [← hV]
          clear hCa hCb hV hR8 hb8 M7 B7 xb7 xx7 CC7 R7 hL5b
          clear p0 p1 p2 p3 s0 s1 s2 s3 s4
          go_wp2_with fail
          refine (num_calls (rErr n x.f1 x.f2 x.f3) _ (HE.out.below' B8.out)).mono ?_
          rintro e W9 ⟨rfl, hb9⟩
          rw [show numOf (rErr n x.f1 x.f2 x.f3) = (rErr n x.f1 x.f2 x.f3).getD 0 from rfl]
          have M9 := Lib.hid (M8.out.below hb9)
          have B9 := Lib.hid (B8.out.trans (hb9.mono B8.out.size))
          have xx9 := Lib.hid ((hb9.block _ (blk_lt xx8.out)).trans xx8.out)
          have CC9 := Lib.hid (CC8.out.step (Agr.below hb9))
          clear hb9 M8 B8 xx8 CC8
          go_wp2_with fail
          go_roundg (24 - k)
          case measure => omega
          case rel => exact ⟨k + 1, bs5, L5, A5, c5, by go_num, by omega, by omega, M9.out, B9.out, ⟨HR5.out, HK5.out, HE5.out, HA5.out, HC5.out⟩, xx9.out, CC9.out⟩
        · have hk25i : ¬ (k : Int) < 25 := by omega
          have hki : (k : Int) < (l.length : Int) := by omega
          go_wp2_with fail
          refine (physSure _ (HE.out.below' Br.out)).mono ?_
          rintro e W2 ⟨rfl, hb2⟩
          have B2 := Lib.hid (Br.out.trans (hb2.mono Br.out.size))
          clear hb2
          go_wp2
          go_ret
          exact ⟨rfl, B2.out⟩
      · have hki : ¬ (k : Int) < (l.length : Int) := by omega
        go_wp2_with fail
        refine (physSure _ (HE.out.below' Br.out)).mono ?_
        rintro e W2 ⟨rfl, hb2⟩
        have B2 := Lib.hid (Br.out.trans (hb2.mono Br.out.size))
        clear hb2
        go_wp2
        go_ret
        exact ⟨rfl, B2.out⟩
  · by_cases hlt : many < 1
    · have d1 : decide (many < 1) = true := decide_eq_true hlt
      have HM := Lib.hid hmany
      clear hmany
      go_wp2_with fail
      refine (new_bad w4 many HM.out).mono ?_
      rintro e w5 ⟨rfl, rfl⟩
      rw [errW_some]
      go_wp2_with fail
      refine (num_calls (some 22) w4 (HE.out.below' B4.out)).mono ?_
      rintro e w5 ⟨rfl, hb5⟩
      rw [show numOf (some 22) = 22 from rfl]
      have B5 := Lib.hid (B4.out.trans (hb5.mono B4.out.size))
      clear hb5
      go_wp2_with fail
      refine (physSure _ (HE.out.below' B5.out)).mono ?_
      rintro e w6 ⟨rfl, hb6⟩
      have B6 := Lib.hid (B5.out.trans (hb6.mono B5.out.size))
      clear hb6
      go_wp2
      go_ret
      exact ⟨rfl, B6.out⟩
    · have hgt : 1024 < many := by omega
      have d1 : decide (many < 1) = false := decide_eq_false hlt
      have d2 : decide (1024 < many) = true := decide_eq_true hgt
      have HM := Lib.hid hmany
      clear hmany
      go_wp2_with fail
      refine (new_bad w4 many HM.out).mono ?_
      rintro e w5 ⟨rfl, rfl⟩
      rw [errW_some]
      go_wp2_with fail
      refine (num_calls (some 22) w4 (HE.out.below' B4.out)).mono ?_
      rintro e w5 ⟨rfl, hb5⟩
      rw [show numOf (some 22) = 22 from rfl]
      have B5 := Lib.hid (B4.out.trans (hb5.mono B4.out.size))
      clear hb5
      go_wp2_with fail
      refine (physSure _ (HE.out.below' B5.out)).mono ?_
      rintro e w6 ⟨rfl, hb6⟩
      have B6 := Lib.hid (B5.out.trans (hb6.mono B5.out.size))
      clear hb6
      go_wp2
      go_ret
      exact ⟨rfl, B6.out⟩
end Go.Proofs.YtikmanafbkiikaaDoor
