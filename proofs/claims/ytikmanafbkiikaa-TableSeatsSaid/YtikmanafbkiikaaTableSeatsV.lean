/- The walk of TableSeats. -/
import Derived.Test.YtikmanafbkiikaaTableSeatsW
namespace Go.Proofs.Ytikmanafbkiikaa
set_option linter.unusedSimpArgs false
set_option linter.unusedVariables false
open Go Go.RowKit Go.Proofs.YtikmanafbkiikaaW.PrintWords Go.Proofs.YtikmanafbkiikaaW.PrintMore Go.Proofs.Ytikmanafbkiikaa.RowK

set_option maxHeartbeats 600000 in
set_option maxRecDepth 100000 in
theorem tableSeats (many : Int) (A0 : Option Addr) (c0 : Nat) (l : List Int) (w : World) (hC : Kd.C (Kd.int .i64) w A0 l.length l) :
    Calls Try.prog 3 #[.int .i64 many, .slice A0 l.length c0] w fun e w' => e = .returned (.bool true) ∧ Below w.heap.size w w' := by
  obtain ⟨i0, hi, hz0, hz1, hz2⟩ := info_parts boolInfo
  have HC := Lib.hid hC
  have hmx := Kd.C_max hC
  obtain ⟨o, ho', ho9⟩ := mod_u many 9 (by decide) (by decide)
  have ho : wrap64 ((IntKind.u64.wrap many).tmod 9) = (o : Int) := ho'
  clear ho'
  clear hC
  go_enter Try.func3, Try.ntmps3
  go_wp2_with fail
  refine (frNew _ (1 + (o : Int)) (by omega) (by omega)).mono ?_
  rintro e w1 ⟨pf, gf, rfl, hf1, hg1, hp1, hb1⟩
  obtain ⟨k, hk⟩ : ∃ k : Nat, 1 + (o : Int) = k := ⟨1 + o, by omega⟩
  rw [hk, Int.toNat_natCast] at hf1
  rw [hk]
  have hk1 : 1 ≤ k := by omega
  have hk9 : k ≤ 9 := by omega
  clear hk ho
  have F1 := Lib.hid hf1
  have G1 := Lib.hid hg1
  have B1 := Lib.hid hb1
  clear hf1 hg1 hp1 hb1
  go_wp2_with fail
  refine (new_mem _ (k : Int) (by omega) (by omega)).mono ?_
  rintro e w2 ⟨pm, gm, rfl, hm2, hg2, hb2⟩
  rw [Int.toNat_natCast] at hm2
  have M2 := Lib.hid hm2
  have G2 := Lib.hid hg2
  have B2 := Lib.hid hb2
  clear hm2 hg2 hb2
  go_wp2_with fail
  refine (tl_new w w1 w2 pf gf pm gm k hk1 F1.out G1.out B1.out M2.out G2.out B2.out).mono ?_
  rintro e w3 ⟨pt, rfl, ht3, ha3, hpt3⟩
  have T3 := Lib.hid ht3
  have PT := Lib.hid (show pf < w2.heap.size ∧ pm < w2.heap.size ∧ pt < w3.heap.size by
    refine ⟨?_, blk_lt M2.out.cell, ?_⟩
    · have := blk_lt F1.out.cell; have := B2.out.size; omega
    · obtain ⟨bs, ht, _⟩ := ht3.ts; exact blk_lt ht.cell)
  have SZ := Lib.hid ha3.size
  clear ht3 ha3 hpt3
  by_cases h60 : 60 < l.length
  · have h60i : 60 < (l.length : Int) := by omega
    go_wp2_with fail
    refine (tabSure w3).mono ?_
    rintro e w4 ⟨rfl, hb4⟩
    have T4 := Lib.hid (T3.out.below hb4)
    clear hb4
    go_wp2
    go_ret
    exact ⟨rfl, T4.out.bel⟩
  have h60i : ¬ 60 < (l.length : Int) := by omega
  have hmk := Go.run_make (P := Try.prog) w3 36 4 i0 (.bool false) Try.underlying36 hi hz0 .i64 .i64 64 64 (by omega) (Int.le_refl _) (by rw [hz2]; omega) (by omega)
  have hm1 : madeCells (Value.bool false).cells ((64 : Int).toNat * i0.size) = ((List.replicate 64 false).map Value.bool).toArray := by
    rw [hz1, Nat.mul_one, List.map_replicate]
    apply Array.ext'
    exact toList_madeCells_one _ _
  rw [hm1] at hmk
  obtain ⟨M, hM⟩ : ∃ M, M = ((List.replicate 64 false).map Value.bool).toArray := ⟨_, rfl⟩
  rw [← hM] at hmk
  have HM := Lib.hid hM
  clear hM hi hz0 hz1 hz2 hm1
  go_wp2_with fail
  have S0 : SI w (w3.alloc (.cells M 4 (0, 0))) pt pf gf pm gm w3.heap.size k 0 ((List.replicate k 0).set 0 1) (fun _ => none) (fun _ => none) (List.replicate 64 false) := by
    have hba : Below w3.heap.size w3 (w3.alloc (.cells M 4 (0, 0))) := (Below.refl _ _).alloc (Nat.le_refl _) _
    have e1 := blk_lt T3.out.ts.frm.row
    have e2 : gm < w3.heap.size := by obtain ⟨bs, ht, _⟩ := T3.out.ts; exact blk_lt ht.mem.row
    refine ⟨T3.out.below hba, by rw [heap_alloc_new, HM.out], List.length_replicate, fun u hu => by rw [List.getElem?_replicate, if_pos hu]; rfl, by omega, by omega, T3.out.bel.size, ?_, by simp⟩
    have h1 := takenTo_set (List.replicate k 0) 0 (by rw [List.getElem?_replicate, if_pos (by omega)]) k
    rw [takenTo_zero, if_pos (by omega)] at h1
    rw [h1, cnt_none]
    rfl
  obtain ⟨W0, hW0⟩ : ∃ W0, W0 = w3.alloc (.cells M 4 (0, 0)) := ⟨_, rfl⟩
  obtain ⟨gh, hgh⟩ : ∃ gh, gh = w3.heap.size := ⟨_, rfl⟩
  rw [← hW0, ← hgh] at S0
  rw [← hW0, ← hgh]
  have NE := Lib.hid (show gh ≠ pt ∧ gh ≠ pf ∧ gh ≠ pm by
    obtain ⟨x1, x2, x3⟩ := PT.out
    have := SZ.out
    exact ⟨by omega, by omega, by omega⟩)
  have S0 := Lib.hid S0
  have hl60 : l.length ≤ 60 := by omega
  clear hW0 hgh hmk
  go_loopg [13, 14] l.length (fun gg s13 s14 wr => ∃ (i : Nat) (rs : List Int) (own : Nat → Option Nat) (ent : Nat → Option Ent3) (hs : List Bool), s14 = .int .i64 (i : Nat) ∧ s13 = .int .i64 (1 + (cnt own : Int)) ∧ i + gg = l.length ∧ Aside (SI w wr pt pf gf pm gm gh k 0 rs own ent hs))
  case atStart => exact ⟨0, _, _, _, _, rfl, by rw [cnt_none]; rfl, by omega, S0.out⟩
  case round =>
    obtain ⟨i, rs, own, ent, hs, rfl, rfl, hig, S⟩ := hrel
    by_cases hil : i < l.length
    · have hili : (i : Int) < (l.length : Int) := by omega
      obtain ⟨bk, off, rfl, hcell⟩ := int_cell HC.out i hil
      have q0 := hcell wr S.out.tl.bel
      obtain ⟨x, hx⟩ : ∃ x, x = l.getD i 0 := ⟨_, rfl⟩
      rw [← hx] at q0
      obtain ⟨pn, hp', hpn⟩ := mod_u x 4096 (by decide) (by decide)
      obtain ⟨P, hP⟩ : ∃ P : Int, P = (pn : Int) := ⟨_, rfl⟩
      have hp : wrap64 ((IntKind.u64.wrap x).tmod 4096) = P := hp'.trans hP.symm
      have hP0 : 0 ≤ P := by omega
      have hP1 : P < 4096 := by omega
      obtain ⟨u, hu⟩ : ∃ u : Nat, P / 64 = (u : Int) := ⟨(P / 64).toNat, by omega⟩
      have hu64 : u < 64 := by omega
      have hun : (P / 64).toNat = u := by omega
      have HU := Lib.hid hun
      clear hp' hP hpn hx hcell hun
      go_wp2_with fail
      refine (ts_set S.out.tl.ts P (i : Int) 1 false (by decide) (by decide)).mono ?_
      rintro e W1 ⟨rfl, ht1, ha1⟩
      have hcase := S.out.set (by omega) P (i : Int) hP0 hP1 (entOk_iff.2 ⟨by omega, by omega, by decide⟩) u HU.out ht1 ha1
      clear ht1 ha1 q0
      rcases hcase with ⟨ent1, ho, he, hJ⟩ | ⟨ho, hk', he, hJ⟩ | ⟨j, ent1, ho, hk', he, hcn, hJ⟩
      · have hcb : own u ≠ none ↔ (own u).isSome = true := by cases own u <;> simp
        have hs1 := hcb.1 ho
        rw [he, errW_none]
        have c1 : ∀ n : Later W1, n.1.cell? ⟨gh, u, none⟩ = some (.bool true) := fun n => (n.cell u (blk_lt hJ.has)).trans ((hJ.cell u hu64).trans (by rw [hs1]))
        have hcl := cnt_le own
        clear hcb ho he hs1
        have J := Lib.hid hJ
        clear hJ
        go_wp2_with fail
        refine wp_region_later (w := W1) (by kernel_rfl) (by kernel_rfl) ?_
        repeat (go_big_quiet_step (fail))
        refine wpQuiet_nil ?_
        intro W2 hw'
        have hB2 : Below W1.heap.size W1 W2 := by obtain ⟨n, rfl⟩ := hw'; exact n.2
        have J2 := Lib.hid ((J.out.below hB2).keep)
        have c2 : W2.cell? ⟨gh, u, none⟩ = some (.bool true) := by obtain ⟨n, rfl⟩ := hw'; exact c1 n
        clear hw' hB2 c1 J
        go_wp2_with fail
        · refine (ts_clear J2.out.tl.ts P).mono ?_
          rintro e W3 ⟨rfl, ht3, ha3⟩
          rw [show pagE P = none by unfold pagE; rw [if_pos ⟨hP0, hP1⟩], errW_none]
          have J3 := Lib.hid (J2.out.again ht3 ha3)
          clear ht3 ha3
          go_wp2_with fail
          refine (ts_frames J3.out.tl.ts).mono ?_
          rintro e W4 ⟨rfl, hb4⟩
          have J4 := Lib.hid (J3.out.below hb4)
          clear hb4
          go_wp2_with fail
          refine (frFree W4 pf gf k _ J4.out.tl.ts.frm).mono ?_
          rintro e W5 ⟨rfl, hb5⟩
          rw [J4.out.many, show ((1 + cnt own : Nat) : Int) = 1 + (cnt own : Int) by omega]
          have J5 := Lib.hid (J4.out.below hb5)
          clear hb5
          go_wp2_with fail
          go_roundg (l.length - (i + 1))
          case measure => omega
          case rel => exact ⟨i + 1, _, _, _, _, by go_num, rfl, by omega, J5.out⟩
        · refine (ts_frames J2.out.tl.ts).mono ?_
          rintro e W4 ⟨rfl, hb4⟩
          have J4 := Lib.hid (J2.out.below hb4)
          clear hb4
          go_wp2_with fail
          refine (frFree W4 pf gf k _ J4.out.tl.ts.frm).mono ?_
          rintro e W5 ⟨rfl, hb5⟩
          rw [J4.out.many, show ((1 + cnt own : Nat) : Int) = 1 + (cnt own : Int) by omega]
          have J5 := Lib.hid (J4.out.below hb5)
          clear hb5
          go_wp2_with fail
          go_roundg (l.length - (i + 1))
          case measure => omega
          case rel => exact ⟨i + 1, _, _, _, _, by go_num, rfl, by omega, J5.out⟩
      · rw [he, errW_some]
        have c1 : ∀ n : Later W1, n.1.cell? ⟨gh, u, none⟩ = some (.bool false) := fun n => (n.cell u (blk_lt hJ.has)).trans ((hJ.cell u hu64).trans (by rw [ho]; rfl))
        have hlt : ¬ 1 + (cnt own : Int) < (k : Int) := by omega
        have hcl := cnt_le own
        clear ho he hk'
        have J := Lib.hid hJ
        clear hJ
        go_wp2_with fail
        refine wp_region_later (w := W1) (by kernel_rfl) (by kernel_rfl) ?_
        repeat (go_big_quiet_step (fail))
        refine wpQuiet_nil ?_
        intro W2 hw'
        have hB2 : Below W1.heap.size W1 W2 := by obtain ⟨n, rfl⟩ := hw'; exact n.2
        have J2 := Lib.hid ((J.out.below hB2).keep)
        have c2 : W2.cell? ⟨gh, u, none⟩ = some (.bool false) := by obtain ⟨n, rfl⟩ := hw'; exact c1 n
        clear hw' hB2 c1 J
        go_wp2_with fail
        · refine (ts_clear J2.out.tl.ts P).mono ?_
          rintro e W3 ⟨rfl, ht3, ha3⟩
          rw [show pagE P = none by unfold pagE; rw [if_pos ⟨hP0, hP1⟩], errW_none]
          have J3 := Lib.hid (J2.out.again ht3 ha3)
          clear ht3 ha3
          go_wp2_with fail
          refine (ts_frames J3.out.tl.ts).mono ?_
          rintro e W4 ⟨rfl, hb4⟩
          have J4 := Lib.hid (J3.out.below hb4)
          clear hb4
          go_wp2_with fail
          refine (frFree W4 pf gf k _ J4.out.tl.ts.frm).mono ?_
          rintro e W5 ⟨rfl, hb5⟩
          rw [J4.out.many, show ((1 + cnt own : Nat) : Int) = 1 + (cnt own : Int) by omega]
          have J5 := Lib.hid (J4.out.below hb5)
          clear hb5
          go_wp2_with fail
          go_roundg (l.length - (i + 1))
          case measure => omega
          case rel => exact ⟨i + 1, _, _, _, _, by go_num, rfl, by omega, J5.out⟩
        · refine (ts_frames J2.out.tl.ts).mono ?_
          rintro e W4 ⟨rfl, hb4⟩
          have J4 := Lib.hid (J2.out.below hb4)
          clear hb4
          go_wp2_with fail
          refine (frFree W4 pf gf k _ J4.out.tl.ts.frm).mono ?_
          rintro e W5 ⟨rfl, hb5⟩
          rw [J4.out.many, show ((1 + cnt own : Nat) : Int) = 1 + (cnt own : Int) by omega]
          have J5 := Lib.hid (J4.out.below hb5)
          clear hb5
          go_wp2_with fail
          go_roundg (l.length - (i + 1))
          case measure => omega
          case rel => exact ⟨i + 1, _, _, _, _, by go_num, rfl, by omega, J5.out⟩
      · rw [he, errW_none]
        have c1 : ∀ n : Later W1, n.1.cell? ⟨gh, u, none⟩ = some (.bool false) := fun n => (n.cell u (blk_lt hJ.has)).trans ((hJ.cell u hu64).trans (by rw [ho]; rfl))
        have hlt : 1 + (cnt own : Int) < (k : Int) := by omega
        have hcl := cnt_le own
        have HCN := Lib.hid hcn
        clear ho he hk' hcn
        have J := Lib.hid hJ
        clear hJ
        go_wp2_with fail
        refine wp_region_later (w := W1) (by kernel_rfl) (by kernel_rfl) ?_
        repeat (go_big_quiet_step (fail))
        refine wpQuiet_nil ?_
        intro W2 hw'
        have hB2 : Below W1.heap.size W1 W2 := by obtain ⟨n, rfl⟩ := hw'; exact n.2
        have J2 := Lib.hid (J.out.below hB2)
        have c2 : W2.cell? ⟨gh, u, none⟩ = some (.bool false) := by obtain ⟨n, rfl⟩ := hw'; exact c1 n
        have f2 := J2.out.froz u
        have J2p := Lib.hid (J2.out.put hu64 NE.out.1 NE.out.2.1 NE.out.2.2)
        clear hw' hB2 c1 J
        go_wp2_with fail
        · refine (ts_clear J2p.out.tl.ts P).mono ?_
          rintro e W3 ⟨rfl, ht3, ha3⟩
          rw [show pagE P = none by unfold pagE; rw [if_pos ⟨hP0, hP1⟩], errW_none]
          have J3 := Lib.hid (J2p.out.again ht3 ha3)
          clear ht3 ha3
          go_wp2_with fail
          refine (ts_frames J3.out.tl.ts).mono ?_
          rintro e W4 ⟨rfl, hb4⟩
          rw [HCN.out, show (1 : Int) + ((cnt own + 1 : Nat) : Int) = 1 + (cnt own : Int) + 1 by omega]
          have J4 := Lib.hid (J3.out.below hb4)
          clear hb4
          go_wp2_with fail
          refine (frFree W4 pf gf k _ J4.out.tl.ts.frm).mono ?_
          rintro e W5 ⟨rfl, hb5⟩
          rw [J4.out.many, show ((1 + cnt (upd own u (some j)) : Nat) : Int) = 1 + (cnt own : Int) + 1 by have := HCN.out; omega]
          have J5 := Lib.hid (J4.out.below hb5)
          clear hb5
          go_wp2_with fail
          go_roundg (l.length - (i + 1))
          case measure => omega
          case rel => exact ⟨i + 1, _, _, _, _, by go_num, by rw [HCN.out]; go_num, by omega, J5.out⟩
        · refine (ts_frames J2p.out.tl.ts).mono ?_
          rintro e W4 ⟨rfl, hb4⟩
          rw [HCN.out, show (1 : Int) + ((cnt own + 1 : Nat) : Int) = 1 + (cnt own : Int) + 1 by omega]
          have J4 := Lib.hid (J2p.out.below hb4)
          clear hb4
          go_wp2_with fail
          refine (frFree W4 pf gf k _ J4.out.tl.ts.frm).mono ?_
          rintro e W5 ⟨rfl, hb5⟩
          rw [J4.out.many, show ((1 + cnt (upd own u (some j)) : Nat) : Int) = 1 + (cnt own : Int) + 1 by have := HCN.out; omega]
          have J5 := Lib.hid (J4.out.below hb5)
          clear hb5
          go_wp2_with fail
          go_roundg (l.length - (i + 1))
          case measure => omega
          case rel => exact ⟨i + 1, _, _, _, _, by go_num, by rw [HCN.out]; go_num, by omega, J5.out⟩
    · have hili : ¬ (i : Int) < (l.length : Int) := by omega
      go_wp2_with fail
      refine (tabSure wr).mono ?_
      rintro e W2 ⟨rfl, hb2⟩
      have T4 := Lib.hid (S.out.tl.below hb2)
      clear hb2
      go_wp2
      go_ret
      exact ⟨rfl, T4.out.bel⟩
end Go.Proofs.Ytikmanafbkiikaa
