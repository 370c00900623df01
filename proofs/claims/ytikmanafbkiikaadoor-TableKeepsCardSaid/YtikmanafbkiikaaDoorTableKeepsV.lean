/- The walk of TableKeeps. -/
import Derived.Test.YtikmanafbkiikaaDoorTableKeepsW
namespace Go.Proofs.YtikmanafbkiikaaDoor
set_option linter.unusedSimpArgs false
set_option linter.unusedVariables false
open Go Go.RowKit Go.Proofs.YtikmanafbkiikaaDoorW.PrintWords Go.Proofs.YtikmanafbkiikaaDoorW.PrintMore Go.Proofs.YtikmanafbkiikaaDoor.RowK Kinds

set_option maxHeartbeats 1000000 in
set_option maxRecDepth 100000 in
theorem tableKeeps (A0 : Option Addr) (c0 : Nat) (l : List S75) (w : World) (hE : EW w) (hC : Kd.C k75 w A0 l.length l)
    (wfl : ∀ x ∈ l, (Lit.int .u8 x.f2.f1).wf = true) :
    Calls Tryd.prog 7 #[.slice A0 l.length c0] w fun e w' => e = .returned (.bool true) ∧ Below w.heap.size w w' := by
  have HE := Lib.hid hE
  have HC := Lib.hid hC
  have HW := Lib.hid wfl
  have hmx := Kd.C_max hC
  clear hE hC wfl
  go_enter Tryd.func7, Tryd.ntmps7
  go_wp2_with fail
  refine (frNew _ 6 (by decide) (by decide)).mono ?_
  rintro e w1 ⟨pf, gf, rfl, hf1, hg1, hp1, hb1⟩
  have F1 := Lib.hid hf1
  have G1 := Lib.hid hg1
  have B1 := Lib.hid hb1
  clear hf1 hg1 hp1 hb1
  go_wp2_with fail
  refine (new_mem _ 6 (by decide) (by decide)).mono ?_
  rintro e w2 ⟨pm, gm, rfl, hm2, hg2, hb2⟩
  have M2 := Lib.hid hm2
  have G2 := Lib.hid hg2
  have B2 := Lib.hid hb2
  clear hm2 hg2 hb2
  go_wp2_with fail
  refine (tl_new w w1 w2 pf gf pm gm 6 (by decide) F1.out G1.out B1.out M2.out G2.out B2.out).mono ?_
  rintro e w3 ⟨pt, rfl, ht3, _, _⟩
  have T3 := Lib.hid ht3
  clear ht3
  go_wp2_with fail
  go_loopg [9] 25 (fun gg s9 wr => ∃ (i : Nat) (rs : List Int) (own : Nat → Option Nat) (ent : Nat → Option Ent3), s9 = .int .i64 (i : Nat) ∧ i + gg = 25 ∧ i ≤ l.length ∧ Aside (TL w wr pt pf gf pm gm 6 0 rs own ent ∧ KI rs own))
  case atStart => exact ⟨0, _, _, _, rfl, rfl, Nat.zero_le _, T3.out, KI.new⟩
  case round =>
    obtain ⟨i, rs, own, ent, rfl, hig, hil, S⟩ := hrel
    have hIN : ¬ (i < l.length ∧ i < 25) ∨ (i < l.length ∧ i < 25) := by omega
    rcases hIN with hout | ⟨hil', hi25⟩
    · have HO := Lib.hid hout
      clear hout
      by_cases hil2 : i < l.length
      · have hili : (i : Int) < (l.length : Int) := by omega
        have hi25i : ¬ (i : Int) < 25 := by have := HO.out; omega
        go_wp2_with fail
        refine (frFree wr pf gf 6 _ S.out.1.ts.frm).mono ?_
        rintro e W4 ⟨rfl, hb4⟩
        rw [S.out.2.many, show ((1 + cnt own : Nat) : Int) = 1 + (cnt own : Int) by omega]
        have T4 := Lib.hid (S.out.1.below hb4)
        have hcl : (cnt own : Int) ≤ 64 := by have := cnt_le own; omega
        clear hb4
        go_wp2_with fail
        refine (ts_frames T4.out.ts).mono ?_
        rintro e W5 ⟨rfl, hb5⟩
        have T5 := Lib.hid (T4.out.below hb5)
        clear hb5
        go_wp2_with fail
        refine (ts_free T5.out.ts T5.out.t1 T5.out.t2).mono ?_
        rintro e W6 ⟨⟨v, rfl⟩, hf6, ha6, _⟩
        have F6 := Lib.hid hf6
        have B6 := Lib.hid (ha6.low T5.out.bel T5.out.g1 T5.out.g3)
        clear hf6 ha6
        go_wp2_with fail
        refine (frFree W6 pf gf 6 _ F6.out).mono ?_
        rintro e W7 ⟨rfl, hb7⟩
        rw [S.out.2.gone, show ((6 : Nat) : Int) - (([] : List Int).length : Int) = 6 from rfl]
        have B7 := Lib.hid (B6.out.trans (hb7.mono B6.out.size))
        clear hb7
        go_wp2_with fail
        refine (tabSure W7).mono ?_
        rintro e W8 ⟨rfl, hb8⟩
        have B8 := Lib.hid (B7.out.trans (hb8.mono B7.out.size))
        clear hb8
        go_wp2
        go_ret
        exact ⟨rfl, B8.out⟩
      · have hili : ¬ (i : Int) < (l.length : Int) := by omega
        go_wp2_with fail
        refine (frFree wr pf gf 6 _ S.out.1.ts.frm).mono ?_
        rintro e W4 ⟨rfl, hb4⟩
        rw [S.out.2.many, show ((1 + cnt own : Nat) : Int) = 1 + (cnt own : Int) by omega]
        have T4 := Lib.hid (S.out.1.below hb4)
        have hcl : (cnt own : Int) ≤ 64 := by have := cnt_le own; omega
        clear hb4
        go_wp2_with fail
        refine (ts_frames T4.out.ts).mono ?_
        rintro e W5 ⟨rfl, hb5⟩
        have T5 := Lib.hid (T4.out.below hb5)
        clear hb5
        go_wp2_with fail
        refine (ts_free T5.out.ts T5.out.t1 T5.out.t2).mono ?_
        rintro e W6 ⟨⟨v, rfl⟩, hf6, ha6, _⟩
        have F6 := Lib.hid hf6
        have B6 := Lib.hid (ha6.low T5.out.bel T5.out.g1 T5.out.g3)
        clear hf6 ha6
        go_wp2_with fail
        refine (frFree W6 pf gf 6 _ F6.out).mono ?_
        rintro e W7 ⟨rfl, hb7⟩
        rw [S.out.2.gone, show ((6 : Nat) : Int) - (([] : List Int).length : Int) = 6 from rfl]
        have B7 := Lib.hid (B6.out.trans (hb7.mono B6.out.size))
        clear hb7
        go_wp2_with fail
        refine (tabSure W7).mono ?_
        rintro e W8 ⟨rfl, hb8⟩
        have B8 := Lib.hid (B7.out.trans (hb8.mono B7.out.size))
        clear hb8
        go_wp2
        go_ret
        exact ⟨rfl, B8.out⟩
    · have hili : (i : Int) < (l.length : Int) := by omega
      have hi25i : (i : Int) < 25 := by omega
      obtain ⟨bk, off, rfl⟩ := C_addr HC.out (by omega) (by decide)
      obtain ⟨ad, cs, had, hcl, hK, hcell⟩ := Kd.C_get HC.out z75 (i : Int) (by omega) (by omega)
      have hmem : l.getD (i : Int).toNat z75 ∈ l := by
        rw [List.getD_eq_getElem?_getD, List.getElem?_eq_getElem (by omega)]
        exact List.getElem_mem _
      obtain ⟨x, hx⟩ : ∃ x, x = l.getD (i : Int).toNat z75 := ⟨_, rfl⟩
      rw [← hx] at hK hmem
      obtain rfl := k75_open hK
      obtain rfl := Option.some.inj had
      have hce : ∀ j u, [Value.int .i64 x.f0, .int .i64 x.f1, .int .i64 x.f2.f0, .int .u8 x.f2.f1, .bool x.f2.f2][j]? = some u → ∀ W, Below w.heap.size w W → W.cell? ⟨bk, off + i * 5 + j, none⟩ = some u := fun j u hj W hb => by
        have h1 := hcell j u hj
        rw [Addr.add_lit] at h1
        have h2 : w.cell? ⟨bk, off + i * 5 + j, none⟩ = some u := by rwa [Nat.add_assoc]
        exact (hb.cell (p := ⟨bk, off + i * 5 + j, none⟩) (Go.block_lt_of_cell h2)).trans h2
      have HQ := Lib.hid hce
      have hwf := HW.out x hmem
      have hu8 : 0 ≤ x.f2.f1 ∧ x.f2.f1 < 256 := by
        simp [Lit.wf, IntKind.min, IntKind.max, IntKind.bits, IntKind.signed] at hwf
        omega
      obtain ⟨x0, x1, y0, y1, y2, hxx⟩ : ∃ (x0 x1 y0 y1 : Int) (y2 : Bool), x = ⟨x0, x1, y0, y1, y2⟩ := ⟨_, _, _, _, _, rfl⟩
      subst hxx
      simp only at hu8
      obtain ⟨pn, hp', hpn⟩ := mod_u x1 4096 (by decide) (by decide)
      obtain ⟨P, hP⟩ : ∃ P : Int, P = (pn : Int) := ⟨_, rfl⟩
      have hp : wrap64 ((IntKind.u64.wrap x1).tmod 4096) = P := hp'.trans hP.symm
      have hP0 : 0 ≤ P := by omega
      have hP1 : P < 4096 := by omega
      obtain ⟨fn, hf', hfn⟩ := mod_u y0 1024 (by decide) (by decide)
      obtain ⟨F, hF⟩ : ∃ F : Int, F = (fn : Int) := ⟨_, rfl⟩
      have hf : wrap64 ((IntKind.u64.wrap y0).tmod 1024) = F := hf'.trans hF.symm
      have hF0 : 0 ≤ F := by omega
      have hF1 : F < 1024 := by omega
      have q1 := HQ.out 1 _ rfl wr S.out.1.bel
      have q2 := HQ.out 2 _ rfl wr S.out.1.bel
      have q3 := HQ.out 3 _ rfl wr S.out.1.bel
      have q4 := HQ.out 4 _ rfl wr S.out.1.bel
      clear hcell hcl hK hx hce had hmem hwf hp' hP hpn hf' hF hfn
      go_wp2_with fail
      go_region_held (fun w' => w'.cell? ⟨bk, off + i * 5 + 2, none⟩ = some (.int .i64 y0) ∧ w'.cell? ⟨bk, off + i * 5 + 3, none⟩ = some (.int .u8 y1) ∧ w'.cell? ⟨bk, off + i * 5 + 4, none⟩ = some (.bool y2)) (go_keep) (fail)
      rename_i hHeld
      clear hHeld
      rw [show IntKind.i64.wrap ((IntKind.u64.wrap y0).tmod 1024) = F by rw [IntKind.wrap_i64]; have h := hf; unfold wrap64 at h; omega]
      obtain ⟨Y, hY⟩ : ∃ Y, y1.tmod 8 = Y := ⟨_, rfl⟩
      have hY0 : 0 ≤ Y ∧ Y < 8 := by rw [← hY]; exact ⟨Int.tmod_nonneg _ hu8.1, Int.tmod_lt_of_pos _ (by decide)⟩
      rw [hY]
      obtain ⟨W1, hW1⟩ : ∃ W1, W1 = (wr.alloc (.cells #[.int .i64 F, .int .u8 Y, .bool y2] 55 (0, 0))).drew := ⟨_, rfl⟩
      rw [← hW1]
      have hbW : Below wr.heap.size wr W1 := by rw [hW1]; exact ((Below.refl _ wr).alloc (Nat.le_refl _) _).drew
      obtain ⟨b1, hb1'⟩ : ∃ b1, b1 = wr.heap.size := ⟨_, rfl⟩
      rw [← hb1']
      have X1 := Lib.hid (show Bx W1 b1 (.int .i64 F) (.int .u8 Y) (.bool y2) by rw [hW1, hb1']; exact Bx.new wr _ _ _)
      have T1 := Lib.hid (S.out.1.below hbW)
      have K1 := Lib.hid S.out.2
      have q5 := HQ.out 3 _ rfl W1 T1.out.bel
      have NB1 := Lib.hid (show b1 ≠ gf ∧ b1 ≠ gm by obtain ⟨a, b⟩ := S.out.1.apart; exact ⟨by omega, by omega⟩)
      clear hY q1 q2 q3 q4 hW1 hbW hb1' hf hp
      go_wp2_with fail
      obtain ⟨Q, hQ⟩ : ∃ Q, (P + 1 + y1 % 70) % 4096 = Q := ⟨_, rfl⟩
      have hQ0 : 0 ≤ Q := by omega
      have hQ1 : Q < 4096 := by omega
      have hQP : Q ≠ P := by omega
      rw [hQ]
      have PQ := Lib.hid (show pagE Q = none by unfold pagE; rw [if_pos ⟨hQ0, hQ1⟩])
      have PP := Lib.hid (show pagE P = none by unfold pagE; rw [if_pos ⟨hP0, hP1⟩])
      have NQ := Lib.hid hQP
      have HQQ := Lib.hid hQ
      obtain ⟨oq, hoq⟩ : ∃ oq, getT ent Q = oq := ⟨_, rfl⟩
      obtain ⟨op, hop⟩ : ∃ op, getT ent P = op := ⟨_, rfl⟩
      obtain ⟨a0, a1, a2, ha⟩ := val3_form oq
      obtain ⟨o0, o1, o2, ho⟩ := val3_form op
      obtain ⟨bq, hbq⟩ : ∃ b, oq.isSome = b := ⟨_, rfl⟩
      obtain ⟨bp, hbp⟩ : ∃ b, op.isSome = b := ⟨_, rfl⟩
      have OQ := Lib.hid (And.intro hoq (And.intro ha hbq))
      have OP := Lib.hid (And.intro hop (And.intro ho hbp))
      clear hQ hQP hoq hop ha ho hbq hbp q5
      refine (ts_get T1.out.ts Q).mono ?_
      rintro e W2 ⟨rfl, hb⟩
      rw [PQ.out, errW_none, OQ.out.1, OQ.out.2.1, OQ.out.2.2]
      have T2 := Lib.hid (T1.out.below hb)
      have X1_2 := Lib.hid (X1.out.below hb)
      clear hb T1 X1
      go_wp2_with fail
      have hA : Below W2.heap.size W2 (W2.alloc (.cells #[.int .i64 a0, .int .u8 a1, .bool a2] 55 (0, 0))) := (Below.refl _ _).alloc (Nat.le_refl _) _
      obtain ⟨b2, hbn⟩ : ∃ b, b = W2.heap.size := ⟨_, rfl⟩
      have X2 := Lib.hid (show Bx (W2.alloc (.cells #[.int .i64 a0, .int .u8 a1, .bool a2] 55 (0, 0))) b2 (.int .i64 a0) (.int .u8 a1) (.bool a2) by rw [hbn]; exact Bx.new W2 _ _ _)
      have N2 := Lib.hid (show b2 ≠ gf ∧ b2 ≠ gm by obtain ⟨a, b⟩ := T2.out.apart; exact ⟨by omega, by omega⟩)
      have T2a := Lib.hid (T2.out.below hA)
      have X1_2a := Lib.hid (X1_2.out.below hA)
      rw [← hbn]
      clear hA hbn T2 X1_2
      generalize W2.alloc (.cells #[.int .i64 a0, .int .u8 a1, .bool a2] 55 (0, 0)) = W2a at *
      refine (ts_get T2a.out.ts P).mono ?_
      rintro e W3 ⟨rfl, hb⟩
      rw [PP.out, errW_none, OP.out.1, OP.out.2.1, OP.out.2.2]
      have T3 := Lib.hid (T2a.out.below hb)
      have X1_3 := Lib.hid (X1_2a.out.below hb)
      have X2_3 := Lib.hid (X2.out.below hb)
      clear hb T2a X1_2a X2
      go_wp2_with fail
      have hA : Below W3.heap.size W3 (W3.alloc (.cells #[.int .i64 o0, .int .u8 o1, .bool o2] 55 (0, 0))) := (Below.refl _ _).alloc (Nat.le_refl _) _
      obtain ⟨b3, hbn⟩ : ∃ b, b = W3.heap.size := ⟨_, rfl⟩
      have X3 := Lib.hid (show Bx (W3.alloc (.cells #[.int .i64 o0, .int .u8 o1, .bool o2] 55 (0, 0))) b3 (.int .i64 o0) (.int .u8 o1) (.bool o2) by rw [hbn]; exact Bx.new W3 _ _ _)
      have N3 := Lib.hid (show b3 ≠ gf ∧ b3 ≠ gm by obtain ⟨a, b⟩ := T3.out.apart; exact ⟨by omega, by omega⟩)
      have T3a := Lib.hid (T3.out.below hA)
      have X1_3a := Lib.hid (X1_3.out.below hA)
      have X2_3a := Lib.hid (X2_3.out.below hA)
      rw [← hbn]
      clear hA hbn T3 X1_3 X2_3
      generalize W3.alloc (.cells #[.int .i64 o0, .int .u8 o1, .bool o2] 55 (0, 0)) = W3a at *
      refine (frFree W3a pf gf 6 _ T3a.out.ts.frm).mono ?_
      rintro e W4 ⟨rfl, hb⟩
      have T4 := Lib.hid (T3a.out.below hb)
      have X1_4 := Lib.hid (X1_3a.out.below hb)
      have X2_4 := Lib.hid (X2_3a.out.below hb)
      have X3_4 := Lib.hid (X3.out.below hb)
      clear hb T3a X1_3a X2_3a X3
      obtain ⟨fr, hfr⟩ : ∃ fr : Int, fr = ((6 : Nat) : Int) - ((takenTo rs 6).length : Int) := ⟨_, rfl⟩
      rw [← hfr]
      have HFR := Lib.hid hfr
      have htl := takenTo_length rs 6
      have hfr0 : 0 ≤ fr := by omega
      have hfr1 : fr ≤ 6 := by omega
      clear hfr htl
      obtain ⟨z0, z1, z2⟩ := X1_4.out.cells
      go_wp2_with fail
      clear z0 z1 z2
      refine (ts_set T4.out.ts P F Y y2 hY0.1 (by omega)).mono ?_
      rintro e W5 ⟨rfl, ht, ha⟩
      have X1_5 := Lib.hid (X1_4.out.agr ha NB1.out.1 NB1.out.2)
      have X2_5 := Lib.hid (X2_4.out.agr ha N2.out.1 N2.out.2)
      have X3_5 := Lib.hid (X3_4.out.agr ha N3.out.1 N3.out.2)
      rcases K1.out.set (ent := ent) P F Y y2 hP0 hP1 (entOk_iff.2 ⟨hF0, hF1, by omega⟩) with ⟨e1, hki, e4⟩ | ⟨e1, hfull, e2, e3, e4⟩
      · rw [e1, errW_none]
        rw [e4] at ht
        have T5 := Lib.hid (T4.out.agr ht ha)
        have KA := Lib.hid hki
        have GP := Lib.hid (show getT (upd ent P.toNat (some (F, Y, y2))) P = some (F, Y, y2) by unfold getT; rw [if_pos ⟨hP0, hP1⟩, upd_same])
        have GQ := Lib.hid (show getT (upd ent P.toNat (some (F, Y, y2))) Q = oq by rw [← OQ.out.1]; unfold getT; rw [if_pos ⟨hQ0, hQ1⟩, if_pos ⟨hQ0, hQ1⟩, upd_other _ _ _ (by have := NQ.out; omega)])
        clear ht ha e1 e4 hki T4
        go_wp2_with fail
        refine (ts_get T5.out.ts P).mono ?_
        rintro e W6 ⟨rfl, hb⟩
        rw [PP.out, errW_none, GP.out, val3, Option.isSome_some]
        have T6 := Lib.hid (T5.out.below hb)
        have X1_6 := Lib.hid (X1_5.out.below hb)
        have X2_6 := Lib.hid (X2_5.out.below hb)
        have X3_6 := Lib.hid (X3_5.out.below hb)
        clear hb T5 X1_5 X2_5 X3_5
        go_wp2_with fail
        have hA : Below W6.heap.size W6 (W6.alloc (.cells #[.int .i64 F, .int .u8 Y, .bool y2] 55 (0, 0))) := (Below.refl _ _).alloc (Nat.le_refl _) _
        obtain ⟨b6, hbn⟩ : ∃ b, b = W6.heap.size := ⟨_, rfl⟩
        have X6 := Lib.hid (show Bx (W6.alloc (.cells #[.int .i64 F, .int .u8 Y, .bool y2] 55 (0, 0))) b6 (.int .i64 F) (.int .u8 Y) (.bool y2) by rw [hbn]; exact Bx.new W6 _ _ _)
        have N6 := Lib.hid (show b6 ≠ gf ∧ b6 ≠ gm by obtain ⟨a, b⟩ := T6.out.apart; exact ⟨by omega, by omega⟩)
        have T6a := Lib.hid (T6.out.below hA)
        have X1_6a := Lib.hid (X1_6.out.below hA)
        have X2_6a := Lib.hid (X2_6.out.below hA)
        have X3_6a := Lib.hid (X3_6.out.below hA)
        rw [← hbn]
        clear hA hbn T6 X1_6 X2_6 X3_6
        generalize W6.alloc (.cells #[.int .i64 F, .int .u8 Y, .bool y2] 55 (0, 0)) = W6a at *
        refine (ts_get T6a.out.ts Q).mono ?_
        rintro e W7 ⟨rfl, hb⟩
        rw [PQ.out, errW_none, GQ.out, OQ.out.2.1, OQ.out.2.2]
        have T7 := Lib.hid (T6a.out.below hb)
        have X1_7 := Lib.hid (X1_6a.out.below hb)
        have X2_7 := Lib.hid (X2_6a.out.below hb)
        have X3_7 := Lib.hid (X3_6a.out.below hb)
        have X6_7 := Lib.hid (X6.out.below hb)
        clear hb T6a X1_6a X2_6a X3_6a X6
        obtain ⟨X1z0, X1z1, X1z2⟩ := X1_7.out.cells
        have X1lt := X1_7.out.lt
        obtain ⟨X2z0, X2z1, X2z2⟩ := X2_7.out.cells
        have X2lt := X2_7.out.lt
        obtain ⟨X3z0, X3z1, X3z2⟩ := X3_7.out.cells
        have X3lt := X3_7.out.lt
        obtain ⟨X6z0, X6z1, X6z2⟩ := X6_7.out.cells
        have X6lt := X6_7.out.lt
        have q6 := HQ.out 0 _ rfl W7 T7.out.bel
        rw [Nat.add_zero] at q6
        have q6lt := Go.block_lt_of_cell q6
        go_wp2_with fail
        · have hA : Below W7.heap.size W7 (W7.alloc (.cells #[.int .i64 a0, .int .u8 a1, .bool a2] 55 (0, 0))) := (Below.refl _ _).alloc (Nat.le_refl _) _
          have TA := Lib.hid (T7.out.below hA)
          clear hA
          refine (ts_clear TA.out.ts P).mono ?_
          rintro e WB ⟨rfl, ht, ha⟩
          rw [PP.out, errW_none]
          have TB := Lib.hid (TA.out.agr ht ha)
          clear ht ha
          go_wp2_with fail
          refine (ts_get TB.out.ts P).mono ?_
          rintro e WC ⟨rfl, hb⟩
          rw [PP.out, errW_none, show getT (clrT (upd ent P.toNat (some (F, Y, y2))) P) P = none by unfold getT clrT; rw [if_pos ⟨hP0, hP1⟩, if_pos ⟨hP0, hP1⟩, upd_same], val3, Option.isSome_none]
          have TC := Lib.hid (TB.out.below hb)
          clear hb
          go_wp2_with fail
          have hA2 : Below WC.heap.size WC (WC.alloc (.cells #[.int .i64 0, .int .u8 0, .bool false] 55 (0, 0))) := (Below.refl _ _).alloc (Nat.le_refl _) _
          go_roundg (25 - (i + 1))
          case measure => omega
          case rel => exact ⟨i + 1, _, _, _, by go_num, by omega, by omega, TC.out.below hA2, KA.out⟩
        · have hA : Below W7.heap.size W7 (W7.alloc (.cells #[.int .i64 a0, .int .u8 a1, .bool a2] 55 (0, 0))) := (Below.refl _ _).alloc (Nat.le_refl _) _
          have TA := Lib.hid (T7.out.below hA)
          clear hA
          go_roundg (25 - (i + 1))
          case measure => omega
          case rel => exact ⟨i + 1, _, _, _, by go_num, by omega, by omega, TA.out, KA.out⟩
      · rw [e1, errW_some]
        rw [e2, e3, e4] at ht
        have T5 := Lib.hid (T4.out.agr ht ha)
        have HF := Lib.hid (show fr = 0 by rw [HFR.out, hfull]; rfl)
        clear ht ha e1 e2 e3 e4 hfull T4
        go_wp2_with fail
        refine (ts_get T5.out.ts P).mono ?_
        rintro e W8 ⟨rfl, hb⟩
        rw [PP.out, errW_none, OP.out.1, OP.out.2.1, OP.out.2.2]
        have T8 := Lib.hid (T5.out.below hb)
        have X1_8 := Lib.hid (X1_5.out.below hb)
        have X2_8 := Lib.hid (X2_5.out.below hb)
        have X3_8 := Lib.hid (X3_5.out.below hb)
        clear hb T5 X1_5 X2_5 X3_5
        go_wp2_with fail
        have hA : Below W8.heap.size W8 (W8.alloc (.cells #[.int .i64 o0, .int .u8 o1, .bool o2] 55 (0, 0))) := (Below.refl _ _).alloc (Nat.le_refl _) _
        obtain ⟨b8, hbn⟩ : ∃ b, b = W8.heap.size := ⟨_, rfl⟩
        have X8 := Lib.hid (show Bx (W8.alloc (.cells #[.int .i64 o0, .int .u8 o1, .bool o2] 55 (0, 0))) b8 (.int .i64 o0) (.int .u8 o1) (.bool o2) by rw [hbn]; exact Bx.new W8 _ _ _)
        have N8 := Lib.hid (show b8 ≠ gf ∧ b8 ≠ gm by obtain ⟨a, b⟩ := T8.out.apart; exact ⟨by omega, by omega⟩)
        have T8a := Lib.hid (T8.out.below hA)
        have X1_8a := Lib.hid (X1_8.out.below hA)
        have X2_8a := Lib.hid (X2_8.out.below hA)
        have X3_8a := Lib.hid (X3_8.out.below hA)
        rw [← hbn]
        clear hA hbn T8 X1_8 X2_8 X3_8
        generalize W8.alloc (.cells #[.int .i64 o0, .int .u8 o1, .bool o2] 55 (0, 0)) = W8a at *
        refine (ts_get T8a.out.ts Q).mono ?_
        rintro e W9 ⟨rfl, hb⟩
        rw [PQ.out, errW_none, OQ.out.1, OQ.out.2.1, OQ.out.2.2]
        have T9 := Lib.hid (T8a.out.below hb)
        have X1_9 := Lib.hid (X1_8a.out.below hb)
        have X2_9 := Lib.hid (X2_8a.out.below hb)
        have X3_9 := Lib.hid (X3_8a.out.below hb)
        have X8_9 := Lib.hid (X8.out.below hb)
        clear hb T8a X1_8a X2_8a X3_8a X8
        obtain ⟨X1z0, X1z1, X1z2⟩ := X1_9.out.cells
        have X1lt := X1_9.out.lt
        obtain ⟨X2z0, X2z1, X2z2⟩ := X2_9.out.cells
        have X2lt := X2_9.out.lt
        obtain ⟨X3z0, X3z1, X3z2⟩ := X3_9.out.cells
        have X3lt := X3_9.out.lt
        obtain ⟨X8z0, X8z1, X8z2⟩ := X8_9.out.cells
        have X8lt := X8_9.out.lt
        have hfr := HF.out
        go_wp2_with fail
        have hA : Below W9.heap.size W9 (W9.alloc (.cells #[.int .i64 a0, .int .u8 a1, .bool a2] 55 (0, 0))) := (Below.refl _ _).alloc (Nat.le_refl _) _
        have TA := Lib.hid (T9.out.below hA)
        have Y3 := Lib.hid (X3_9.out.below hA)
        have Y4 := Lib.hid (X8_9.out.below hA)
        clear hA X1z0 X1z1 X1z2 X1lt X2z0 X2z1 X2z2 X2lt X3z0 X3z1 X3z2 X3lt X8z0 X8z1 X8z2 X8lt
        refine (num_calls (some 12) _ (HE.out.below' TA.out.bel)).mono ?_
        rintro e WB ⟨rfl, hb⟩
        rw [show numOf (some 12) = 12 from rfl]
        have TB := Lib.hid (TA.out.below hb)
        obtain ⟨u0, u1, u2⟩ := (Y3.out.below hb).cells
        obtain ⟨v0, v1, v2⟩ := (Y4.out.below hb).cells
        clear hb
        go_wp2_with fail
        go_roundg (25 - (i + 1))
        case measure => omega
        case rel => exact ⟨i + 1, _, _, _, by go_num, by omega, by omega, TB.out, K1.out⟩
end Go.Proofs.YtikmanafbkiikaaDoor
