/- The walk of FamilyKeeps. -/
import Derived.Test.YtepjcfhkbcchmaaFamKeepsW
namespace Go.Proofs.Ytepjcfhkbcchmaa
set_option linter.unusedSimpArgs false
set_option linter.unusedVariables false
open Go Go.RowKit Go.Proofs.YtepjcfhkbcchmaaW.PrintWords Go.Proofs.YtepjcfhkbcchmaaW.PrintMore Go.Proofs.Ytepjcfhkbcchmaa.RowK Go.Proofs.Ytepjcfhkbcchmaa.XFam Go.Proofs.Ytepjcfhkbcchmaa.FamEv

theorem xerr_some (c : Int) : XFam.errW (some c) = .iface 44 (.int .i64 c) := rfl
theorem xerr_none : XFam.errW none = .nilIface := rfl
set_option maxHeartbeats 40000000 in
set_option maxRecDepth 100000 in
theorem familyKeeps (A0 : Option Addr) (c0 : Nat) (l : List Kinds.S30) (w : World) (hC : Kd.C Kinds.k30 w A0 l.length l) :
    Calls Try.prog 3 #[.slice A0 l.length c0] w fun e w' => e = .returned (.bool true) ∧ Below w.heap.size w w' := by
  obtain ⟨i0, hi, hz0, hz1, hz2⟩ := info_parts boolInfo
  have HC := Lib.hid hC
  have hmx := Kd.C_max hC
  clear hC
  go_enter Try.func3, Try.ntmps3
  have hmk := fun W : World => Go.run_make (P := Try.prog) W 27 4 i0 (.bool false) Try.underlying27 hi hz0 .i64 .i64 100 100 (by omega) (Int.le_refl _) (by rw [hz2]; omega) (by omega)
  rw [hundred hz1] at hmk
  obtain ⟨MM, hM⟩ : ∃ M, M = ((List.replicate 100 false).map Value.bool).toArray := ⟨_, rfl⟩
  rw [← hM] at hmk
  have HM := Lib.hid hM
  clear hM hi hz0 hz1 hz2
  go_upto_region 2 with (fail)
  obtain ⟨W0, hW0⟩ : ∃ W0, W0 = w.alloc (.cells #[.int .i64 1, .int .i64 0, .bool false, .int .u32 0] 25 (0, 0)) := ⟨_, rfl⟩
  obtain ⟨g0, hg0⟩ : ∃ g, g = w.heap.size := ⟨_, rfl⟩
  have B0 : Below w.heap.size w W0 := by rw [hW0]; exact (Below.refl _ w).alloc (Nat.le_refl _) _
  have C0 : Kd.C k25 W0 (some ⟨g0, 0, none⟩) [oneM].length [oneM] := by rw [hW0, hg0]; exact one_C w
  have z0 : W0.heap.size = g0 + 1 := by rw [hW0, hg0]; simp
  rw [← hW0, ← hg0]
  have HB0 := Lib.hid B0
  have HC0 := Lib.hid C0
  have HZ0 := Lib.hid z0
  have HG0 := Lib.hid hg0
  clear hW0 hg0 B0 C0 z0
  go_cut [4, 5] (fun s4 s5 W => ∃ gt go : Nat, s4 = .slice (some ⟨gt, 0, none⟩) 100 100 ∧ s5 = .slice (some ⟨go, 0, none⟩) 100 100 ∧ Aside (FW w W gt go (List.replicate 100 false) (List.replicate 100 false) (some ⟨g0, 0, none⟩) 1 [oneM]))
  case first =>
    go_region_with (fail)
    all_goals go_wp2_with fail
    all_goals go_meet
    · exact ⟨_, _, rfl, rfl, (FW.two HB0.out HC0.out HM.out).1⟩
    · exact ⟨_, _, rfl, rfl, (FW.two HB0.out HC0.out HM.out).2⟩
  case rest =>
    obtain ⟨gt, go, rfl, rfl, F0⟩ := hcut
    have q0 := F0.out.tc 1 false (by simp) ⟨wc, Below.refl _ _⟩
    simp only at q0
    have f0 := F0.out.tf 1
    clear hmk
    go_wp2_with fail
    have F1 := Lib.hid (F0.out.putT 1 true)
    clear q0 f0
    go_loopg [3, 6] 40 (fun gg s3 s6 wr => ∃ (i : Nat) (A : Option Addr) (c : Nat) (ml : List M) (th ov : List Bool), s6 = .int .i64 (i : Nat) ∧ s3 = .slice A ml.length c ∧ i + gg = 40 ∧ i ≤ l.length ∧ Aside (FW w wr gt go th ov A c ml ∧ FI ml th ov))
    case atStart => exact ⟨0, _, _, [oneM], _, _, rfl, rfl, rfl, Nat.zero_le _, F1.out, FI.new⟩
    case round =>
      obtain ⟨i, A, c, ml, th, ov, rfl, rfl, hig, hil, S⟩ := hrel
      clear F0 F1
      have hIN : ¬ (i < l.length ∧ i < 40) ∨ (i < l.length ∧ i < 40) := by omega
      rcases hIN with hout | ⟨hil', hi40⟩
      · have HO := Lib.hid hout
        clear hout
        by_cases hil2 : i < l.length
        · have hili : (i : Int) < (l.length : Int) := by omega
          have hi40i : ¬ (i : Int) < 40 := by have := HO.out; omega
          go_wp2_with fail
          refine (halterlaw24_sure.calls 100 true _ sure_ev).mono ?_
          rintro e W9 ⟨rfl, hb9⟩
          have B9 := Lib.hid (S.out.1.bel.trans (hb9.mono S.out.1.bel.size))
          clear hb9
          go_wp2
          go_ret
          exact ⟨rfl, B9.out⟩
        · have hili : ¬ (i : Int) < (l.length : Int) := by omega
          go_wp2_with fail
          refine (halterlaw24_sure.calls 100 true _ sure_ev).mono ?_
          rintro e W9 ⟨rfl, hb9⟩
          have B9 := Lib.hid (S.out.1.bel.trans (hb9.mono S.out.1.bel.size))
          clear hb9
          go_wp2
          go_ret
          exact ⟨rfl, B9.out⟩
      · have hili : (i : Int) < (l.length : Int) := by omega
        have hi40i : (i : Int) < 40 := by omega
        obtain ⟨bk, off, rfl⟩ := C_addr HC.out (by omega) (by decide)
        obtain ⟨ad, cs, had, hcl, hK, hcell⟩ := Kd.C_get HC.out Kinds.z30 (i : Int) (by omega) (by omega)
        obtain ⟨x, hx⟩ : ∃ x, x = l.getD (i : Int).toNat Kinds.z30 := ⟨_, rfl⟩
        rw [← hx] at hK
        obtain rfl := Kinds.k30_open hK
        obtain rfl := Option.some.inj had
        obtain ⟨x0, x1, x2⟩ := x
        have hce : ∀ j u, [Value.int .i64 x0, .int .i64 x1, .int .i64 x2][j]? = some u → ∀ W, Below w.heap.size w W → W.cell? ⟨bk, off + i * 3 + j, none⟩ = some u := fun j u hj W hb => by
          have h1 := hcell j u hj
          rw [Addr.add_lit] at h1
          have h2 : w.cell? ⟨bk, off + i * 3 + j, none⟩ = some u := by rwa [Nat.add_assoc]
          exact (hb.cell (p := ⟨bk, off + i * 3 + j, none⟩) (Go.block_lt_of_cell h2)).trans h2
        have HQ := Lib.hid hce
        obtain ⟨o1, hp', ho1⟩ := mod_u x1 20 (by decide) (by decide)
        obtain ⟨o2, hq', ho2⟩ := mod_u x2 20 (by decide) (by decide)
        obtain ⟨kn, hk', hk4⟩ := mod_u x0 4 (by decide) (by decide)
        have hp1 : wrap64 ((IntKind.u64.wrap x1).tmod 20) = (o1 : Int) := hp'
        have hp2 : wrap64 ((IntKind.u64.wrap x2).tmod 20) = (o2 : Int) := hq'
        have HK := Lib.hid (show wrap64 ((IntKind.u64.wrap x0).tmod 4) = (kn : Int) from hk')
        have q1 : ∀ n : Later wr, n.1.cell? ⟨bk, off + i * 3 + 1, none⟩ = some (.int .i64 x1) := fun n => HQ.out 1 _ rfl _ (S.out.1.bel.trans (n.2.mono S.out.1.bel.size))
        have q2 : ∀ n : Later wr, n.1.cell? ⟨bk, off + i * 3 + 2, none⟩ = some (.int .i64 x2) := fun n => HQ.out 2 _ rfl _ (S.out.1.bel.trans (n.2.mono S.out.1.bel.size))
        clear hcell hcl hK hx hce had hp' hq' hk'
        go_wp2_with fail
        refine wp_region_later (w := wr) (by kernel_rfl) (by kernel_rfl) ?_
        repeat (go_big_quiet_step (fail))
        refine wpQuiet_nil ?_
        intro W1 hw'
        have hB1 : Below wr.heap.size wr W1 := by obtain ⟨n, rfl⟩ := hw'; exact n.2
        have F1 := Lib.hid (S.out.1.below hB1)
        have I1 := Lib.hid S.out.2
        obtain ⟨p, hp⟩ : ∃ p : Nat, 1 + (o1 : Int) = (p : Int) := ⟨1 + o1, by omega⟩
        obtain ⟨q, hq⟩ : ∃ q : Nat, 1 + (o2 : Int) = (q : Int) := ⟨1 + o2, by omega⟩
        have hpb : 1 ≤ p ∧ p ≤ 20 := by omega
        have hqb : 1 ≤ q ∧ q ≤ 20 := by omega
        rw [hp, hq]
        clear hp hq
        have q3 := HQ.out 0 _ rfl W1 F1.out.bel
        rw [Nat.add_zero] at q3
        have hkk := HK.out
        clear hw' hB1 q1 q2
        go_upto_block 2 with (fail)
        clear hp1 hp2 q3
        go_cut [9, 10, 58] (fun s9 s10 s58 W => ∃ (A' : Option Addr) (c' : Nat) (ml' : List M) (th' ov' : List Bool) (er : Option Int), s10 = errW er ∧ ((er = none ∧ s9 = .slice A' ml'.length c') ∨ (er.isSome = true ∧ A' = A ∧ c' = c ∧ ml' = ml)) ∧ Aside (FW w W gt go th' ov' A' c' ml' ∧ FI ml' th' ov'))
        case first =>
          have hkind : kn = 2 ∨ kn = 3 ∨ (kn ≠ 2 ∧ kn ≠ 3) := by omega
          rcases hkind with rfl | rfl | ⟨hk2, hk3⟩
          · as_aux_lemma =>
              cases hx : fnd ml (p : Int) with
              | none =>
                have hT : (fnd ml (p : Int)).isSome = false := by rw [hx]; rfl
                have hZ : isZ ml (p : Int) = false := by unfold isZ; rw [hx]
                have hal : aliveP ml (p : Int) = false := by unfold aliveP; rw [hx]
                go_wp2_with fail
                refine (family_Children.calls 100 A c ml (p : Int) (kidsP ml p) _ F1.out.row.C F1.out.lc (kids_yes I1.out.ok (by decide) p)).mono ?_
                rintro e W2 ⟨v2, rfl, hR2, hb2⟩
                obtain ⟨A2, c2, rfl, hc2, hC2⟩ := Kd.R_reads hR2
                have F2 := Lib.hid (F1.out.below hb2)
                have C2 := Lib.hid hC2
                have hkl := kids_le ml p
                have hm16 := I1.out.base.len
                clear hR2 hb2 hC2
                go_wp2_with fail
                refine (family_Exit.calls 100 A c ml (p : Int) 7 [] (some 3) W2 F2.out.row.C F2.out.lc (by rw [exit_yes I1.out.ok (by decide), if_neg (by rw [hal]; decide)])).mono ?_
                rintro e W3 ⟨v3, rfl, hR3, hb3⟩
                obtain ⟨A3, c3, rfl, _, _⟩ := Kd.R_reads hR3
                first | rw [xerr_some] | rw [errW_some]
                have F3 := Lib.hid (F2.out.below hb3)
                have qt : ∀ n : Later W3, n.1.cell? ⟨gt, p, none⟩ = some (.bool false) := F3.out.tc p _ ((I1.out.th p (by omega)).trans (by rw [hT]))
                have qo : ∀ n : Later W3, n.1.cell? ⟨go, p, none⟩ = some (.bool false) := F3.out.oc p _ ((I1.out.ov p (by omega)).trans (by rw [hZ]))
                clear hR3 hb3 C2
                go_wp2_with fail
                refine wp_region_later (w := W3) (by kernel_rfl) (by kernel_rfl) ?_
                repeat (go_big_quiet_step (fail))
                refine wpQuiet_nil ?_
                intro W4 hw'
                have hB : Below W3.heap.size W3 W4 := by obtain ⟨n, rfl⟩ := hw'; exact n.2
                have F4 := Lib.hid (F3.out.below hB)
                have qo4 : W4.cell? ⟨go, p, none⟩ = some (.bool false) := by obtain ⟨n, rfl⟩ := hw'; exact qo n
                have fo4 := F4.out.of p
                have hset := set_same ((I1.out.ov p (by omega)).trans (by rw [hZ]))
                have HSET := Lib.hid hset
                clear hw' hB qt qo hset
                go_wp2_with fail
                go_loopg [12] 1 (fun gg s12 wr3 => s12 = .int .i64 0 ∧ wr3 = W4)
                case atStart => exact ⟨rfl, rfl⟩
                case round =>
                  obtain ⟨rfl, rfl⟩ := hrel
                  have F5 := Lib.hid (F4.out.putO p false)
                  rw [HSET.out] at F5
                  by_cases hkz : 0 < (kidsP ml p).length
                  · have hkzi : 0 < ((kidsP ml p).length : Int) := by omega
                    go_wp2_with fail
                    go_meet
                    case rel => exact ⟨A, c, ml, th, ov, some 3, rfl, .inr ⟨rfl, rfl, rfl, rfl⟩, F5.out, I1.out⟩
                  · have hkzi : ¬ 0 < ((kidsP ml p).length : Int) := by omega
                    go_wp2_with fail
                    go_meet
                    case rel => exact ⟨A, c, ml, th, ov, some 3, rfl, .inr ⟨rfl, rfl, rfl, rfl⟩, F5.out, I1.out⟩
              | some x =>
                have hT : (fnd ml (p : Int)).isSome = true := by rw [hx]; rfl
                cases hz : x.f2 with
                | true =>
                  have hZ : isZ ml (p : Int) = true := by unfold isZ; rw [hx]; exact hz
                  have hal : aliveP ml (p : Int) = false := by unfold aliveP; rw [hx]; simp [hz]
                  go_wp2_with fail
                  refine (family_Children.calls 100 A c ml (p : Int) (kidsP ml p) _ F1.out.row.C F1.out.lc (kids_yes I1.out.ok (by decide) p)).mono ?_
                  rintro e W2 ⟨v2, rfl, hR2, hb2⟩
                  obtain ⟨A2, c2, rfl, hc2, hC2⟩ := Kd.R_reads hR2
                  have F2 := Lib.hid (F1.out.below hb2)
                  have C2 := Lib.hid hC2
                  have hkl := kids_le ml p
                  have hm16 := I1.out.base.len
                  clear hR2 hb2 hC2
                  go_wp2_with fail
                  refine (family_Exit.calls 100 A c ml (p : Int) 7 [] (some 3) W2 F2.out.row.C F2.out.lc (by rw [exit_yes I1.out.ok (by decide), if_neg (by rw [hal]; decide)])).mono ?_
                  rintro e W3 ⟨v3, rfl, hR3, hb3⟩
                  obtain ⟨A3, c3, rfl, _, _⟩ := Kd.R_reads hR3
                  first | rw [xerr_some] | rw [errW_some]
                  have F3 := Lib.hid (F2.out.below hb3)
                  have qt : ∀ n : Later W3, n.1.cell? ⟨gt, p, none⟩ = some (.bool true) := F3.out.tc p _ ((I1.out.th p (by omega)).trans (by rw [hT]))
                  have qo : ∀ n : Later W3, n.1.cell? ⟨go, p, none⟩ = some (.bool true) := F3.out.oc p _ ((I1.out.ov p (by omega)).trans (by rw [hZ]))
                  clear hR3 hb3 C2
                  go_wp2_with fail
                  refine wp_region_later (w := W3) (by kernel_rfl) (by kernel_rfl) ?_
                  repeat (go_big_quiet_step (fail))
                  refine wpQuiet_nil ?_
                  intro W4 hw'
                  have hB : Below W3.heap.size W3 W4 := by obtain ⟨n, rfl⟩ := hw'; exact n.2
                  have F4 := Lib.hid (F3.out.below hB)
                  have qo4 : W4.cell? ⟨go, p, none⟩ = some (.bool true) := by obtain ⟨n, rfl⟩ := hw'; exact qo n
                  have fo4 := F4.out.of p
                  have hset := set_same ((I1.out.ov p (by omega)).trans (by rw [hZ]))
                  have HSET := Lib.hid hset
                  clear hw' hB qt qo hset
                  go_wp2_with fail
                  go_loopg [12] 1 (fun gg s12 wr3 => s12 = .int .i64 0 ∧ wr3 = W4)
                  case atStart => exact ⟨rfl, rfl⟩
                  case round =>
                    obtain ⟨rfl, rfl⟩ := hrel
                    have F5 := Lib.hid (F4.out.putO p true)
                    rw [HSET.out] at F5
                    by_cases hkz : 0 < (kidsP ml p).length
                    · have hkzi : 0 < ((kidsP ml p).length : Int) := by omega
                      go_wp2_with fail
                      go_meet
                      case rel => exact ⟨A, c, ml, th, ov, some 3, rfl, .inr ⟨rfl, rfl, rfl, rfl⟩, F5.out, I1.out⟩
                    · have hkzi : ¬ 0 < ((kidsP ml p).length : Int) := by omega
                      go_wp2_with fail
                      go_meet
                      case rel => exact ⟨A, c, ml, th, ov, some 3, rfl, .inr ⟨rfl, rfl, rfl, rfl⟩, F5.out, I1.out⟩
                | false =>
                  have hZ : isZ ml (p : Int) = false := by unfold isZ; rw [hx]; exact hz
                  have hal : aliveP ml (p : Int) = true := by unfold aliveP; rw [hx]; simp [hz]
                  by_cases hp1 : p = 1
                  · subst hp1
                    have hx : fnd ml 1 = some x := hx
                    have hT : (fnd ml 1).isSome = true := hT
                    have hZ : isZ ml 1 = false := hZ
                    have hal : aliveP ml 1 = true := hal
                    go_wp2_with fail
                    refine (family_Children.calls 100 A c ml (1 : Int) (kidsP ml 1) _ F1.out.row.C F1.out.lc (kids_yes I1.out.ok (by decide) 1)).mono ?_
                    rintro e W2 ⟨v2, rfl, hR2, hb2⟩
                    obtain ⟨A2, c2, rfl, hc2, hC2⟩ := Kd.R_reads hR2
                    have F2 := Lib.hid (F1.out.below hb2)
                    have C2 := Lib.hid hC2
                    have hkl := kids_le ml 1
                    have hm16 := I1.out.base.len
                    clear hR2 hb2 hC2
                    go_wp2_with fail
                    refine (family_Exit.calls 100 A c ml (1 : Int) 7 [] (some 1) W2 F2.out.row.C F2.out.lc (by rw [exit_yes I1.out.ok (by decide), if_pos hal, if_pos rfl])).mono ?_
                    rintro e W3 ⟨v3, rfl, hR3, hb3⟩
                    obtain ⟨A3, c3, rfl, _, _⟩ := Kd.R_reads hR3
                    first | rw [xerr_some] | rw [errW_some]
                    have F3 := Lib.hid (F2.out.below hb3)
                    have qt : ∀ n : Later W3, n.1.cell? ⟨gt, 1, none⟩ = some (.bool true) := F3.out.tc 1 _ ((I1.out.th 1 (by omega)).trans (congrArg some hT))
                    have qo : ∀ n : Later W3, n.1.cell? ⟨go, 1, none⟩ = some (.bool false) := F3.out.oc 1 _ ((I1.out.ov 1 (by omega)).trans (congrArg some hZ))
                    clear hR3 hb3 C2
                    go_wp2_with fail
                    refine wp_region_later (w := W3) (by kernel_rfl) (by kernel_rfl) ?_
                    repeat (go_big_quiet_step (fail))
                    refine wpQuiet_nil ?_
                    intro W4 hw'
                    have hB : Below W3.heap.size W3 W4 := by obtain ⟨n, rfl⟩ := hw'; exact n.2
                    have F4 := Lib.hid (F3.out.below hB)
                    have qo4 : W4.cell? ⟨go, 1, none⟩ = some (.bool false) := by obtain ⟨n, rfl⟩ := hw'; exact qo n
                    have fo4 := F4.out.of 1
                    have hset := set_same ((I1.out.ov 1 (by omega)).trans (congrArg some hZ))
                    have HSET := Lib.hid hset
                    clear hw' hB qt qo hset
                    go_wp2_with fail
                    go_loopg [12] 1 (fun gg s12 wr3 => s12 = .int .i64 0 ∧ wr3 = W4)
                    case atStart => exact ⟨rfl, rfl⟩
                    case round =>
                      obtain ⟨rfl, rfl⟩ := hrel
                      have F5 := Lib.hid (F4.out.putO 1 false)
                      rw [HSET.out] at F5
                      by_cases hkz : 0 < (kidsP ml 1).length
                      · have hkzi : 0 < ((kidsP ml 1).length : Int) := by omega
                        go_wp2_with fail
                        go_meet
                        case rel => exact ⟨A, c, ml, th, ov, some 1, rfl, .inr ⟨rfl, rfl, rfl, rfl⟩, F5.out, I1.out⟩
                      · have hkzi : ¬ 0 < ((kidsP ml 1).length : Int) := by omega
                        go_wp2_with fail
                        go_meet
                        case rel => exact ⟨A, c, ml, th, ov, some 1, rfl, .inr ⟨rfl, rfl, rfl, rfl⟩, F5.out, I1.out⟩
                  · go_wp2_with fail
                    refine (family_Children.calls 100 A c ml (p : Int) (kidsP ml p) _ F1.out.row.C F1.out.lc (kids_yes I1.out.ok (by decide) p)).mono ?_
                    rintro e W2 ⟨v2, rfl, hR2, hb2⟩
                    obtain ⟨A2, c2, rfl, hc2, hC2⟩ := Kd.R_reads hR2
                    have F2 := Lib.hid (F1.out.below hb2)
                    have C2 := Lib.hid hC2
                    have hkl := kids_le ml p
                    have hm16 := I1.out.base.len
                    clear hR2 hb2 hC2
                    go_wp2_with fail
                    refine (family_Exit.calls 100 A c ml (p : Int) 7 (ml.map (exM p 7)) none W2 F2.out.row.C F2.out.lc (by rw [exit_yes I1.out.ok (by decide), if_pos hal, if_neg (by omega)])).mono ?_
                    rintro e W3 ⟨v3, rfl, hR3, hb3⟩
                    first | rw [xerr_none] | rw [errW_none]
                    obtain ⟨yl, hyl⟩ : ∃ yl, yl = ml.map (exM p 7) := ⟨_, rfl⟩
                    rw [← hyl] at hR3
                    obtain ⟨A3, c3, rfl, F3'⟩ := F2.out.got hb3 hR3
                    have F3 := Lib.hid F3'
                    have hC3 : Kd.C (Kd.int .i64) W3 A2 (kidsP ml p).length (kidsP ml p) := Kd.C_below C2.out hb3
                    have C3 := Lib.hid hC3
                    have qt : ∀ n : Later W3, n.1.cell? ⟨gt, p, none⟩ = some (.bool true) := F3.out.tc p _ ((I1.out.th p (by omega)).trans (by rw [hT]))
                    have qo : ∀ n : Later W3, n.1.cell? ⟨go, p, none⟩ = some (.bool false) := F3.out.oc p _ ((I1.out.ov p (by omega)).trans (by rw [hZ]))
                    have hi3 := I1.out.exit p 7 (by omega) (by omega) hal
                    have hkf := (kids_find I1.out.base (p : Int) 7 (by omega) (by obtain ⟨rk, hr⟩ := I1.out.rank; exact rank_self I1.out.base hr (by omega)))
                    rw [← hyl] at hi3 hkf
                    have I3 := Lib.hid hi3
                    have KF := Lib.hid hkf
                    have hp1i : ¬ (p : Int) = 1 := by omega
                    have hq1i : ((p : Int) == 1) = false := beq_false_of_ne hp1i
                    have hq2i : ((p : Int) != 1) = true := by simp [hp1i]
                    have hq3i : decide ((p : Int) = 1) = false := decide_eq_false hp1i
                    clear hR3 hb3 hC3 F3' C2 hi3 hkf hyl
                    go_wp2_with fail
                    refine wp_region_later (w := W3) (by kernel_rfl) (by kernel_rfl) ?_
                    repeat (go_big_quiet_step (fail))
                    refine wpQuiet_nil ?_
                    intro W4 hw'
                    have hB : Below W3.heap.size W3 W4 := by obtain ⟨n, rfl⟩ := hw'; exact n.2
                    have F4 := Lib.hid (F3.out.below hB)
                    have C4 := Lib.hid (Kd.C_below C3.out hB)
                    clear hw' hB qt qo C3
                    go_wp2_with fail
                    go_loopg [12] (kidsP ml p).length (fun gg s12 wr3 => ∃ j : Nat, s12 = .int .i64 (j : Nat) ∧ j + gg = (kidsP ml p).length ∧ Aside (FW w wr3 gt go th ov A3 c3 yl ∧ Below W4.heap.size W4 wr3))
                    case atStart => exact ⟨0, rfl, Nat.zero_add _, F4.out, Below.refl _ _⟩
                    case round =>
                      obtain ⟨j, rfl, hjg, S3⟩ := hrel
                      by_cases hj : j < (kidsP ml p).length
                      · have hji : (j : Int) < ((kidsP ml p).length : Int) := by omega
                        obtain ⟨bk2, off2, rfl, hcell2⟩ := int_cell C4.out j hj
                        have q5 := hcell2 wr S3.out.2
                        obtain ⟨y, hy⟩ : ∃ y, y = (kidsP ml p).getD j 0 := ⟨_, rfl⟩
                        have hym : y ∈ kidsP ml p := by
                          rw [hy, List.getD_eq_getElem?_getD, List.getElem?_eq_getElem hj, Option.getD_some]
                          exact List.getElem_mem hj
                        obtain ⟨m, hm, hm1⟩ := KF.out y hym
                        have hfind : findA yl y = (m.f0, 1, m.f2, m.f3, none) := by unfold findA; rw [hm]; simp only; rw [hm1]
                        have HF := Lib.hid ((find_yes (k := 100) I3.out.ok (by decide) y).trans (by rw [hfind]))
                        rw [← hy] at q5
                        clear hcell2 hy hym hm hm1 hfind
                        go_wp2_with fail
                        refine (family_Find.calls 100 A3 c3 yl y m.f0 1 m.f2 m.f3 none wr S3.out.1.row.C S3.out.1.lc HF.out).mono ?_
                        rintro e W6 ⟨rfl, hb6⟩
                        first | rw [xerr_none] | rw [errW_none]
                        have F6 := Lib.hid (S3.out.1.below hb6)
                        have B6 := Lib.hid (S3.out.2.trans (hb6.mono S3.out.2.size))
                        clear hb6 q5
                        go_wp2_with fail
                        have hA : Below W6.heap.size W6 (W6.alloc (.cells #[.int .i64 m.f0, .int .i64 1, .bool m.f2, .int .u32 m.f3] 25 (0, 0))) := (Below.refl _ _).alloc (Nat.le_refl _) _
                        go_roundg ((kidsP ml p).length - (j + 1))
                        case measure => omega
                        case rel => exact ⟨j + 1, by go_num, by omega, F6.out.below hA, B6.out.trans (hA.mono B6.out.size)⟩
                      · have hji : ¬ (j : Int) < ((kidsP ml p).length : Int) := by omega
                        have q6 := S3.out.1.oc p _ ((I1.out.ov p (by omega)).trans (by rw [hZ])) ⟨wr, Below.refl _ _⟩
                        simp only at q6
                        have f6 := S3.out.1.of p
                        have F7 := Lib.hid (S3.out.1.putO p true)
                        go_wp2_with fail
                        go_meet
                        case rel => exact ⟨A3, c3, yl, th, ov.set p true, none, rfl, .inl ⟨rfl, rfl⟩, F7.out, I3.out⟩
          · as_aux_lemma =>
              cases hx : fnd ml (p : Int) with
              | none =>
                have hZ : isZ ml (p : Int) = false := by unfold isZ; rw [hx]
                go_wp2_with fail
                refine (family_Reap.calls 100 A c ml (p : Int) [] (some 3) _ F1.out.row.C F1.out.lc (by rw [reap_yes I1.out.ok (by decide), hx])).mono ?_
                rintro e W3 ⟨v3, rfl, hR3, hb3⟩
                obtain ⟨A3, c3, rfl, _, _⟩ := Kd.R_reads hR3
                first | rw [xerr_some] | rw [errW_some]
                have F3 := Lib.hid (F1.out.below hb3)
                have qo : ∀ n : Later W3, n.1.cell? ⟨go, p, none⟩ = some (.bool false) := F3.out.oc p _ ((I1.out.ov p (by omega)).trans (by rw [hZ]))
                clear hR3 hb3
                go_wp2_with fail
                refine wp_region_later (w := W3) (by kernel_rfl) (by kernel_rfl) ?_
                repeat (go_big_quiet_step (fail))
                refine wpQuiet_nil ?_
                intro W4 hw'
                have hB : Below W3.heap.size W3 W4 := by obtain ⟨n, rfl⟩ := hw'; exact n.2
                have F4 := Lib.hid (F3.out.below hB)
                clear hw' hB qo
                go_wp2_with fail
                go_meet
                case rel => exact ⟨A, c, ml, th, ov, some 3, rfl, .inr ⟨rfl, rfl, rfl, rfl⟩, F4.out, I1.out⟩
              | some x =>
                by_cases hz : x.f2 = true
                · have hZ : isZ ml (p : Int) = true := by unfold isZ; rw [hx]; exact hz
                  go_wp2_with fail
                  refine (family_Reap.calls 100 A c ml (p : Int) (ml.filter (kpM p)) none _ F1.out.row.C F1.out.lc (by rw [reap_yes I1.out.ok (by decide), hx]; simp only; rw [if_pos hz])).mono ?_
                  rintro e W3 ⟨v3, rfl, hR3, hb3⟩
                  first | rw [xerr_none] | rw [errW_none]
                  obtain ⟨A3, c3, rfl, F3'⟩ := F1.out.got hb3 hR3
                  have F3 := Lib.hid F3'
                  have qo : ∀ n : Later W3, n.1.cell? ⟨go, p, none⟩ = some (.bool true) := F3.out.oc p _ ((I1.out.ov p (by omega)).trans (by rw [hZ]))
                  have I3 := Lib.hid (I1.out.reap p (by omega) hZ)
                  clear hR3 hb3 F3'
                  go_wp2_with fail
                  refine wp_region_later (w := W3) (by kernel_rfl) (by kernel_rfl) ?_
                  repeat (go_big_quiet_step (fail))
                  refine wpQuiet_nil ?_
                  intro W4 hw'
                  have hB : Below W3.heap.size W3 W4 := by obtain ⟨n, rfl⟩ := hw'; exact n.2
                  have F4 := Lib.hid (F3.out.below hB)
                  have q4 : W4.cell? ⟨go, p, none⟩ = some (.bool true) := by obtain ⟨n, rfl⟩ := hw'; exact qo n
                  have f4 := F4.out.of p
                  obtain ⟨bt0, hbt0⟩ : ∃ b, th[p]? = some b := ⟨_, I1.out.th p (by omega)⟩
                  have q5 := F4.out.tc p _ hbt0 ⟨W4, Below.refl _ _⟩
                  simp only at q5
                  have f5 := F4.out.tf p
                  have hne := F4.out.ne
                  have hne1 : ¬ gt = go := hne
                  have hne2 : ¬ go = gt := fun e => hne e.symm
                  have F5 := Lib.hid ((F4.out.putT p false).putO p false)
                  clear hw' hB qo hbt0
                  go_wp2_with fail
                  go_meet
                  case rel => exact ⟨A3, c3, ml.filter (kpM p), th.set p false, ov.set p false, none, rfl, .inl ⟨rfl, rfl⟩, F5.out, I3.out⟩
                · have hZ : isZ ml (p : Int) = false := by unfold isZ; rw [hx]; simpa using hz
                  go_wp2_with fail
                  refine (family_Reap.calls 100 A c ml (p : Int) [] (some 22) _ F1.out.row.C F1.out.lc (by rw [reap_yes I1.out.ok (by decide), hx]; simp only; rw [if_neg hz])).mono ?_
                  rintro e W3 ⟨v3, rfl, hR3, hb3⟩
                  obtain ⟨A3, c3, rfl, _, _⟩ := Kd.R_reads hR3
                  first | rw [xerr_some] | rw [errW_some]
                  have F3 := Lib.hid (F1.out.below hb3)
                  have qo : ∀ n : Later W3, n.1.cell? ⟨go, p, none⟩ = some (.bool false) := F3.out.oc p _ ((I1.out.ov p (by omega)).trans (by rw [hZ]))
                  clear hR3 hb3
                  go_wp2_with fail
                  refine wp_region_later (w := W3) (by kernel_rfl) (by kernel_rfl) ?_
                  repeat (go_big_quiet_step (fail))
                  refine wpQuiet_nil ?_
                  intro W4 hw'
                  have hB : Below W3.heap.size W3 W4 := by obtain ⟨n, rfl⟩ := hw'; exact n.2
                  have F4 := Lib.hid (F3.out.below hB)
                  clear hw' hB qo
                  go_wp2_with fail
                  go_meet
                  case rel => exact ⟨A, c, ml, th, ov, some 22, rfl, .inr ⟨rfl, rfl, rfl, rfl⟩, F4.out, I1.out⟩
          · as_aux_lemma =>
              have hk2i : ¬ (kn : Int) = 2 := by omega
              have hk3i : ¬ (kn : Int) = 3 := by omega
              cases hT : (fnd ml (p : Int)).isSome with
              | true =>
                go_wp2_with fail
                refine (family_Add.calls 100 A c ml (p : Int) (q : Int) [] (some 17) _ F1.out.row.C F1.out.lc (by rw [add_yes I1.out.ok (by decide) p q (by omega)]; unfold addA; rw [if_pos hT])).mono ?_
                rintro e W3 ⟨v3, rfl, hR3, hb3⟩
                obtain ⟨A3, c3, rfl, _, _⟩ := Kd.R_reads hR3
                first | rw [xerr_some] | rw [errW_some]
                have F3 := Lib.hid (F1.out.below hb3)
                have qt := F3.out.tc p _ ((I1.out.th p (by omega)).trans (by rw [hT])) ⟨W3, Below.refl _ _⟩
                simp only at qt
                have ft := F3.out.tf p
                have hset := set_same ((I1.out.th p (by omega)).trans (by rw [hT]))
                have F5 := Lib.hid (F3.out.putT p true)
                rw [hset] at F5
                clear hR3 hb3 hset
                go_wp2_with fail
                go_meet
                case rel => exact ⟨A, c, ml, th, ov, some 17, rfl, .inr ⟨rfl, rfl, rfl, rfl⟩, F5.out, I1.out⟩
              | false =>
                cases hal : aliveP ml (q : Int) with
                | false =>
                  go_wp2_with fail
                  refine (family_Add.calls 100 A c ml (p : Int) (q : Int) [] (some 3) _ F1.out.row.C F1.out.lc (by rw [add_yes I1.out.ok (by decide) p q (by omega)]; unfold addA; rw [hT, if_neg (show ¬ (false = true) by decide), hal, if_neg (show ¬ (false = true) by decide)])).mono ?_
                  rintro e W3 ⟨v3, rfl, hR3, hb3⟩
                  obtain ⟨A3, c3, rfl, _, _⟩ := Kd.R_reads hR3
                  first | rw [xerr_some] | rw [errW_some]
                  have F3 := Lib.hid (F1.out.below hb3)
                  have qt := F3.out.tc p _ ((I1.out.th p (by omega)).trans (by rw [hT])) ⟨W3, Below.refl _ _⟩
                  simp only at qt
                  have ft := F3.out.tf p
                  have hset := set_same ((I1.out.th p (by omega)).trans (by rw [hT]))
                  have F5 := Lib.hid (F3.out.putT p false)
                  rw [hset] at F5
                  clear hR3 hb3 hset
                  go_wp2_with fail
                  go_meet
                  case rel => exact ⟨A, c, ml, th, ov, some 3, rfl, .inr ⟨rfl, rfl, rfl, rfl⟩, F5.out, I1.out⟩
                | true =>
                  by_cases h16 : 16 ≤ ml.length
                  · go_wp2_with fail
                    refine (family_Add.calls 100 A c ml (p : Int) (q : Int) [] (some 11) _ F1.out.row.C F1.out.lc (by rw [add_yes I1.out.ok (by decide) p q (by omega)]; unfold addA; rw [hT, if_neg (show ¬ (false = true) by decide), if_pos hal, if_pos h16])).mono ?_
                    rintro e W3 ⟨v3, rfl, hR3, hb3⟩
                    obtain ⟨A3, c3, rfl, _, _⟩ := Kd.R_reads hR3
                    first | rw [xerr_some] | rw [errW_some]
                    have F3 := Lib.hid (F1.out.below hb3)
                    have qt := F3.out.tc p _ ((I1.out.th p (by omega)).trans (by rw [hT])) ⟨W3, Below.refl _ _⟩
                    simp only at qt
                    have ft := F3.out.tf p
                    have hset := set_same ((I1.out.th p (by omega)).trans (by rw [hT]))
                    have F5 := Lib.hid (F3.out.putT p false)
                    rw [hset] at F5
                    clear hR3 hb3 hset
                    go_wp2_with fail
                    go_meet
                    case rel => exact ⟨A, c, ml, th, ov, some 11, rfl, .inr ⟨rfl, rfl, rfl, rfl⟩, F5.out, I1.out⟩
                  · obtain ⟨y, hy, hyz⟩ := alive_some hal
                    have hn : fnd ml (p : Int) = none := by cases e : fnd ml (p : Int) with | none => rfl | some _ => rw [e] at hT; cases hT
                    go_wp2_with fail
                    refine (family_Add.calls 100 A c ml (p : Int) (q : Int) (srt (ml ++ [⟨p, q, false, 0⟩])) none _ F1.out.row.C F1.out.lc (by rw [add_yes I1.out.ok (by decide) p q (by omega), addA_ok hT hal (by omega)])).mono ?_
                    rintro e W3 ⟨v3, rfl, hR3, hb3⟩
                    first | rw [xerr_none] | rw [errW_none]
                    obtain ⟨A3, c3, rfl, F3'⟩ := F1.out.got hb3 hR3
                    have F3 := Lib.hid F3'
                    have qt := F3.out.tc p _ ((I1.out.th p (by omega)).trans (by rw [hT])) ⟨W3, Below.refl _ _⟩
                    have qq := F3.out.tc q true ((I1.out.th q (by omega)).trans (congrArg (fun o : Option M => some o.isSome) hy)) ⟨W3, Below.refl _ _⟩
                    have hzq : isZ ml (q : Int) = false := by unfold isZ; rw [hy]; exact hyz
                    have qz := F3.out.oc q false ((I1.out.ov q (by omega)).trans (congrArg some hzq)) ⟨W3, Below.refl _ _⟩
                    simp only at qt qq qz
                    have ft := F3.out.tf p
                    have I3 := Lib.hid (I1.out.add p q (by omega) (by omega) hn hal)
                    have F5 := Lib.hid (F3.out.putT p true)
                    have hnl : (srt (ml ++ [(⟨p, q, false, 0⟩ : M)])).length ≤ 17 := by rw [srt_len, List.length_append]; have := I1.out.base.len; simp; omega
                    clear hR3 hb3 F3' hzq
                    go_wp2_with fail
                    go_meet
                    case rel => exact ⟨A3, c3, srt (ml ++ [⟨p, q, false, 0⟩]), th.set p true, ov, none, rfl, .inl ⟨rfl, rfl⟩, F5.out, I3.out⟩
        case rest =>
          obtain ⟨A', c', ml', th', ov', er, rfl, hor, FF⟩ := hcut
          rcases hor with ⟨rfl, rfl⟩ | ⟨her, rfl, rfl, rfl⟩
          · as_aux_lemma =>
              first | rw [xerr_none] | rw [errW_none]
              go_wp2_with fail
              go_loopg [15, 16] 99 (fun gg s15 s16 wr2 => ∃ j : Nat, s16 = .int .i64 (j : Nat) ∧ 1 ≤ j ∧ j + gg = 100 ∧ s15 = .int .i64 (cntTo ml' j : Nat) ∧ wr2 = wc)
              case atStart => exact ⟨1, rfl, Nat.le_refl _, rfl, by rw [cntTo_one FF.out.2.base]; rfl, rfl⟩
              case round =>
                obtain ⟨j, rfl, hj1, hjg, rfl, rfl⟩ := hrel
                have hcl := cntTo_le ml' j
                by_cases hj : j < 100
                · have hji : (j : Int) < 100 := by omega
                  obtain ⟨b, hb⟩ : ∃ b, (fnd ml' (j : Int)).isSome = b := ⟨_, rfl⟩
                  have q0 : wr.cell? ⟨gt, j, none⟩ = some (.bool b) := (FF.out.1.tc j _ (FF.out.2.th j hj) ⟨wr, Below.refl _ _⟩).trans (by rw [hb])
                  have hs := cntTo_succ ml' j
                  rw [hb] at hs
                  have HS := Lib.hid hs
                  clear hb hs
                  cases b with
                  | true =>
                    have HS1 := Lib.hid (show cntTo ml' (j + 1) = cntTo ml' j + 1 by have h := HS.out; simpa using h)
                    go_wp2_with fail
                    go_roundg (99 - j)
                    case measure => omega
                    case rel => exact ⟨j + 1, by go_num, by omega, by omega, by rw [HS1.out]; go_num, rfl⟩
                  | false =>
                    have HS1 := Lib.hid (show cntTo ml' (j + 1) = cntTo ml' j by have h := HS.out; simpa using h)
                    go_wp2_with fail
                    go_roundg (99 - j)
                    case measure => omega
                    case rel => exact ⟨j + 1, by go_num, by omega, by omega, by rw [HS1.out], rfl⟩
                · have hji : ¬ (j : Int) < 100 := by omega
                  obtain rfl : j = 100 := by omega
                  have hall := cntTo_all FF.out.2.base
                  rw [hall]
                  have hm16 := FF.out.2.base.len
                  clear hcl hall
                  go_wp2_with fail
                  refine (family_Check.calls 100 A' c' ml' none wr FF.out.1.row.C FF.out.1.lc (check_yes FF.out.2.ok (by decide))).mono ?_
                  rintro e W3 ⟨rfl, hb3⟩
                  first | rw [xerr_none] | rw [errW_none]
                  have F3 := Lib.hid (FF.out.1.below hb3)
                  clear hb3
                  go_wp2_with fail
                  go_roundg (39 - i)
                  case measure => omega
                  case rel => exact ⟨i + 1, A', c', ml', th', ov', by go_num, rfl, by omega, by omega, F3.out, FF.out.2⟩
          · as_aux_lemma =>
              obtain ⟨z, rfl⟩ := Option.isSome_iff_exists.1 her
              first | rw [xerr_some] | rw [errW_some]
              clear her
              go_wp2_with fail
              go_loopg [15, 16] 99 (fun gg s15 s16 wr2 => ∃ j : Nat, s16 = .int .i64 (j : Nat) ∧ 1 ≤ j ∧ j + gg = 100 ∧ s15 = .int .i64 (cntTo ml' j : Nat) ∧ wr2 = wc)
              case atStart => exact ⟨1, rfl, Nat.le_refl _, rfl, by rw [cntTo_one FF.out.2.base]; rfl, rfl⟩
              case round =>
                obtain ⟨j, rfl, hj1, hjg, rfl, rfl⟩ := hrel
                have hcl := cntTo_le ml' j
                by_cases hj : j < 100
                · have hji : (j : Int) < 100 := by omega
                  obtain ⟨b, hb⟩ : ∃ b, (fnd ml' (j : Int)).isSome = b := ⟨_, rfl⟩
                  have q0 : wr.cell? ⟨gt, j, none⟩ = some (.bool b) := (FF.out.1.tc j _ (FF.out.2.th j hj) ⟨wr, Below.refl _ _⟩).trans (by rw [hb])
                  have hs := cntTo_succ ml' j
                  rw [hb] at hs
                  have HS := Lib.hid hs
                  clear hb hs
                  cases b with
                  | true =>
                    have HS1 := Lib.hid (show cntTo ml' (j + 1) = cntTo ml' j + 1 by have h := HS.out; simpa using h)
                    go_wp2_with fail
                    go_roundg (99 - j)
                    case measure => omega
                    case rel => exact ⟨j + 1, by go_num, by omega, by omega, by rw [HS1.out]; go_num, rfl⟩
                  | false =>
                    have HS1 := Lib.hid (show cntTo ml' (j + 1) = cntTo ml' j by have h := HS.out; simpa using h)
                    go_wp2_with fail
                    go_roundg (99 - j)
                    case measure => omega
                    case rel => exact ⟨j + 1, by go_num, by omega, by omega, by rw [HS1.out], rfl⟩
                · have hji : ¬ (j : Int) < 100 := by omega
                  obtain rfl : j = 100 := by omega
                  have hall := cntTo_all FF.out.2.base
                  rw [hall]
                  have hm16 := FF.out.2.base.len
                  clear hcl hall
                  go_wp2_with fail
                  refine (family_Check.calls 100 A' c' ml' none wr FF.out.1.row.C FF.out.1.lc (check_yes FF.out.2.ok (by decide))).mono ?_
                  rintro e W3 ⟨rfl, hb3⟩
                  first | rw [xerr_none] | rw [errW_none]
                  have F3 := Lib.hid (FF.out.1.below hb3)
                  clear hb3
                  go_wp2_with fail
                  go_roundg (39 - i)
                  case measure => omega
                  case rel => exact ⟨i + 1, A', c', ml', th', ov', by go_num, rfl, by omega, by omega, F3.out, FF.out.2⟩
end Go.Proofs.Ytepjcfhkbcchmaa
