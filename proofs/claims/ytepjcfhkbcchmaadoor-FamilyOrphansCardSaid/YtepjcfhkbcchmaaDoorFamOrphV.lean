/- The walk of FamilyOrphans. -/
import Derived.Test.YtepjcfhkbcchmaaDoorFamOrph
import Derived.Test.YtepjcfhkbcchmaaDoorNum24
import Derived.Test.YtepjcfhkbcchmaaDoorLawW
namespace Go.Proofs.YtepjcfhkbcchmaaDoor
set_option linter.unusedSimpArgs false
set_option linter.unusedVariables false
open Go Go.RowKit Go.Proofs.YtepjcfhkbcchmaaDoorW.PrintWords Go.Proofs.YtepjcfhkbcchmaaDoorW.PrintMore Go.Proofs.YtepjcfhkbcchmaaDoor.RowK Go.Proofs.YtepjcfhkbcchmaaDoor.XFam Go.Proofs.YtepjcfhkbcchmaaDoor.FamEv

theorem xerr_some (c : Int) : XFam.errW (some c) = .iface 110 (.int .i64 c) := rfl
theorem xerr_none : XFam.errW none = .nilIface := rfl
/-- A member's cells, in any world behind. -/
theorem mem_cells {w : World} {A : Option Addr} {l : List M} (h : Kd.C k57 w A l.length l) (hl : 0 < l.length) : ∃ bk off, A = some ⟨bk, off, none⟩ ∧ ∀ i, i < l.length → ∀ j u, [Value.int .i64 (l.getD i zM).f0, .int .i64 (l.getD i zM).f1, .bool (l.getD i zM).f2, .int .u32 (l.getD i zM).f3][j]? = some u → ∀ W, Below w.heap.size w W → W.cell? ⟨bk, off + i * 4 + j, none⟩ = some u := by
  obtain ⟨bk, off, rfl⟩ := C_addr h hl (by decide)
  refine ⟨bk, off, rfl, fun i hi j u hj W hb => ?_⟩
  obtain ⟨ad, cs, had, hcl, hK, hcell⟩ := Kd.C_get h zM (i : Int) (by omega) (by omega)
  obtain rfl := k57_open hK
  obtain rfl := Option.some.inj had
  rw [Int.toNat_natCast] at hcell
  have h1 := hcell j u hj
  rw [Addr.add_lit] at h1
  have h2 : w.cell? ⟨bk, off + i * 4 + j, none⟩ = some u := by rwa [Nat.add_assoc]
  exact (hb.cell (p := ⟨bk, off + i * 4 + j, none⟩) (Go.block_lt_of_cell h2)).trans h2
def Bq (W : World) (b : Nat) (m : M) : Prop := W.heap[b]? = some (.cells #[.int .i64 m.f0, .int .i64 m.f1, .bool m.f2, .int .u32 m.f3] 57 (0, 0))
theorem Bq.cells {W : World} {b : Nat} {m : M} (h : Bq W b m) : ∀ n : Later W, n.1.cell? ⟨b, 0, none⟩ = some (.int .i64 m.f0) ∧ n.1.cell? ⟨b, 1, none⟩ = some (.int .i64 m.f1) ∧ n.1.cell? ⟨b, 2, none⟩ = some (.bool m.f2) ∧ n.1.cell? ⟨b, 3, none⟩ = some (.int .u32 m.f3) := fun n => by
  have hlt := blk_lt h
  refine ⟨(n.cell 0 hlt).trans ?_, (n.cell 1 hlt).trans ?_, (n.cell 2 hlt).trans ?_, (n.cell 3 hlt).trans ?_⟩ <;> exact (cell_of_row _ _ _ _ _ _ h).trans rfl
theorem Bq.below {W W' : World} {b : Nat} {m : M} (h : Bq W b m) (hb : Below W.heap.size W W') : Bq W' b m := (hb.block _ (blk_lt h)).trans h
set_option maxHeartbeats 4000000 in
set_option maxRecDepth 100000 in
theorem familyOrphans (A0 : Option Addr) (c0 : Nat) (l : List S68) (p : Int) (w : World) (hE : EW w) (hC : Kd.C k68 w A0 l.length l) (hc : l.length ≤ c0) (hlen : l.length < 5864062014805) :
    Calls Tryd.prog 5 #[.slice A0 l.length c0, .int .i64 p] w fun e w' => e = .returned (.bool true) ∧ Below w.heap.size w w' := by
  have HE := Lib.hid hE
  have HC := Lib.hid hC
  have hmx := Kd.C_max hC
  clear hE hC
  go_enter Tryd.func5, Tryd.ntmps5
  go_wp2_with fail
  refine (halterlaw24_give.calls (l.length + 1) A0 c0 l (l.map gv) w HC.out hc (give_ev l hlen)).mono ?_
  rintro e w1 ⟨v1, rfl, hR1, hb1⟩
  obtain ⟨A, c, rfl, hcA, hCA⟩ := Kd.R_reads hR1
  obtain ⟨ml, hml⟩ : ∃ ml, ml = l.map gv := ⟨_, rfl⟩
  have hln : ml.length = l.length := by rw [hml, List.length_map]
  rw [← hml] at hcA hCA
  rw [← hml]
  have B1 := Lib.hid hb1
  have C1 := Lib.hid hCA
  have hmlx : ml.length ≤ 9223372036854775807 := by omega
  clear hR1 hb1 hCA hml
  by_cases h16 : 16 < l.length
  · have h16i : 16 < (l.length : Int) := by omega
    have HL := Lib.hid hln
    clear hln
    go_wp2_with fail
    refine (halterlaw24_sure.calls 100 true _ sure_ev).mono ?_
    rintro e W9 ⟨rfl, hb9⟩
    have B9 := Lib.hid (B1.out.trans (hb9.mono B1.out.size))
    clear hb9
    go_wp2
    go_ret
    exact ⟨rfl, B9.out⟩
  have h16i : ¬ 16 < (l.length : Int) := by omega
  have hm16 : ml.length ≤ 16 := by omega
  have HL := Lib.hid hln
  clear hln
  cases hck : chkP ml with
  | false =>
    have HCK := Lib.hid (show family_Check.f 100 ml = some (some 22) by rw [check_any ml hm16, hck, if_neg (show ¬ (false = true) by decide)])
    clear hck
    go_wp2_with fail
    refine (family_Check.calls 100 A c ml (some 22) w1 C1.out hcA HCK.out).mono ?_
    rintro e w2 ⟨rfl, hb2⟩
    rw [xerr_some]
    have B2 := Lib.hid (B1.out.trans (hb2.mono B1.out.size))
    clear hb2
    go_wp2_with fail
    refine (halterlaw24_sure.calls 100 true _ sure_ev).mono ?_
    rintro e W9 ⟨rfl, hb9⟩
    have B9 := Lib.hid (B2.out.trans (hb9.mono B2.out.size))
    clear hb9
    go_wp2
    go_ret
    exact ⟨rfl, B9.out⟩
  | true =>
    have OK := Lib.hid (ok_of hck)
    have HCK := Lib.hid (show family_Check.f 100 ml = some none by rw [check_any ml hm16, hck, if_pos rfl])
    clear hck
    go_wp2_with fail
    refine (family_Check.calls 100 A c ml none w1 C1.out hcA HCK.out).mono ?_
    rintro e w2 ⟨rfl, hb2⟩
    rw [xerr_none]
    have B2 := Lib.hid (B1.out.trans (hb2.mono B1.out.size))
    have C2 := Lib.hid (Kd.C_below C1.out hb2)
    clear hb2 B1 C1 HCK
    go_wp2_with fail
    refine (family_Children.calls 100 A c ml p (kidsP ml p) w2 C2.out hcA (kids_yes OK.out (by decide) p)).mono ?_
    rintro e w3 ⟨v3, rfl, hR3, hb3⟩
    obtain ⟨A3, c3, rfl, hc3, hC3⟩ := Kd.R_reads hR3
    have B3 := Lib.hid (B2.out.trans (hb3.mono B2.out.size))
    have C3 := Lib.hid (Kd.C_below C2.out hb3)
    have K3 := Lib.hid hC3
    have hkl := kids_le ml p
    clear hR3 hb3 hC3 B2 C2
    by_cases hok : aliveP ml p = true ∧ p ≠ 1
    · obtain ⟨hal, hp1⟩ := hok
      have HAL := Lib.hid hal
      have HP1 := Lib.hid hp1
      have HEX := Lib.hid (show family_Exit.f 100 ml p 9 = some (ml.map (exM p 9), none) by rw [exit_yes OK.out (by decide), if_pos hal, if_neg hp1])
      clear hal hp1
      go_wp2_with fail
      refine (family_Exit.calls 100 A c ml p 9 (ml.map (exM p 9)) none w3 C3.out hcA HEX.out).mono ?_
      rintro e w4 ⟨v4, rfl, hR4, hb4⟩
      rw [xerr_none]
      obtain ⟨A4, c4, rfl, hc4, hC4⟩ := Kd.R_reads hR4
      have B4 := Lib.hid (B3.out.trans (hb4.mono B3.out.size))
      have C4 := Lib.hid (Kd.C_below C3.out hb4)
      have K4 := Lib.hid (Kd.C_below K3.out hb4)
      have Y4 := Lib.hid hC4
      have OKY := Lib.hid (exit_ok OK.out p 9 HP1.out HAL.out)
      have hyl : (ml.map (exM p 9)).length = ml.length := List.length_map _
      obtain ⟨yl, hyl'⟩ : ∃ yl, yl = ml.map (exM p 9) := ⟨_, rfl⟩
      rw [← hyl'] at Y4 hc4 OKY hyl
      rw [← hyl']
      have HY := Lib.hid hyl'
      have HYL := Lib.hid hyl
      have hy16 : yl.length ≤ 16 := by omega
      clear hR4 hb4 hC4 B3 C3 K3 HEX hyl hyl'
      obtain ⟨bk, off, rfl, hcell⟩ := mem_cells C4.out OK.out.base.pos
      have HQ := Lib.hid hcell
      clear hcell
      go_wp2_with fail
      go_loopg [9] ml.length (fun gg s9 wr => ∃ i : Nat, s9 = .int .i64 (i : Nat) ∧ i + gg = ml.length ∧ Aside (Below w4.heap.size w4 wr))
      case atStart => exact ⟨0, rfl, Nat.zero_add _, Below.refl _ _⟩
      case round =>
        obtain ⟨i, rfl, hig, S⟩ := hrel
        by_cases hil : i < ml.length
        · have hili : (i : Int) < (ml.length : Int) := by omega
          obtain ⟨x, hx⟩ : ∃ x, x = ml.getD i zM := ⟨_, rfl⟩
          have hxm : x ∈ ml := by rw [hx]; exact getD_mem hil
          have hce := HQ.out i hil
          rw [← hx] at hce
          have HCE := Lib.hid hce
          have HXM := Lib.hid hxm
          have q0 := HCE.out 0 _ rfl wr S.out
          rw [Nat.add_zero] at q0
          have hfind : findA yl x.f0 = ((exM p 9 x).f0, (exM p 9 x).f1, (exM p 9 x).f2, (exM p 9 x).f3, none) := by
            unfold findA
            rw [HY.out, fnd_map, fnd_of OK.out.base.srt hxm]
            rfl
          have HFI := Lib.hid ((find_yes (k := 100) OKY.out (by decide) x.f0).trans (by rw [hfind]))
          obtain ⟨m, hm⟩ : ∃ m, m = exM p 9 x := ⟨_, rfl⟩
          rw [← hm] at HFI
          have hm0 : m.f0 = x.f0 := by rw [hm, exM_f0]
          have hwant : (if x.f0 ∈ kidsP ml p then 1 else x.f1) = m.f1 := by rw [hm]; exact want_ok OK.out HP1.out HAL.out hxm
          have hrest : (x.f0 = p ∧ m.f2 = true ∧ m.f3 = 9) ∨ (x.f0 ≠ p ∧ m.f2 = x.f2 ∧ m.f3 = x.f3) := by
            rw [hm]
            unfold exM
            by_cases e : x.f0 = p
            · rw [if_pos e]; exact .inl ⟨e, rfl, rfl⟩
            · rw [if_neg e]
              refine .inr ⟨e, ?_, ?_⟩ <;> split <;> rfl
          obtain ⟨m0, m1, m2, m3⟩ := m
          simp only at hm0 hwant hrest
          subst hm0
          have HW := Lib.hid hwant
          have HR := Lib.hid hrest
          obtain ⟨x0, x1, x2, x3⟩ := x
          simp only at HW HR HFI HCE q0
          clear hx hxm hce hfind hm hwant hrest
          go_wp2_with fail
          refine (family_Find.calls 100 A4 c4 yl x0 x0 m1 m2 m3 none wr (Kd.C_below Y4.out S.out) hc4 HFI.out).mono ?_
          rintro e w5 ⟨rfl, hb5⟩
          rw [xerr_none]
          have S5 := Lib.hid (S.out.trans (hb5.mono S.out.size))
          have q1 := HCE.out 1 _ rfl w5 S5.out
          have q1lt := Go.block_lt_of_cell q1
          clear hb5 q0
          go_wp2_with fail
          obtain ⟨W6, hW6⟩ : ∃ W6, W6 = w5.alloc (.cells #[.int .i64 x0, .int .i64 m1, .bool m2, .int .u32 m3] 57 (0, 0)) := ⟨_, rfl⟩
          obtain ⟨b6, hb6⟩ : ∃ b, b = w5.heap.size := ⟨_, rfl⟩
          have hA : Below w5.heap.size w5 W6 := by rw [hW6]; exact (Below.refl _ _).alloc (Nat.le_refl _) _
          have BQ := Lib.hid (show Bq W6 b6 ⟨x0, m1, m2, m3⟩ by rw [hW6, hb6]; exact heap_alloc_new _ _)
          rw [← hW6, ← hb6]
          have S6 := Lib.hid (S5.out.trans (hA.mono S5.out.size))
          clear hA hW6 hb6 q1 q1lt
          go_loopg [12, 13] (kidsP ml p).length (fun gg s12 s13 wr2 => ∃ j : Nat, s13 = .int .i64 (j : Nat) ∧ j + gg = (kidsP ml p).length ∧ s12 = .int .i64 (if x0 ∈ (kidsP ml p).take j then 1 else x1) ∧ Aside (Below W6.heap.size W6 wr2))
          case atStart => exact ⟨0, rfl, Nat.zero_add _, by rw [List.take_zero, if_neg List.not_mem_nil], Below.refl _ _⟩
          case round =>
            obtain ⟨j, rfl, hjg, rfl, S7⟩ := hrel
            have S8 := Lib.hid (S6.out.trans (S7.out.mono S6.out.size))
            by_cases hj : j < (kidsP ml p).length
            · have hji : (j : Int) < ((kidsP ml p).length : Int) := by omega
              obtain ⟨bk2, off2, rfl, hcell2⟩ := int_cell (Kd.C_below K4.out S8.out) j hj
              obtain ⟨y, hy⟩ : ∃ y, y = (kidsP ml p).getD j 0 := ⟨_, rfl⟩
              rw [← hy] at hcell2
              have HT := Lib.hid (show (x0 ∈ (kidsP ml p).take (j + 1)) ↔ (x0 ∈ (kidsP ml p).take j ∨ y = x0) by rw [hy]; exact take_mem _ _ _ hj)
              have q5 : ∀ n : Later wr, n.1.cell? ⟨bk2, off2 + j, none⟩ = some (.int .i64 y) := fun n => hcell2 n.1 n.2
              have q6 : ∀ n : Later wr, n.1.cell? ⟨b6, 0, none⟩ = some (.int .i64 x0) := fun n => ((BQ.out.below S7.out).cells n).1
              obtain ⟨V, hV⟩ : ∃ V : Int, V = (if x0 ∈ (kidsP ml p).take j then 1 else x1) := ⟨_, rfl⟩
              rw [← hV]
              have HV := Lib.hid hV
              clear hcell2 hy hV
              go_wp2_with fail
              refine wp_region_later (w := wr) (by kernel_rfl) (by kernel_rfl) ?_
              repeat (go_big_quiet_step (fail))
              refine wpQuiet_nil ?_
              intro W8 hw'
              have hB : Below wr.heap.size wr W8 := by obtain ⟨n, rfl⟩ := hw'; exact n.2
              have S9 := Lib.hid (S7.out.trans (hB.mono S7.out.size))
              clear hw' hB q5 q6
              by_cases hyx : y = x0
              · have HYX := Lib.hid hyx
                have hyb : (y == x0) = true := by rw [hyx]; exact beq_self_eq_true _
                clear hyx
                go_wp2_with fail
                go_roundg ((kidsP ml p).length - (j + 1))
                case measure => omega
                case rel => exact ⟨j + 1, by go_num, by omega, by rw [if_pos (HT.out.2 (.inr HYX.out))], S9.out⟩
              · have HYX := Lib.hid hyx
                have hyb : (y == x0) = false := beq_false_of_ne hyx
                clear hyx
                go_wp2_with fail
                go_roundg ((kidsP ml p).length - (j + 1))
                case measure => omega
                case rel => exact ⟨j + 1, by go_num, by omega, by
                  rw [HV.out]
                  by_cases hin : x0 ∈ (kidsP ml p).take j
                  · rw [if_pos hin, if_pos (HT.out.2 (.inl hin))]
                  · rw [if_neg hin, if_neg (fun h => (HT.out.1 h).elim hin HYX.out)], S9.out⟩
            · have hji : ¬ (j : Int) < ((kidsP ml p).length : Int) := by omega
              obtain rfl : j = (kidsP ml p).length := by omega
              rw [List.take_length, HW.out]
              have q7 : ∀ n : Later wr, n.1.cell? ⟨b6, 0, none⟩ = some (.int .i64 x0) := fun n => ((BQ.out.below S7.out).cells n).1
              have q8 : ∀ n : Later wr, n.1.cell? ⟨b6, 1, none⟩ = some (.int .i64 m1) := fun n => ((BQ.out.below S7.out).cells n).2.1
              have q9 : ∀ n : Later wr, n.1.cell? ⟨b6, 2, none⟩ = some (.bool m2) := fun n => ((BQ.out.below S7.out).cells n).2.2.1
              have q10 : ∀ n : Later wr, n.1.cell? ⟨b6, 3, none⟩ = some (.int .u32 m3) := fun n => ((BQ.out.below S7.out).cells n).2.2.2
              have q11 : ∀ n : Later wr, n.1.cell? ⟨bk, off + i * 4 + 2, none⟩ = some (.bool x2) := fun n => HCE.out 2 _ rfl n.1 (S8.out.trans (n.2.mono S8.out.size))
              have q12 : ∀ n : Later wr, n.1.cell? ⟨bk, off + i * 4 + 3, none⟩ = some (.int .u32 x3) := fun n => HCE.out 3 _ rfl n.1 (S8.out.trans (n.2.mono S8.out.size))
              rcases HR.out with ⟨rfl, rfl, rfl⟩ | ⟨hne, rfl, rfl⟩
              · go_wp2_with fail
                refine wp_region_later (w := wr) (by kernel_rfl) (by kernel_rfl) ?_
                repeat (go_big_quiet_step (fail))
                refine wpQuiet_nil ?_
                intro W8 hw'
                have hB : Below wr.heap.size wr W8 := by obtain ⟨n, rfl⟩ := hw'; exact n.2
                have S9 := Lib.hid (S8.out.trans (hB.mono S8.out.size))
                clear hw' hB q7 q8 q9 q10 q11 q12
                go_wp2_with fail
                go_roundg (ml.length - (i + 1))
                case measure => omega
                case rel => exact ⟨i + 1, by go_num, by omega, S9.out⟩
              · have hb1 : (x0 == p) = false := beq_false_of_ne hne
                have hb2 : (x0 != p) = true := by simp [hne]
                have hb3 : decide (x0 = p) = false := decide_eq_false hne
                go_wp2_with fail
                refine wp_region_later (w := wr) (by kernel_rfl) (by kernel_rfl) ?_
                repeat (go_big_quiet_step (fail))
                refine wpQuiet_nil ?_
                intro W8 hw'
                have hB : Below wr.heap.size wr W8 := by obtain ⟨n, rfl⟩ := hw'; exact n.2
                have S9 := Lib.hid (S8.out.trans (hB.mono S8.out.size))
                clear hw' hB q7 q8 q9 q10 q11 q12
                go_wp2_with fail
                go_roundg (ml.length - (i + 1))
                case measure => omega
                case rel => exact ⟨i + 1, by go_num, by omega, S9.out⟩
        · have hili : ¬ (i : Int) < (ml.length : Int) := by omega
          have HEX := Lib.hid (show family_Exit.f 100 yl p 9 = some ([], some 3) by rw [exit_yes OKY.out (by decide), HY.out, gone_alive OK.out HAL.out, if_neg (show ¬ (false = true) by decide)])
          have HKI := Lib.hid ((kids_yes (k := 100) OKY.out (by decide) p).trans (by rw [HY.out, gone_kids OK.out HP1.out]))
          go_wp2_with fail
          refine (family_Exit.calls 100 A4 c4 yl p 9 [] (some 3) wr (Kd.C_below Y4.out S.out) hc4 HEX.out).mono ?_
          rintro e w5 ⟨v5, rfl, hR5, hb5⟩
          obtain ⟨A5, c5, rfl, _, _⟩ := Kd.R_reads hR5
          rw [xerr_some]
          have S5 := Lib.hid (S.out.trans (hb5.mono S.out.size))
          have hyleq : ((yl.length : Int) == (ml.length : Int)) = true := by rw [HYL.out]; exact beq_self_eq_true _
          clear hR5 hb5
          rw [HYL.out]
          go_wp2_with fail
          rw [← HYL.out]
          refine (family_Children.calls 100 A4 c4 yl p [] w5 (Kd.C_below Y4.out S5.out) hc4 HKI.out).mono ?_
          rintro e w6 ⟨v6, rfl, hR6, hb6⟩
          obtain ⟨A6, c6, rfl, _, _⟩ := Kd.R_reads hR6
          have B6 := Lib.hid (B4.out.trans ((S5.out.trans (hb6.mono S5.out.size)).mono B4.out.size))
          clear hR6 hb6
          go_wp2_with fail
          refine (num_calls (some 3) _ (HE.out.below' B6.out)).mono ?_
          rintro e w7 ⟨rfl, hb7⟩
          rw [show numOf (some 3) = 3 from rfl]
          have B7 := Lib.hid (B6.out.trans (hb7.mono B6.out.size))
          clear hb7
          go_wp2_with fail
          refine (halterlaw24_sure.calls 100 true _ sure_ev).mono ?_
          rintro e W9 ⟨rfl, hb9⟩
          have B9 := Lib.hid (B7.out.trans (hb9.mono B7.out.size))
          clear hb9
          go_wp2
          go_ret
          exact ⟨rfl, B9.out⟩
    · have hfail : ∃ z, family_Exit.f 100 ml p 9 = some ([], some z) := by
        rw [exit_yes OK.out (by decide)]
        by_cases hal : aliveP ml p = true
        · rw [if_pos hal, if_pos (by exact Classical.byContradiction fun h => hok ⟨hal, h⟩)]; exact ⟨_, rfl⟩
        · rw [if_neg hal]; exact ⟨_, rfl⟩
      obtain ⟨z, hz⟩ := hfail
      have HEX := Lib.hid hz
      clear hz hok
      go_wp2_with fail
      refine (family_Exit.calls 100 A c ml p 9 [] (some z) w3 C3.out hcA HEX.out).mono ?_
      rintro e w4 ⟨v4, rfl, hR4, hb4⟩
      obtain ⟨A4, c4, rfl, _, _⟩ := Kd.R_reads hR4
      rw [xerr_some]
      have B4 := Lib.hid (B3.out.trans (hb4.mono B3.out.size))
      clear hR4 hb4
      go_wp2_with fail
      refine (halterlaw24_sure.calls 100 true _ sure_ev).mono ?_
      rintro e W9 ⟨rfl, hb9⟩
      have B9 := Lib.hid (B4.out.trans (hb9.mono B4.out.size))
      clear hb9
      go_wp2
      go_ret
      exact ⟨rfl, B9.out⟩
end Go.Proofs.YtepjcfhkbcchmaaDoor
