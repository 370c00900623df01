/- The walk of PathSplits. -/
import Derived.Test.YtepjcfhkbcchmaaDoorPathW
namespace Go.Proofs.YtepjcfhkbcchmaaDoor
set_option linter.unusedSimpArgs false
set_option linter.unusedVariables false
set_option linter.unusedSimpArgs false
set_option linter.unusedVariables false
open Go Go.RowKit Go.Proofs.YtepjcfhkbcchmaaDoorW.PrintWords Go.Proofs.YtepjcfhkbcchmaaDoorW.PrintMore Go.Proofs.YtepjcfhkbcchmaaDoor.RowK Go.Proofs.YtepjcfhkbcchmaaDoor.PathM

set_option maxHeartbeats 2000000 in
set_option maxRecDepth 100000 in
theorem pathSplits (p nm : ByteArray) (w : World) (hE : EW w) : Calls Tryd.prog 6 #[.string p, .string nm] w fun e w' => e = .returned (.bool true) ∧ Below w.heap.size w w' := by
  have HE := Lib.hid hE
  clear hE
  by_cases h1 : 500 < (p.size : Int)
  · go_enter Tryd.func6, Tryd.ntmps6
    go_wp2_with fail
    refine (pathSure w HE.out).mono ?_
    rintro e w1 ⟨rfl, hb1⟩
    have B1 := Lib.hid hb1
    clear hb1
    go_wp2
    go_ret
    exact ⟨rfl, B1.out⟩
  by_cases h2 : 500 < (nm.size : Int)
  · go_enter Tryd.func6, Tryd.ntmps6
    go_wp2_with fail
    refine (pathSure w HE.out).mono ?_
    rintro e w1 ⟨rfl, hb1⟩
    have B1 := Lib.hid hb1
    clear hb1
    go_wp2
    go_ret
    exact ⟨rfl, B1.out⟩
  have hp : (lst p).length ≤ 1000000 := by rw [← sz]; omega
  have HP := Lib.hid hp
  clear hp
  go_enter Tryd.func6, Tryd.ntmps6
  go_wp2_with fail
  refine (c_split p HP.out w).mono ?_
  rintro e w1 ⟨A1, c1, rfl, hC1, hc1, hb1⟩
  obtain ⟨L, hL⟩ : ∃ L, L = (splitA (lst p)).1.map mkB := ⟨_, rfl⟩
  obtain ⟨rt, hrt⟩ : ∃ rt, rt = (splitA (lst p)).2.1 := ⟨_, rfl⟩
  obtain ⟨er, her⟩ : ∃ er, er = (splitA (lst p)).2.2 := ⟨_, rfl⟩
  have hlen : L.length ≤ 1000000 := by rw [hL, List.length_map]; have := split_len (lst p); omega
  rw [← hL] at hC1 hc1
  rw [← hL, ← hrt, ← her]
  have HL := Lib.hid hL
  have HRT := Lib.hid hrt
  have HER := Lib.hid her
  have C1 := Lib.hid hC1
  have B1 := Lib.hid hb1
  clear hL hrt her hC1 hb1
  go_wp2_with fail
  refine (c_refSplit p HP.out w1).mono ?_
  rintro e w2 ⟨A2, c2, rfl, hC2, hc2, hb2⟩
  rw [← HL.out] at hC2 hc2
  rw [← HL.out, ← HRT.out, ← HER.out]
  have D2 := Lib.hid hC2
  have C2 := Lib.hid (Kd.C_below C1.out hb2)
  have B2 := Lib.hid (B1.out.trans (hb2.mono B1.out.size))
  clear hC2 hb2 HL HRT HER
  go_wp2_with fail
  refine (c_last p HP.out w2).mono ?_
  rintro e w3 ⟨rfl, hb3⟩
  obtain ⟨x1, hx1⟩ : ∃ x, x = mkB (lastA (lst p)).1 := ⟨_, rfl⟩
  obtain ⟨x2, hx2⟩ : ∃ x, x = mkB (lastA (lst p)).2.1 := ⟨_, rfl⟩
  obtain ⟨x3, hx3⟩ : ∃ x, x = (lastA (lst p)).2.2 := ⟨_, rfl⟩
  rw [← hx1, ← hx2, ← hx3]
  have H1 := Lib.hid hx1
  have H2 := Lib.hid hx2
  have H3 := Lib.hid hx3
  have C3 := Lib.hid (Kd.C_below C2.out hb3)
  have D3 := Lib.hid (Kd.C_below D2.out hb3)
  have B3 := Lib.hid (B2.out.trans (hb3.mono B2.out.size))
  clear hx1 hx2 hx3 hb3
  go_wp2_with fail
  refine (c_refLast p HP.out w3).mono ?_
  rintro e w4 ⟨rfl, hb4⟩
  rw [← H1.out, ← H2.out, ← H3.out]
  have C4 := Lib.hid (Kd.C_below C3.out hb4)
  have D4 := Lib.hid (Kd.C_below D3.out hb4)
  have B4 := Lib.hid (B3.out.trans (hb4.mono B3.out.size))
  clear hb4 H1 H2 H3
  go_wp2_with fail
  refine (c_texts A1 A2 c1 c2 L hlen w4 C4.out hc1 D4.out hc2).mono ?_
  rintro e w5 ⟨rfl, hb5⟩
  have B5 := Lib.hid (B4.out.trans (hb5.mono B4.out.size))
  clear hb5
  go_wp2_with fail
  refine (num_calls er w5 (HE.out.below' B5.out)).mono ?_
  rintro e w6 ⟨rfl, hb6⟩
  have B6 := Lib.hid (B5.out.trans (hb6.mono B5.out.size))
  clear hb6
  obtain ⟨ne, hne⟩ : ∃ n, n = numOf er := ⟨_, rfl⟩
  rw [← hne]
  clear hne
  go_wp2_with fail
  refine (num_calls x3 w6 (HE.out.below' B6.out)).mono ?_
  rintro e w7 ⟨rfl, hb7⟩
  have B7 := Lib.hid (B6.out.trans (hb7.mono B6.out.size))
  clear hb7
  obtain ⟨nx, hnx⟩ : ∃ n, n = numOf x3 := ⟨_, rfl⟩
  rw [← hnx]
  clear hnx
  go_wp2_with fail
  refine (c_check nm w7).mono ?_
  rintro e w8 ⟨rfl, hb8⟩
  have B8 := Lib.hid (B7.out.trans (hb8.mono B7.out.size))
  clear hb8
  obtain ⟨cn, hcn⟩ : ∃ c, c = chkN (lst nm) := ⟨_, rfl⟩
  rw [← hcn]
  have HCN := Lib.hid hcn
  clear hcn
  go_wp2_with fail
  refine (num_calls cn w8 (HE.out.below' B8.out)).mono ?_
  rintro e w9 ⟨rfl, hb9⟩
  have B9 := Lib.hid (B8.out.trans (hb9.mono B8.out.size))
  clear hb9
  obtain ⟨nc, hnc⟩ : ∃ n, n = numOf cn := ⟨_, rfl⟩
  rw [← hnc]
  have HNC := Lib.hid hnc
  clear hnc
  go_wp2_with fail
  refine (c_refCheck nm w9).mono ?_
  rintro e w10 ⟨rfl, hb10⟩
  rw [← HCN.out, ← HNC.out]
  have B10 := Lib.hid (B9.out.trans (hb10.mono B9.out.size))
  clear hb10
  go_wp2_with fail
  refine (pathSure w10 (HE.out.below' B10.out)).mono ?_
  rintro e w11 ⟨rfl, hb11⟩
  have B11 := Lib.hid (B10.out.trans (hb11.mono B10.out.size))
  clear hb11
  go_wp2
  go_ret
  exact ⟨rfl, B11.out⟩
end Go.Proofs.YtepjcfhkbcchmaaDoor
