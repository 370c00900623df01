/- The walk of PathBack. -/
import Derived.Test.YtepjcfhkbcchmaaDoorPathW
import Derived.LoopN
import Derived.Deep.LoopGhost
namespace Go.Proofs.YtepjcfhkbcchmaaDoor
set_option linter.unusedSimpArgs false
set_option linter.unusedVariables false
set_option linter.unusedSimpArgs false
set_option linter.unusedVariables false
open Go Go.RowKit Go.Proofs.YtepjcfhkbcchmaaDoorW.PrintWords Go.Proofs.YtepjcfhkbcchmaaDoorW.PrintMore Go.Proofs.YtepjcfhkbcchmaaDoor.RowK Go.Proofs.YtepjcfhkbcchmaaDoor.PathM

theorem words_of {ns : List (List UInt8)} (h : chkL ns = none) : ∀ n ∈ ns, n ≠ [] ∧ ∀ c ∈ n, c ≠ 47 := fun n hn => by
  obtain ⟨a, _, c⟩ := chkN_none ((chkL_none.1 h).2 n hn)
  exact ⟨a, c⟩
theorem split_join {ns : List (List UInt8)} (h : chkL ns = none) : splitA (47 :: Lib.join ns [47]) = (ns, true, none) := by
  unfold splitA
  rw [if_neg (by simp), join_names ns (words_of h), h]
  rfl
theorem split_join2 {ns : List (List UInt8)} (h : chkL ns = none) : splitA (47 :: (47 :: Lib.join ns [47]) ++ [47, 47]) = (ns, true, none) := by
  have e : names (47 :: (47 :: Lib.join ns [47]) ++ [47, 47]) = ns := by
    rw [show ([47, 47] : List UInt8) = List.replicate 2 47 from rfl, names_ends, names_slash, join_names ns (words_of h)]
  unfold splitA
  rw [if_neg (by simp), e, h]
  rfl
theorem join_short {ns : List (List UInt8)} (h : chkL ns = none) : (Lib.join ns [47]).length ≤ 136 := by
  have h1 := join_len ns (fun n hn => (chkN_none ((chkL_none.1 h).2 n hn)).2.1)
  have h2 := (chkL_none.1 h).1
  omega
set_option maxHeartbeats 2000000 in
set_option maxRecDepth 100000 in
theorem pathBack (A0 : Option Addr) (c0 : Nat) (l : List ByteArray) (w : World) (hE : EW w) (hC : Kd.C Kd.string w A0 l.length l) (hc : l.length ≤ c0) :
    Calls Tryd.prog 7 #[.slice A0 l.length c0] w fun e w' => e = .returned (.bool true) ∧ Below w.heap.size w w' := by
  have HE := Lib.hid hE
  have HC := Lib.hid hC
  have hmx := Kd.C_max hC
  clear hE hC
  go_enter Tryd.func7, Tryd.ntmps7
  go_wp2_with fail
  go_loopg [3, 4] l.length (fun gg s3 s4 wr => ∃ i n : Nat, s4 = .int .i64 (i : Nat) ∧ s3 = .int .i64 (n : Nat) ∧ i + gg = l.length ∧ n ≤ 500 ∧ wr = w)
  case atStart => exact ⟨0, 0, rfl, rfl, Nat.zero_add _, by omega, rfl⟩
  case round =>
    obtain ⟨i, n, rfl, rfl, hig, hn, rfl⟩ := hrel
    by_cases hil : i < l.length
    · have hili : (i : Int) < (l.length : Int) := by omega
      obtain ⟨bk, off, rfl, hbk, hce⟩ := strs_cells HC.out (by omega)
      have q0 := hce i l[i] (List.getElem?_eq_getElem hil)
      obtain ⟨x, hx⟩ : ∃ x, x = l[i] := ⟨_, rfl⟩
      rw [← hx] at q0
      clear hce hbk hx
      obtain ⟨m, hm⟩ : ∃ m : Nat, min (x.size : Int) 600 = (m : Int) := ⟨(min (x.size : Int) 600).toNat, by omega⟩
      have hm6 : m ≤ 600 := by omega
      by_cases h60 : 60 < (l.length : Int)
      · go_wp2_with fail
        refine (pathSure wr HE.out).mono ?_
        rintro e w1 ⟨rfl, hb1⟩
        have B1 := Lib.hid hb1
        clear hb1
        go_wp2
        go_ret
        exact ⟨rfl, B1.out⟩
      · by_cases h500 : 500 < (n : Int) + (m : Int)
        · go_wp2_with fail
          refine (pathSure wr HE.out).mono ?_
          rintro e w1 ⟨rfl, hb1⟩
          have B1 := Lib.hid hb1
          clear hb1
          go_wp2
          go_ret
          exact ⟨rfl, B1.out⟩
        · go_wp2_with fail
          go_roundg (l.length - (i + 1))
          case measure => omega
          case rel => exact ⟨i + 1, n + m, by go_num, by go_num, by omega, by omega, rfl⟩
    · have hili : ¬ (i : Int) < (l.length : Int) := by omega
      go_wp2_with fail
      refine (c_join A0 c0 l wr HC.out hc).mono ?_
      rintro e w1 ⟨rfl, hb1⟩
      have C1 := Lib.hid (Kd.C_below HC.out hb1)
      have B1 := Lib.hid hb1
      clear hb1
      obtain ⟨ns, hns⟩ : ∃ ns, ns = l.map lst := ⟨_, rfl⟩
      rw [← hns]
      have HNS := Lib.hid hns
      clear hns
      cases hck : chkL ns with
      | some z =>
        have hj : joinA ns = ([], some z) := by unfold joinA; rw [hck]
        have HJ := Lib.hid hj
        rw [hj, errW_some]
        clear hj hck
        have q1 : (mkB []).toList = [] := tl _
        go_wp2_with fail
        refine (c_refJoin A0 c0 l w1 C1.out hc).mono ?_
        rintro e w2 ⟨rfl, hb2⟩
        rw [← HNS.out, HJ.out, show numOf (some z) = z from rfl]
        have B2 := Lib.hid (B1.out.trans (hb2.mono B1.out.size))
        clear hb2
        go_wp2_with fail
        refine (num_calls (some z) w2 (HE.out.below' B2.out)).mono ?_
        rintro e w3 ⟨rfl, hb3⟩
        rw [show numOf (some z) = z from rfl]
        have B3 := Lib.hid (B2.out.trans (hb3.mono B2.out.size))
        clear hb3
        go_wp2_with fail
        refine (pathSure w3 (HE.out.below' B3.out)).mono ?_
        rintro e w4 ⟨rfl, hb4⟩
        have B4 := Lib.hid (B3.out.trans (hb4.mono B3.out.size))
        clear hb4
        go_wp2
        go_ret
        exact ⟨rfl, B4.out⟩
      | none =>
        have hj : joinA ns = (47 :: Lib.join ns [47], none) := by unfold joinA; rw [hck]
        have hsp := split_join hck
        have hsp2 := split_join2 hck
        have hsl := join_short hck
        obtain ⟨s, hs⟩ : ∃ s, s = mkB (47 :: Lib.join ns [47]) := ⟨_, rfl⟩
        have hls : lst s = 47 :: Lib.join ns [47] := by rw [hs, lst_mk]
        have hsz : s.size ≤ 137 := by rw [sz, hls, List.length_cons]; omega
        rw [hj, errW_none, ← hs]
        have HJ := Lib.hid hj
        have HS := Lib.hid hs
        have HLS := Lib.hid hls
        have HSP := Lib.hid hsp
        have HSP2 := Lib.hid hsp2
        have hl8 : l.length ≤ 8 := by have := (chkL_none.1 hck).1; rw [HNS.out, List.length_map] at this; exact this
        clear hj hck hs hls hsp hsp2 hsl
        go_wp2_with fail
        refine (c_refJoin A0 c0 l w1 C1.out hc).mono ?_
        rintro e w2 ⟨rfl, hb2⟩
        rw [← HNS.out, HJ.out, show numOf none = 0 from rfl, ← HS.out]
        have C2 := Lib.hid (Kd.C_below C1.out hb2)
        have B2 := Lib.hid (B1.out.trans (hb2.mono B1.out.size))
        clear hb2
        go_wp2_with fail
        refine (num_calls none w2 (HE.out.below' B2.out)).mono ?_
        rintro e w3 ⟨rfl, hb3⟩
        rw [show numOf none = 0 from rfl]
        have C3 := Lib.hid (Kd.C_below C2.out hb3)
        have B3 := Lib.hid (B2.out.trans (hb3.mono B2.out.size))
        clear hb3
        go_wp2_with fail
        refine (c_split s (by rw [← sz]; omega) w3).mono ?_
        rintro e w4 ⟨A4, c4, rfl, hC4, hc4, hb4⟩
        have e1 : (splitA (lst s)).1.map mkB = l := by rw [HLS.out, HSP.out, HNS.out]; exact (all_lst l).symm
        have e2 : (splitA (lst s)).2.1 = true := by rw [HLS.out, HSP.out]
        have e3 : (splitA (lst s)).2.2 = none := by rw [HLS.out, HSP.out]
        rw [e1] at hC4 hc4
        rw [e1, e2, e3, errW_none]
        have D4 := Lib.hid hC4
        have C4 := Lib.hid (Kd.C_below C3.out hb4)
        have B4 := Lib.hid (B3.out.trans (hb4.mono B3.out.size))
        clear hC4 hb4 e1 e2 e3
        go_wp2_with fail
        have hl2 : lst ((⟨#[47]⟩ : ByteArray) ++ s ++ (⟨#[47, 47]⟩ : ByteArray)) = 47 :: (47 :: Lib.join ns [47]) ++ [47, 47] := by
          rw [lst_app, lst_app, HLS.out]
          rfl
        have hz2 : (lst ((⟨#[47]⟩ : ByteArray) ++ s ++ (⟨#[47, 47]⟩ : ByteArray))).length ≤ 1000000 := by
          rw [lst_app, lst_app, List.length_append, List.length_append, ← sz s]
          have e1 : (lst (⟨#[47]⟩ : ByteArray)).length = 1 := rfl
          have e2 : (lst (⟨#[47, 47]⟩ : ByteArray)).length = 2 := rfl
          omega
        refine (c_split _ hz2 w4).mono ?_
        rintro e w5 ⟨A5, c5, rfl, hC5, hc5, hb5⟩
        have e1 : (splitA (lst ((⟨#[47]⟩ : ByteArray) ++ s ++ (⟨#[47, 47]⟩ : ByteArray)))).1.map mkB = l := by rw [hl2, HSP2.out, HNS.out]; exact (all_lst l).symm
        have e2 : (splitA (lst ((⟨#[47]⟩ : ByteArray) ++ s ++ (⟨#[47, 47]⟩ : ByteArray)))).2.1 = true := by rw [hl2, HSP2.out]
        have e3 : (splitA (lst ((⟨#[47]⟩ : ByteArray) ++ s ++ (⟨#[47, 47]⟩ : ByteArray)))).2.2 = none := by rw [hl2, HSP2.out]
        rw [e1] at hC5 hc5
        rw [e1, e2, e3, errW_none]
        have E5 := Lib.hid hC5
        have C5 := Lib.hid (Kd.C_below C4.out hb5)
        have D5 := Lib.hid (Kd.C_below D4.out hb5)
        have B5 := Lib.hid (B4.out.trans (hb5.mono B4.out.size))
        clear hC5 hb5 e1 e2 e3 hl2 hz2
        go_wp2_with fail
        refine (c_texts A4 A0 c4 c0 l (by omega) w5 D5.out hc4 C5.out hc).mono ?_
        rintro e w6 ⟨rfl, hb6⟩
        have E6 := Lib.hid (Kd.C_below E5.out hb6)
        have C6 := Lib.hid (Kd.C_below C5.out hb6)
        have B6 := Lib.hid (B5.out.trans (hb6.mono B5.out.size))
        clear hb6
        go_wp2_with fail
        refine (c_texts A5 A0 c5 c0 l (by omega) w6 E6.out hc5 C6.out hc).mono ?_
        rintro e w7 ⟨rfl, hb7⟩
        have B7 := Lib.hid (B6.out.trans (hb7.mono B6.out.size))
        clear hb7
        go_wp2_with fail
        refine (pathSure w7 (HE.out.below' B7.out)).mono ?_
        rintro e w8 ⟨rfl, hb8⟩
        have B8 := Lib.hid (B7.out.trans (hb8.mono B7.out.size))
        clear hb8
        go_wp2
        go_ret
        exact ⟨rfl, B8.out⟩
end Go.Proofs.YtepjcfhkbcchmaaDoor
