/- The walk of PathLasts. -/
import Derived.Test.YtepjcfhkbcchmaaDoorPathBackV
namespace Go.Proofs.YtepjcfhkbcchmaaDoor
set_option linter.unusedSimpArgs false
set_option linter.unusedVariables false
set_option linter.unusedSimpArgs false
set_option linter.unusedVariables false
open Go Go.RowKit Go.Proofs.YtepjcfhkbcchmaaDoorW.PrintWords Go.Proofs.YtepjcfhkbcchmaaDoorW.PrintMore Go.Proofs.YtepjcfhkbcchmaaDoor.RowK Go.Proofs.YtepjcfhkbcchmaaDoor.PathM

/-- What the last name of a joined path is, and what stands ahead of it. -/
structure Lasts (ns : List (List UInt8)) (pre nm : List UInt8) : Prop where
  eq : ns = names pre ++ [nm]
  up : splitA pre = (names pre, true, none)
  l1 : lastA (47 :: Lib.join ns [47]) = if isDot nm = true then ([], [], some 22) else (nm, pre, none)
  l2 : lastA ((47 :: Lib.join ns [47]) ++ [47]) = if isDot nm = true then ([], [], some 22) else (nm, pre, none)
  le : pre.length ≤ 140
theorem lasts_of {ns : List (List UInt8)} (h : chkL ns = none) (hn : ns ≠ []) : ∃ pre nm, Lasts ns pre nm := by
  have h1 := split_join h
  have hN : names (47 :: Lib.join ns [47]) = ns := join_names ns (words_of h)
  have hN2 : names ((47 :: Lib.join ns [47]) ++ [47]) = ns := by rw [names_end, hN]
  obtain ⟨pre, nm, n, C⟩ := cut_of (l := 47 :: Lib.join ns [47]) (by rw [hN]; exact hn)
  have C2 : Cut ((47 :: Lib.join ns [47]) ++ [47]) pre nm (n + 1) := ⟨by rw [C.eq, List.append_assoc, ← List.replicate_succ'], C.ne, C.no, C.ed⟩
  have hns : ns = names pre ++ [nm] := by rw [← hN]; exact C.names
  have hck : chkL (names pre) = none := by
    obtain ⟨a, b⟩ := chkL_none.1 h
    refine chkL_none.2 ⟨?_, fun x hx => b x (by rw [hns]; exact List.mem_append_left _ hx)⟩
    rw [hns, List.length_append] at a
    simp at a
    omega
  have hpre : pre ≠ [] := fun e => by
    have hq := C.eq
    rw [e, List.nil_append] at hq
    cases hnm : nm with
    | nil => exact C.ne hnm
    | cons c r =>
      rw [hnm] at hq
      have h47 : (47 : UInt8) = c := (List.cons.inj hq).1
      exact C.no c (by rw [hnm]; exact List.mem_cons_self) h47.symm
  have hhead : pre.head? = some 47 := by
    cases hp : pre with
    | nil => exact absurd hp hpre
    | cons c r =>
      have hq := C.eq
      rw [hp] at hq
      have h47 : (47 : UInt8) = c := (List.cons.inj hq).1
      rw [← h47]; rfl
  have hs2 : splitA ((47 :: Lib.join ns [47]) ++ [47]) = (ns, true, none) := by
    unfold splitA
    rw [if_neg (by simp), hN2, h]
    rfl
  refine ⟨pre, nm, hns, ?_, ?_, ?_, ?_⟩
  · unfold splitA
    rw [if_neg hpre, hck, hhead]
    rfl
  · unfold lastA
    rw [h1, C.last]
    simp only
    rw [C.up]
  · unfold lastA
    rw [hs2, C2.last]
    simp only
    rw [C2.up]
  · have := C.le
    have := join_short h
    rw [List.length_cons] at *
    omega
theorem C_take {w : World} {A : Option Addr} {l : List ByteArray} (h : Kd.C Kd.string w A l.length l) (k : Nat) : Kd.C Kd.string w A (l.take k).length (l.take k) := by
  have h2 := h.2.1
  refine ⟨rfl, by rw [List.length_take]; omega, fun hn => ?_⟩
  have hl : 0 < l.length := by rw [List.length_take] at hn; omega
  obtain ⟨ad, e, hc⟩ := h.2.2 hl
  refine ⟨ad, e, fun j p hj => hc j p ?_⟩
  rw [List.getElem?_take] at hj
  split at hj
  · exact hj
  · cases hj
set_option maxHeartbeats 4000000 in
set_option maxRecDepth 100000 in
theorem pathLasts (A0 : Option Addr) (c0 : Nat) (l : List ByteArray) (w : World) (hE : EW w) (hC : Kd.C Kd.string w A0 l.length l) (hc : l.length ≤ c0) :
    Calls Tryd.prog 8 #[.slice A0 l.length c0] w fun e w' => e = .returned (.bool true) ∧ Below w.heap.size w w' := by
  have HE := Lib.hid hE
  have HC := Lib.hid hC
  have hmx := Kd.C_max hC
  clear hE hC
  by_cases h20 : 20 < (l.length : Int)
  · go_enter Tryd.func8, Tryd.ntmps8
    go_wp2_with fail
    refine (pathSure w HE.out).mono ?_
    rintro e w1 ⟨rfl, hb1⟩
    have B1 := Lib.hid hb1
    clear hb1
    go_wp2
    go_ret
    exact ⟨rfl, B1.out⟩
  go_enter Tryd.func8, Tryd.ntmps8
  go_wp2_with fail
  go_loopg [3] l.length (fun gg s3 wr => ∃ i : Nat, s3 = .int .i64 (i : Nat) ∧ i + gg = l.length ∧ wr = w)
  case atStart => exact ⟨0, rfl, Nat.zero_add _, rfl⟩
  case round =>
    obtain ⟨i, rfl, hig, rfl⟩ := hrel
    by_cases hil : i < l.length
    · have hili : (i : Int) < (l.length : Int) := by omega
      obtain ⟨bk, off, rfl, hbk, hce⟩ := strs_cells HC.out (by omega)
      have q0 := hce i l[i] (List.getElem?_eq_getElem hil)
      obtain ⟨x, hx⟩ : ∃ x, x = l[i] := ⟨_, rfl⟩
      rw [← hx] at q0
      clear hce hbk hx
      by_cases h40 : 40 < (x.size : Int)
      · go_wp2_with fail
        refine (pathSure wr HE.out).mono ?_
        rintro e w1 ⟨rfl, hb1⟩
        have B1 := Lib.hid hb1
        clear hb1
        go_wp2
        go_ret
        exact ⟨rfl, B1.out⟩
      · go_wp2_with fail
        go_roundg (l.length - (i + 1))
        case measure => omega
        case rel => exact ⟨i + 1, by go_num, by omega, rfl⟩
    · have hili : ¬ (i : Int) < (l.length : Int) := by omega
      go_wp2_with fail
      refine (c_join A0 c0 l wr HC.out hc).mono ?_
      rintro e w1 ⟨rfl, hb1⟩
      have C1 := Lib.hid (Kd.C_below HC.out hb1)
      have B1 := Lib.hid hb1
      clear hb1
      obtain ⟨ns, hns⟩ : ∃ ns, ns = l.map lst := ⟨_, rfl⟩
      rw [← hns]
      have HNS := Lib.hid hns
      clear hns
      cases hck : chkL ns with
      | some z =>
        have hj : joinA ns = ([], some z) := by unfold joinA; rw [hck]
        rw [hj, errW_some]
        clear hj hck
        go_wp2_with fail
        refine (pathSure w1 (HE.out.below' B1.out)).mono ?_
        rintro e w4 ⟨rfl, hb4⟩
        have B4 := Lib.hid (B1.out.trans (hb4.mono B1.out.size))
        clear hb4
        go_wp2
        go_ret
        exact ⟨rfl, B4.out⟩
      | none =>
        have hj : joinA ns = (47 :: Lib.join ns [47], none) := by unfold joinA; rw [hck]
        by_cases h0 : l.length = 0
        · rw [hj, errW_none]
          clear hj hck
          have h0i : (l.length : Int) = 0 := by omega
          go_wp2_with fail
          refine (pathSure w1 (HE.out.below' B1.out)).mono ?_
          rintro e w4 ⟨rfl, hb4⟩
          have B4 := Lib.hid (B1.out.trans (hb4.mono B1.out.size))
          clear hb4
          go_wp2
          go_ret
          exact ⟨rfl, B4.out⟩
        have h0i : ¬ (l.length : Int) = 0 := by omega
        have hne : ns ≠ [] := fun e => h0 (by rw [HNS.out] at e; exact (List.length_map _).symm.trans (by rw [e]; rfl))
        obtain ⟨pre, nm, LS⟩ := lasts_of hck hne
        have hsl := join_short hck
        obtain ⟨s, hs⟩ : ∃ s, s = mkB (47 :: Lib.join ns [47]) := ⟨_, rfl⟩
        have hls : lst s = 47 :: Lib.join ns [47] := by rw [hs, lst_mk]
        have hsz : s.size ≤ 137 := by rw [sz, hls, List.length_cons]; omega
        rw [hj, errW_none, ← hs]
        have HLS := Lib.hid hls
        have HL := Lib.hid LS
        have hl8 : l.length ≤ 8 := by have := (chkL_none.1 hck).1; rw [HNS.out, List.length_map] at this; exact this
        clear hj hck hs hls hsl hne LS
        obtain ⟨bk, off, rfl, hbk, hce⟩ := strs_cells C1.out (by omega)
        obtain ⟨k, hk⟩ : ∃ k, l.length = k + 1 := ⟨l.length - 1, by omega⟩
        have hkl : k < l.length := by omega
        have q0 := hce k l[k] (List.getElem?_eq_getElem hkl)
        have hsplit : l = l.take k ++ [l[k]] := by
          have h1 := (List.take_append_drop k l).symm
          rwa [List.drop_eq_getElem_cons hkl, List.drop_eq_nil_of_le (by omega)] at h1
        have hnmx : names pre = (l.take k).map lst ∧ nm = lst l[k] := by
          have h1 : names pre ++ [nm] = (l.take k).map lst ++ [lst l[k]] := by
            rw [← HL.out.eq, HNS.out]
            conv => lhs; rw [hsplit]
            rw [List.map_append]; rfl
          have h2 := List.append_inj' h1 rfl
          exact ⟨h2.1, List.singleton_inj.1 h2.2⟩
        obtain ⟨x, hx⟩ : ∃ x, x = l[k] := ⟨_, rfl⟩
        rw [← hx] at q0 hnmx
        have HX := Lib.hid hnmx.2
        have HP := Lib.hid hnmx.1
        have hq : ∀ W, Below w1.heap.size w1 W → W.cell? ⟨bk, off + k, none⟩ = some (.string x) := fun W hb => (hb.cell (p := ⟨bk, off + k, none⟩) (Go.block_lt_of_cell q0)).trans q0
        have HQ := Lib.hid hq
        have hlt : (l.take k).length = k := by rw [List.length_take]; omega
        have HLT := Lib.hid hlt
        clear hce hbk hsplit hnmx hx q0 hq hlt
        go_wp2_with fail
        refine (c_last s (by rw [← sz]; omega) w1).mono ?_
        rintro e w2 ⟨rfl, hb2⟩
        have C2 := Lib.hid (Kd.C_below C1.out hb2)
        have B2 := Lib.hid (B1.out.trans (hb2.mono B1.out.size))
        have Q2 := Lib.hid hb2
        clear hb2
        rw [HLS.out, HL.out.l1]
        by_cases hd : isDot nm = true
        · rw [if_pos hd, errW_some]
          have HD := Lib.hid hd
          clear hd
          have hz2 : (lst (s ++ (⟨#[47]⟩ : ByteArray))).length ≤ 1000000 := by
            rw [lst_app, List.length_append, ← sz s]
            have e1 : (lst (⟨#[47]⟩ : ByteArray)).length = 1 := rfl
            omega
          have HZ2 := Lib.hid hz2
          clear hz2
          go_wp2_with fail
          refine (c_last (s ++ (⟨#[47]⟩ : ByteArray)) HZ2.out w2).mono ?_
          rintro e w3 ⟨rfl, hb3⟩
          have B3 := Lib.hid (B2.out.trans (hb3.mono B2.out.size))
          have q3 := HQ.out w3 (Q2.out.trans (hb3.mono Q2.out.size))
          clear hb3
          rw [show lst (s ++ (⟨#[47]⟩ : ByteArray)) = (47 :: Lib.join ns [47]) ++ [47] by rw [lst_app, HLS.out], HL.out.l2, if_pos HD.out, errW_some]
          have hdx : x.toList = [46] ∨ x.toList = [46, 46] := by
            have h1 := HD.out
            rw [HX.out] at h1
            rw [tl]
            unfold isDot at h1
            rw [Bool.or_eq_true] at h1
            exact h1.imp (fun h => by simpa using h) (fun h => by simpa using h)
          have hki : (l.length : Int) = (k : Int) + 1 := by omega
          have HDX := Lib.hid hdx
          clear hdx
          rcases HDX.out with d1 | d1
          · go_wp2_with fail
            refine (num_calls (some 22) w3 (HE.out.below' B3.out)).mono ?_
            rintro e w4 ⟨rfl, hb4⟩
            rw [show numOf (some 22) = 22 from rfl]
            have B4 := Lib.hid (B3.out.trans (hb4.mono B3.out.size))
            clear hb4 q3
            go_wp2_with fail
            refine (num_calls (some 22) w4 (HE.out.below' B4.out)).mono ?_
            rintro e w5 ⟨rfl, hb5⟩
            rw [show numOf (some 22) = 22 from rfl]
            have B5 := Lib.hid (B4.out.trans (hb5.mono B4.out.size))
            clear hb5
            go_wp2_with fail
            refine (pathSure w5 (HE.out.below' B5.out)).mono ?_
            rintro e w6 ⟨rfl, hb6⟩
            have B6 := Lib.hid (B5.out.trans (hb6.mono B5.out.size))
            clear hb6
            go_wp2
            go_ret
            exact ⟨rfl, B6.out⟩
          · have d2 : ¬ x.toList = [46] := by rw [d1]; decide
            go_wp2_with fail
            refine (num_calls (some 22) w3 (HE.out.below' B3.out)).mono ?_
            rintro e w4 ⟨rfl, hb4⟩
            rw [show numOf (some 22) = 22 from rfl]
            have B4 := Lib.hid (B3.out.trans (hb4.mono B3.out.size))
            clear hb4 q3
            go_wp2_with fail
            refine (num_calls (some 22) w4 (HE.out.below' B4.out)).mono ?_
            rintro e w5 ⟨rfl, hb5⟩
            rw [show numOf (some 22) = 22 from rfl]
            have B5 := Lib.hid (B4.out.trans (hb5.mono B4.out.size))
            clear hb5
            go_wp2_with fail
            refine (pathSure w5 (HE.out.below' B5.out)).mono ?_
            rintro e w6 ⟨rfl, hb6⟩
            have B6 := Lib.hid (B5.out.trans (hb6.mono B5.out.size))
            clear hb6
            go_wp2
            go_ret
            exact ⟨rfl, B6.out⟩
        · rw [if_neg hd, errW_none]
          have HD := Lib.hid hd
          clear hd
          have hxn : mkB nm = x := by rw [HX.out]; exact mk_lst x
          rw [hxn]
          clear hxn
          obtain ⟨up, hup⟩ : ∃ up, up = mkB pre := ⟨_, rfl⟩
          rw [← hup]
          have HU := Lib.hid hup
          clear hup
          have hz2 : (lst (s ++ (⟨#[47]⟩ : ByteArray))).length ≤ 1000000 := by
            rw [lst_app, List.length_append, ← sz s]
            have e1 : (lst (⟨#[47]⟩ : ByteArray)).length = 1 := rfl
            omega
          have HZ2 := Lib.hid hz2
          clear hz2
          go_wp2_with fail
          refine (c_last (s ++ (⟨#[47]⟩ : ByteArray)) HZ2.out w2).mono ?_
          rintro e w3 ⟨rfl, hb3⟩
          have B3 := Lib.hid (B2.out.trans (hb3.mono B2.out.size))
          have C3 := Lib.hid (Kd.C_below C2.out hb3)
          have q3 := HQ.out w3 (Q2.out.trans (hb3.mono Q2.out.size))
          have Q3 := Lib.hid (Q2.out.trans (hb3.mono Q2.out.size))
          clear hb3
          rw [show lst (s ++ (⟨#[47]⟩ : ByteArray)) = (47 :: Lib.join ns [47]) ++ [47] by rw [lst_app, HLS.out], HL.out.l2, if_neg HD.out, errW_none, show mkB nm = x by rw [HX.out]; exact mk_lst x, ← HU.out]
          have hdx : ¬ x.toList = [46] ∧ ¬ x.toList = [46, 46] := by
            have h1 := HD.out
            rw [HX.out] at h1
            rw [tl]
            unfold isDot at h1
            rw [Bool.or_eq_true, not_or] at h1
            exact ⟨by simpa using h1.1, by simpa using h1.2⟩
          have hki : (l.length : Int) = (k : Int) + 1 := by omega
          obtain ⟨d1, d2⟩ := hdx
          have e1 : (x.toList == [46]) = false := beq_false_of_ne d1
          have e2 : (x.toList == [46, 46]) = false := beq_false_of_ne d2
          go_wp2_with fail
          refine (c_split up (by rw [HU.out, lst_mk]; have := HL.out.le; omega) w3).mono ?_
          rintro e w4 ⟨A4, c4, rfl, hC4, hc4, hb4⟩
          have e0 : splitA (lst up) = (names pre, true, none) := by rw [HU.out, lst_mk]; exact HL.out.up
          have e1 : (splitA (lst up)).1.map mkB = l.take k := by rw [e0, HP.out]; exact (all_lst _).symm
          have e2 : (splitA (lst up)).2.1 = true := by rw [e0]
          have e3 : (splitA (lst up)).2.2 = none := by rw [e0]
          rw [e1] at hC4 hc4
          rw [e1, e2, e3, errW_none]
          have D4 := Lib.hid hC4
          have C4 := Lib.hid (C_take (Kd.C_below C3.out hb4) k)
          have B4 := Lib.hid (B3.out.trans (hb4.mono B3.out.size))
          have HC4 := Lib.hid hc4
          clear q3
          have q4 := HQ.out w4 (Q3.out.trans (hb4.mono Q3.out.size))
          clear hC4 hb4 e0 e1 e2 e3 hc4
          rw [HLT.out]
          go_wp2_with fail
          have ht := c_texts A4 (some ⟨bk, off, none⟩) c4 c0 (l.take k) (by rw [HLT.out]; omega) w4 D4.out HC4.out C4.out (by rw [HLT.out]; omega)
          rw [HLT.out] at ht
          refine ht.mono ?_
          rintro e w5 ⟨rfl, hb5⟩
          have B5 := Lib.hid (B4.out.trans (hb5.mono B4.out.size))
          clear hb5 ht q4
          go_wp2_with fail
          refine (pathSure w5 (HE.out.below' B5.out)).mono ?_
          rintro e w6 ⟨rfl, hb6⟩
          have B6 := Lib.hid (B5.out.trans (hb6.mono B5.out.size))
          clear hb6
          go_wp2
          go_ret
          exact ⟨rfl, B6.out⟩
end Go.Proofs.YtepjcfhkbcchmaaDoor
