/- The walks of layer 16's laws: sure; the calls in plain words. -/
import Derived.Test.YtepjcfhkbcchmaaDoorPathE
import Derived.Test.YtepjcfhkbcchmaaDoorNum16
import Derived.Test.YtepjcfhkbcchmaaDoorLawW
namespace Go.Proofs.YtepjcfhkbcchmaaDoor
set_option linter.unusedSimpArgs false
set_option linter.unusedVariables false
set_option linter.unusedSimpArgs false
set_option linter.unusedVariables false
open Go Go.RowKit Go.Proofs.YtepjcfhkbcchmaaDoorW.PrintWords Go.Proofs.YtepjcfhkbcchmaaDoorW.PrintMore Go.Proofs.YtepjcfhkbcchmaaDoor.RowK Go.Proofs.YtepjcfhkbcchmaaDoor.PathM

theorem perr (e : Option Int) : XPath.errW e = errW e := by cases e <;> rfl
theorem numOf_eq (e : Option Int) : numOf e = e.getD 0 := by cases e <;> rfl
/-- What a call leaves of strings: a row that is read. -/
def Strs (w w' : World) (A : Option Addr) (c : Nat) (L : List ByteArray) : Prop := Kd.C Kd.string w' A L.length L ∧ L.length ≤ c ∧ Below w.heap.size w w'
theorem c_split (s : ByteArray) (hs : (lst s).length ≤ 1000000) (w : World) :
    Calls Tryd.prog 36 #[.string s] w fun e w' => ∃ A c, e = .returned (.tuple #[.slice A ((splitA (lst s)).1.map mkB).length c, .bool (splitA (lst s)).2.1, errW (splitA (lst s)).2.2]) ∧ Strs w w' A c ((splitA (lst s)).1.map mkB) := by
  refine (XPath.path_Split.calls 20 s _ _ _ w (Split_ev s (by rw [sz]; exact hs) 20 (by decide))).mono ?_
  rintro e w' ⟨v, rfl, hR, hb⟩
  obtain ⟨A, c, rfl, hc, hC⟩ := Kd.R_reads hR
  exact ⟨A, c, by rw [perr], hC, hc, hb⟩
theorem c_refSplit (s : ByteArray) (hs : (lst s).length ≤ 1000000) (w : World) :
    Calls Tryd.prog 37 #[.string s] w fun e w' => ∃ A c, e = .returned (.tuple #[.slice A ((splitA (lst s)).1.map mkB).length c, .bool (splitA (lst s)).2.1, .int .i64 (numOf (splitA (lst s)).2.2)]) ∧ Strs w w' A c ((splitA (lst s)).1.map mkB) := by
  refine (XPath.halterref16_Split.calls (2 * (lst s).length + 40) s _ _ _ w (refSplit_ev s hs _ (by omega))).mono ?_
  rintro e w' ⟨v, rfl, hR, hb⟩
  obtain ⟨A, c, rfl, hc, hC⟩ := Kd.R_reads hR
  exact ⟨A, c, by rw [numOf_eq], hC, hc, hb⟩
theorem c_last (s : ByteArray) (hs : (lst s).length ≤ 1000000) (w : World) :
    Calls Tryd.prog 38 #[.string s] w fun e w' => e = .returned (.tuple #[.string (mkB (lastA (lst s)).1), .string (mkB (lastA (lst s)).2.1), errW (lastA (lst s)).2.2]) ∧ Below w.heap.size w w' := by
  refine (XPath.path_Last.calls 20 s _ _ _ w (Last_ev s hs 20 (by decide))).mono ?_
  rintro e w' ⟨rfl, hb⟩
  exact ⟨by rw [perr], hb⟩
theorem c_refLast (s : ByteArray) (hs : (lst s).length ≤ 1000000) (w : World) :
    Calls Tryd.prog 39 #[.string s] w fun e w' => e = .returned (.tuple #[.string (mkB (lastA (lst s)).1), .string (mkB (lastA (lst s)).2.1), .int .i64 (numOf (lastA (lst s)).2.2)]) ∧ Below w.heap.size w w' := by
  refine (XPath.halterref16_Last.calls (2 * (lst s).length + 40) s _ _ _ w (refLast_ev s hs _ (by omega))).mono ?_
  rintro e w' ⟨rfl, hb⟩
  exact ⟨by rw [numOf_eq], hb⟩
theorem c_join (A : Option Addr) (c : Nat) (l : List ByteArray) (w : World) (h : Kd.C Kd.string w A l.length l) (hc : l.length ≤ c) :
    Calls Tryd.prog 44 #[.slice A l.length c] w fun e w' => e = .returned (.tuple #[.string (mkB (joinA (l.map lst)).1), errW (joinA (l.map lst)).2]) ∧ Below w.heap.size w w' := by
  refine (XPath.path_Join.calls 20 A c l _ _ w h hc (Join_ev l 20 (by decide))).mono ?_
  rintro e w' ⟨rfl, hb⟩
  exact ⟨by rw [perr], hb⟩
theorem c_refJoin (A : Option Addr) (c : Nat) (l : List ByteArray) (w : World) (h : Kd.C Kd.string w A l.length l) (hc : l.length ≤ c) :
    Calls Tryd.prog 45 #[.slice A l.length c] w fun e w' => e = .returned (.tuple #[.string (mkB (joinA (l.map lst)).1), .int .i64 (numOf (joinA (l.map lst)).2)]) ∧ Below w.heap.size w w' := by
  refine (XPath.halterref16_Join.calls 40 A c l _ _ w h hc (refJoin_ev l 40 (by decide))).mono ?_
  rintro e w' ⟨rfl, hb⟩
  exact ⟨by rw [numOf_eq], hb.below⟩
theorem c_check (s : ByteArray) (w : World) : Calls Tryd.prog 42 #[.string s] w fun e w' => e = .returned (errW (chkN (lst s))) ∧ Below w.heap.size w w' := by
  refine (XPath.path_Check.calls s _ w (Check_ev s)).mono ?_
  rintro e w' ⟨rfl, hb⟩
  exact ⟨by rw [perr], hb⟩
theorem c_refCheck (s : ByteArray) (w : World) : Calls Tryd.prog 43 #[.string s] w fun e w' => e = .returned (.int .i64 (numOf (chkN (lst s)))) ∧ Below w.heap.size w w' := by
  refine (XPath.halterref16_Check.calls 20 s _ w (refCheck_ev s 20 (by decide))).mono ?_
  rintro e w' ⟨rfl, hb⟩
  exact ⟨by rw [numOf_eq], hb.below⟩
theorem c_texts (A B : Option Addr) (c d : Nat) (l : List ByteArray) (hl : l.length ≤ 1000000) (w : World) (h : Kd.C Kd.string w A l.length l) (hc : l.length ≤ c) (h' : Kd.C Kd.string w B l.length l) (hd : l.length ≤ d) :
    Calls Tryd.prog 40 #[.slice A l.length c, .slice B l.length d] w fun e w' => e = .returned (.bool true) ∧ Below w.heap.size w w' := by
  refine (XPath.halterlaw16_texts.calls (l.length + 1) A c l B d l true w h hc h' hd (texts_yes l hl)).mono ?_
  rintro e w' ⟨rfl, hb⟩
  exact ⟨rfl, hb.below⟩
theorem split_len (l : List UInt8) : (splitA l).1.length ≤ 8 := by
  unfold splitA
  split
  · exact Nat.zero_le _
  · split
    · rename_i h
      exact (chkL_none.1 h).1
    · exact Nat.zero_le _
theorem sure_s1 : splitA [47, 97, 47, 47, 98, 47] = ([[97], [98]], true, none) := by decide +kernel
theorem sure_s2 : lastA [47, 97, 47, 47, 98, 47] = ([98], [47, 97, 47, 47], none) := by decide +kernel
theorem sure_s3 : joinA [[97], [98]] = ([47, 97, 47, 98], none) := by decide +kernel
theorem sure_s4 : chkN [65] = some 22 := by decide +kernel
theorem two_strs (w : World) (a b : ByteArray) : Kd.C Kd.string (w.alloc (.cells #[.string a, .string b] 9 (0, 0))) (some ⟨w.heap.size, 0, none⟩) [a, b].length [a, b] := by
  refine ⟨rfl, by simp, fun _ => ⟨_, rfl, fun j p hj => ⟨[.string p], rfl, rfl, fun i u hi => ?_⟩⟩⟩
  rw [Addr.add_lit, cell_of_row _ _ _ _ _ _ (heap_alloc_new w _)]
  have hi0 : i = 0 := by
    cases i with
    | zero => rfl
    | succ i => simp at hi
  subst hi0
  have hu : Value.string p = u := by simpa using hi
  rw [← hu]
  match j, hj with
  | 0, hj => have : a = p := by simpa using hj
             rw [this]; rfl
  | 1, hj => have : b = p := by simpa using hj
             rw [this]; rfl
  | j + 2, hj => simp at hj
set_option maxHeartbeats 1000000 in
set_option maxRecDepth 100000 in
theorem pathSure (w : World) (hE : EW w) : Calls Tryd.prog 35 #[] w fun e w' => e = .returned (.bool true) ∧ Below w.heap.size w w' := by
  have HE := Lib.hid hE
  clear hE
  go_enter Tryd.func35, Tryd.ntmps35
  go_wp2_with fail
  refine (c_split ⟨#[47, 97, 47, 47, 98, 47]⟩ (by decide) w).mono ?_
  rintro e w1 ⟨A1, c1, rfl, hC1, hc1, hb1⟩
  obtain ⟨L, hL⟩ : ∃ L, L = (splitA (lst ⟨#[47, 97, 47, 47, 98, 47]⟩)).1.map mkB := ⟨_, rfl⟩
  have e1 : (splitA (lst ⟨#[47, 97, 47, 47, 98, 47]⟩)).2.1 = true := by rw [show splitA (lst ⟨#[47, 97, 47, 47, 98, 47]⟩) = _ from sure_s1]
  have e2 : (splitA (lst ⟨#[47, 97, 47, 47, 98, 47]⟩)).2.2 = none := by rw [show splitA (lst ⟨#[47, 97, 47, 47, 98, 47]⟩) = _ from sure_s1]
  have e3 : L = [mkB [97], mkB [98]] := by rw [hL, show splitA (lst ⟨#[47, 97, 47, 47, 98, 47]⟩) = _ from sure_s1]; rfl
  rw [← hL] at hC1 hc1
  rw [← hL, e1, e2, errW_none]
  have HL := Lib.hid e3
  have C1 := Lib.hid hC1
  have B1 := Lib.hid hb1
  clear hL e1 e2 e3 hC1 hb1
  go_wp2_with fail
  refine (c_last ⟨#[47, 97, 47, 47, 98, 47]⟩ (by decide) w1).mono ?_
  rintro e w2 ⟨rfl, hb2⟩
  rw [show lastA (lst ⟨#[47, 97, 47, 47, 98, 47]⟩) = _ from sure_s2, errW_none]
  have C2 := Lib.hid (Kd.C_below C1.out hb2)
  have B2 := Lib.hid (B1.out.trans (hb2.mono B1.out.size))
  clear hb2
  go_wp2_with fail
  refine (c_join A1 c1 L w2 C2.out hc1).mono ?_
  rintro e w3 ⟨rfl, hb3⟩
  rw [show L.map lst = [[97], [98]] by rw [HL.out]; rfl, sure_s3, errW_none]
  have C3 := Lib.hid (Kd.C_below C2.out hb3)
  have B3 := Lib.hid (B2.out.trans (hb3.mono B2.out.size))
  clear hb3
  go_wp2_with fail
  have hD := two_strs w3 (mkB [97]) (mkB [98])
  rw [← HL.out] at hD
  have hb4 : Below w3.heap.size w3 (w3.alloc (.cells #[.string (mkB [97]), .string (mkB [98])] 9 (0, 0))) := (Below.refl _ _).alloc (Nat.le_refl _) _
  have h2 : L.length = 2 := by rw [HL.out]; rfl
  have B4 := Lib.hid (B3.out.trans (hb4.mono B3.out.size))
  have ht := c_texts A1 (some ⟨w3.heap.size, 0, none⟩) c1 2 L (by omega) _ (Kd.C_below C3.out hb4) hc1 hD (by omega)
  rw [h2] at ht
  rw [h2]
  refine ht.mono ?_
  rintro e w5 ⟨rfl, hb5⟩
  have B5 := Lib.hid (B4.out.trans (hb5.mono B4.out.size))
  clear ht hD hb4 hb5
  have q1 : (mkB [98]).toList = [98] := tl _
  have q2 : (mkB [47, 97, 47, 47]).toList = [47, 97, 47, 47] := tl _
  have q3 : (mkB [47, 97, 47, 98]).toList = [47, 97, 47, 98] := tl _
  go_wp2_with fail
  refine (c_check ⟨#[65]⟩ w5).mono ?_
  rintro e w6 ⟨rfl, hb6⟩
  rw [show chkN (lst ⟨#[65]⟩) = _ from sure_s4]
  have B6 := Lib.hid (B5.out.trans (hb6.mono B5.out.size))
  clear hb6
  go_wp2_with fail
  refine (num_calls (some 22) w6 (HE.out.below' B6.out)).mono ?_
  rintro e w7 ⟨rfl, hb7⟩
  rw [show numOf (some 22) = 22 from rfl]
  have B7 := Lib.hid (B6.out.trans (hb7.mono B6.out.size))
  clear hb7
  go_wp2
  go_ret
  exact ⟨rfl, B7.out⟩
end Go.Proofs.YtepjcfhkbcchmaaDoor
