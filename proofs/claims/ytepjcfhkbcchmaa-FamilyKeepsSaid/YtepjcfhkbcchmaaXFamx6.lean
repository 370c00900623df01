-- Written by xprint.py (a program of this claim's author) by means of the kit's print. Not trusted: Lean checks it.
import Derived.Test.YtepjcfhkbcchmaaRowK
import Derived.Lib.Hide
import Derived.Test.YtepjcfhkbcchmaaXFamx0
import Derived.Test.YtepjcfhkbcchmaaXFamx1
import Derived.Test.YtepjcfhkbcchmaaXFamx2
import Derived.Test.YtepjcfhkbcchmaaXFamx4
import Derived.Test.YtepjcfhkbcchmaaXFamx5
namespace Go.Proofs.Ytepjcfhkbcchmaa.XFam
open Go.RowKit Go.Proofs.YtepjcfhkbcchmaaW.PrintWords Go.Proofs.YtepjcfhkbcchmaaW.PrintLast Go.Proofs.YtepjcfhkbcchmaaW.PrintMore
attribute [local go_sem] max2_int min2_int max_two min_two max_three min_three max_four min_four   -- for this text's walks alone
set_option linter.unusedVariables false
set_option linter.unusedSimpArgs false

-- EXTERN family_Exit
/-! ### family_Exit: function 5, by hand -/
open Go.Proofs.Ytepjcfhkbcchmaa.RowK
theorem alive_nil (l0 : List S25) (a1 : Int) (hal : family_alive.f l0 a1 = some true) : 0 < l0.length := by
  rcases Nat.eq_zero_or_pos l0.length with h0 | h0
  · exfalso
    have hl := List.length_eq_zero_iff.1 h0
    subst hl
    unfold family_alive.f family_at.f at hal
    simp [ixM, Lib.idxBy, Lib.idxByFrom] at hal
  · exact h0
def exM (p st : Int) (x : S25) : S25 := if x.f0 = p then ⟨x.f0, x.f1, true, st⟩ else if x.f1 = p then ⟨x.f0, 1, x.f2, x.f3⟩ else x
def family_Exit.f (k : Nat) (l0 : List S25) (a1 a2 : Int) : Option (List S25 × Option Int) := (family_Check.f k l0).bind fun b => (if b.isNone = true then ((family_alive.f l0 a1).bind fun al => (if al = true then (if a1 = 1 then some ([], some 1) else ((family_Member_12.f l0).bind fun c => some (c.map (exM a1 a2), none))) else some ([], some 3))) else some ([], some 22))
theorem family_Exit.mono : ∀ a0 a1 a2 k, LeO (family_Exit.f k a0 a1 a2) (family_Exit.f (k + 1) a0 a1 a2) := by
  intro a0 a1 a2 k
  unfold family_Exit.f
  exact LeO.bind (family_Check.mono _ _) (fun _ => LeO.refl _)
set_option maxHeartbeats 8000000 in
set_option maxRecDepth 100000 in
theorem family_Exit.calls (k : Nat) (A0 : Option Addr) (c0 : Nat) (l0 : List S25) (a1 a2 : Int) (r1 : List S25) (r2 : Option Int) (w : World) (hr0 : Kd.C k25 w A0 l0.length l0) (hc0 : l0.length ≤ c0) (h : family_Exit.f k l0 a1 a2 = some (r1, r2)) :
    Calls Try.prog 5 #[.slice A0 l0.length c0, .int .i64 a1, .int .u32 a2] w fun e w' => ∃ v0_ : Value, e = .returned (.tuple #[v0_, errW r2]) ∧ Kd.R k25 25 w' w.heap.size (fun _ => True) v0_ r1 ∧ Below w.heap.size w w' := by
  unfold family_Exit.f at h
  obtain ⟨b, hf, h⟩ := Option.bind_eq_some_iff.mp h
  have hF : ∀ W : World, Below w.heap.size w W → Calls Try.prog 9 #[.slice A0 l0.length c0] W fun e w' => e = .returned (errW b) ∧ Below W.heap.size W w' :=
    fun W hW => family_Check.calls k A0 c0 l0 b W (Kd.C_below hr0 hW) hc0 hf
  have HF := Lib.hid hF
  have HR := Lib.hid hr0
  have HC := Lib.hid hc0
  have HH := Lib.hid h
  clear hF hr0 hc0 hf h
  go_enter Try.func5, Try.ntmps5
  go_wp2_with fail
  refine (HF.out _ (Below.refl _ w)).mono ?_
  rintro e w1 ⟨rfl, hb1⟩
  have B1 := Lib.hid hb1
  clear hb1
  have H := HH.out
  cases b with
  | some er =>
    obtain ⟨rfl, rfl⟩ := Prod.mk.inj (Option.some.inj (show some (([] : List S25), some (22 : Int)) = some (r1, r2) by simpa using H))
    clear H HH
    try simp only [errW_none, errW_some]
    go_wp2
    go_ret2
    exact ⟨_, rfl, Kd.R_nil _ _ _ _ _, B1.out⟩
  | none =>
    try simp only [errW_none, errW_some]
    obtain ⟨al, hal, h2⟩ := Option.bind_eq_some_iff.mp (show ((family_alive.f l0 a1).bind fun al => (if al = true then (if a1 = 1 then some (([] : List S25), some (1 : Int)) else ((family_Member_12.f l0).bind fun c => some (c.map (exM a1 a2), none))) else some ([], some 3))) = some (r1, r2) by simpa using H)
    have hA : ∀ W : World, Below w.heap.size w W → Calls Try.prog 11 #[.slice A0 l0.length c0, .int .i64 a1] W fun e w' => e = .returned (.bool al) ∧ Below W.heap.size W w' :=
      fun W hW => family_alive.calls A0 c0 l0 a1 al W (Kd.C_below HR.out hW) HC.out hal
    have HA := Lib.hid hA
    have H2 := Lib.hid h2
    have hpos : al = true → 0 < l0.length := fun hb => by subst hb; exact alive_nil l0 a1 hal
    have HPO := Lib.hid hpos
    clear H HH hA hal h2 HF hpos
    go_wp2_with fail
    refine (HA.out _ B1.out).mono ?_
    rintro e w2 ⟨rfl, hb2⟩
    have B2 := Lib.hid (B1.out.trans (hb2.mono B1.out.size))
    clear hb2 HA B1
    have H := H2.out
    cases al with
    | false =>
      obtain ⟨rfl, rfl⟩ := Prod.mk.inj (Option.some.inj (show some (([] : List S25), some (3 : Int)) = some (r1, r2) by simpa using H))
      clear H H2
      go_wp2
      go_ret2
      exact ⟨_, rfl, Kd.R_nil _ _ _ _ _, B2.out⟩
    | true =>
      have HP := Lib.hid (HPO.out rfl)
      clear HPO
      by_cases hp1 : a1 = 1
      · obtain ⟨rfl, rfl⟩ := Prod.mk.inj (Option.some.inj (show some (([] : List S25), some (1 : Int)) = some (r1, r2) by simpa [hp1] using H))
        clear H H2
        go_wp2
        go_ret2
        exact ⟨_, rfl, Kd.R_nil _ _ _ _ _, B2.out⟩
      · obtain ⟨c, hc, hres⟩ := Option.bind_eq_some_iff.mp (show ((family_Member_12.f l0).bind fun c => some (c.map (exM a1 a2), (none : Option Int))) = some (r1, r2) by simpa [hp1] using H)
        obtain ⟨rfl, rfl⟩ := Prod.mk.inj (Option.some.inj hres)
        have hcl : c = l0 ∧ l0.length < 5864062014805 := by
          unfold family_Member_12.f at hc
          split at hc
          · rename_i hlim
            exact ⟨(Option.some.inj hc).symm, hlim⟩
          · cases hc
        obtain ⟨hcl, hlim⟩ := hcl
        have HLIM := Lib.hid hlim
        have hC : ∀ W : World, Below w.heap.size w W → Calls Try.prog 12 #[.slice A0 l0.length c0] W fun e w' => ∃ v0_ : Value, e = .returned v0_ ∧ Kd.R k25 25 w' W.heap.size (fun _ => True) v0_ l0 ∧ Below W.heap.size W w' :=
          fun W hW => by
            have := family_Member_12.calls A0 c0 l0 c W (Kd.C_below HR.out hW) HC.out hc
            rwa [hcl] at this
        subst hcl
        have HL := Lib.hid hC
        clear H H2 hres hc hC hlim
        go_wp2_with fail
        refine (HL.out _ B2.out).mono ?_
        rintro e w3 ⟨v0, rfl, hR3, hb3⟩
        have B3 := Lib.hid (B2.out.trans (hb3.mono B2.out.size))
        have HS := Lib.hid B2.out.size
        clear hb3 HL
        obtain ⟨g, cap, rest, rfl, hbg, hcap, _, hRow, hback⟩ := own_row hR3 HP.out
        have HK := Lib.hid hback
        have HW := Lib.hid hRow
        have HG := Lib.hid hbg
        have hbig : c.length ≤ 4611686018427387904 := by have h_ : c.length < 5864062014805 := HLIM.out; omega
        have HI := Lib.hid hp1
        clear hR3 hback hRow hbg hp1
        go_wp2_with fail
        go_loopg [30] c.length (fun gg s30 wr => ∃ (u t : List S25), s30 = .int .i64 (u.length : Nat) ∧ t.length ≤ gg ∧
          Aside (Row encM 25 wr g (u.map (exM a1 a2) ++ t) rest) ∧ Aside (Oth w3 wr g) ∧ Aside (c = u ++ t))
        case atStart => exact ⟨[], c, rfl, Nat.le_refl _, HW.out, Oth.refl _ _, rfl⟩
        case round =>
          obtain ⟨u, t, rfl, hg, HRr, HOr, HIr⟩ := hrel
          have hlen : u.length + t.length = c.length := by have h_ : c = u ++ t := HIr.out; rw [h_]; simp
          cases t with
          | nil =>
            have e1 : u.length = c.length := by simpa using hlen
            have hlt : ¬ (u.length : Int) < (c.length : Int) := by omega
            clear hlen
            go_wp2_with fail
            go_ret2
            have h_ : c = u := by have := HIr.out; simpa using this
            have hm : (c.map (exM a1 a2)).length = c.length := List.length_map _
            have hRr : Row encM 25 wr g (c.map (exM a1 a2)) rest := by have := HRr.out; rw [h_]; simpa using this
            have hK := HK.out wr _ rest (fun _ => True) trivial (by rw [hm]) (by rw [hm]; exact Nat.le_refl _) hRr
            rw [hm] at hK
            refine ⟨_, rfl, Kd.R_lower hK (by have := HS.out; omega), B3.out.trans (HOr.out.below (by have h1_ := HG.out; have h2_ := HS.out; omega) B3.out.size)⟩
          | cons x t =>
            have hlt : (u.length : Int) < (c.length : Int) := by simp at hlen; omega
            have hltn : u.length < c.length := by omega
            have hml : (u.map (exM a1 a2)).length = u.length := List.length_map _
            have hcell : ∀ i v, (encM x)[i]? = some v → wr.cell? ⟨g, u.length * 4 + i, none⟩ = some v := fun i v hi => by
              have := Row.cell (k := 4) (fun _ => rfl) HRr.out i v hi
              rwa [hml] at this
            have q0 : wr.cell? ⟨g, u.length * 4, none⟩ = some (.int .i64 x.f0) := hcell 0 _ rfl
            have q1 : wr.cell? ⟨g, u.length * 4 + 1, none⟩ = some (.int .i64 x.f1) := hcell 1 _ rfl
            have q2 : wr.cell? ⟨g, u.length * 4 + 2, none⟩ = some (.bool x.f2) := hcell 2 _ rfl
            have q3 : wr.cell? ⟨g, u.length * 4 + 3, none⟩ = some (.int .u32 x.f3) := hcell 3 _ rfl
            have hfz : ∀ j, wr.frozen? ⟨g, j, none⟩ = false := fun j => HRr.out.frozen j
            have HM := Lib.hid hml
            have HLN := Lib.hid hlen
            clear hcell hml hlen
            have hex : ∀ y : S25, exM a1 a2 x = y → u.map (exM a1 a2) ++ y :: t = (u ++ [x]).map (exM a1 a2) ++ t := fun y hy => by rw [← hy]; simp
            have HX := Lib.hid hex
            clear hex
            by_cases hq : x.f0 = a1
            · have hqb : (x.f0 == a1) = true := by simp [hq]
              have HQ := Lib.hid hq
              clear hq
              go_wp2_with fail
              go_roundg t.length
              case measure => simp at hg; omega
              case rel =>
                have hy : exM a1 a2 x = ⟨x.f0, x.f1, true, a2⟩ := by unfold exM; rw [if_pos HQ.out]
                have r1 := HRr.out.put1 (k := 4) (fun _ => rfl) 2 (.bool true) ⟨x.f0, x.f1, true, x.f3⟩ (by omega) rfl
                have r2 := r1.put1 (k := 4) (fun _ => rfl) 3 (.int .u32 a2) ⟨x.f0, x.f1, true, a2⟩ (by omega) rfl
                rw [HM.out] at r2
                refine ⟨u ++ [x], t, ?_, Nat.le_refl _, ?_, ?_, ?_⟩
                · have e_ : (((u ++ [x]).length : Nat) : Int) = (u.length : Int) + 1 := by simp
                  rw [e_]
                · show Row _ _ _ _ _ _
                  rw [← HX.out _ hy]
                  exact r2
                · exact (HOr.out.trans (Oth.put1 _ _ _ _)).trans (Oth.put1 _ _ _ _)
                · show c = _
                  have h_ : c = u ++ x :: t := HIr.out
                  rw [h_]; simp
            · have hqb : (x.f0 == a1) = false := by simp [hq]
              have HQ := Lib.hid hq
              clear hq
              by_cases hp : x.f1 = a1
              · have hpb : (x.f1 == a1) = true := by simp [hp]
                have HPP := Lib.hid hp
                clear hp
                go_wp2_with fail
                go_roundg t.length
                case measure => simp at hg; omega
                case rel =>
                  have hy : exM a1 a2 x = ⟨x.f0, 1, x.f2, x.f3⟩ := by unfold exM; rw [if_neg HQ.out, if_pos HPP.out]
                  have r1 := HRr.out.put1 (k := 4) (fun _ => rfl) 1 (.int .i64 1) ⟨x.f0, 1, x.f2, x.f3⟩ (by omega) rfl
                  rw [HM.out] at r1
                  refine ⟨u ++ [x], t, ?_, Nat.le_refl _, ?_, ?_, ?_⟩
                  · have e_ : (((u ++ [x]).length : Nat) : Int) = (u.length : Int) + 1 := by simp
                    rw [e_]
                  · show Row _ _ _ _ _ _
                    rw [← HX.out _ hy]
                    exact r1
                  · exact HOr.out.trans (Oth.put1 _ _ _ _)
                  · show c = _
                    have h_ : c = u ++ x :: t := HIr.out
                    rw [h_]; simp
              · have hpb : (x.f1 == a1) = false := by simp [hp]
                have HPP := Lib.hid hp
                clear hp
                go_wp2_with fail
                go_roundg t.length
                case measure => simp at hg; omega
                case rel =>
                  have hy : exM a1 a2 x = x := by unfold exM; rw [if_neg HQ.out, if_neg HPP.out]
                  refine ⟨u ++ [x], t, ?_, Nat.le_refl _, ?_, HOr.out, ?_⟩
                  · have e_ : (((u ++ [x]).length : Nat) : Int) = (u.length : Int) + 1 := by simp
                    rw [e_]
                  · show Row _ _ _ _ _ _
                    rw [← HX.out _ hy]
                    exact HRr.out
                  · show c = _
                    have h_ : c = u ++ x :: t := HIr.out
                    rw [h_]; simp

end Go.Proofs.Ytepjcfhkbcchmaa.XFam
