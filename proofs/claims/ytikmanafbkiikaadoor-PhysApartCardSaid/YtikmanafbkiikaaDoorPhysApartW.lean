/- The walk of PhysApart. -/
import Derived.Test.YtikmanafbkiikaaDoorPhysW
import Derived.Test.YtikmanafbkiikaaDoorPhysMath
namespace Go.Proofs.YtikmanafbkiikaaDoor
set_option linter.unusedSimpArgs false
set_option linter.unusedVariables false
open Go Go.RowKit Go.Proofs.YtikmanafbkiikaaDoorW.PrintWords Go.Proofs.YtikmanafbkiikaaDoor.RowK

theorem Mem.grown {w w' : World} {p g n : Nat} {bs : List Int} {row : Option Nat} (h : Mem w p g n bs) (hg : w.grownBy w' row) (h1 : some p ≠ row) (h2 : some g ≠ row) : Mem w' p g n bs :=
  ⟨(hg.block _ (blk_lt h.cell) h1).trans h.cell, (hg.block _ (blk_lt h.row) h2).trans h.row, h.len, h.ne, h.lim⟩
theorem write_at (w : World) (p g n : Nat) (bs : List Int) (h : Mem w p g n bs) (f o : Int) (A : Option Addr) (b : List Int) (c : Nat) (q : Nat) (hq : f.toNat * 256 + o.toNat = q) (hb : Kd.C Bk w A b.length b) (hf0 : 0 ≤ f) (hf1 : f < n) (ho0 : 0 ≤ o) (ho1 : o ≤ 256) (hm1 : (b.length : Int) ≤ 256 - o) :
    Calls Tryd.prog 13 #[.pointer (some ⟨p, 0, none⟩), .int .i64 f, .int .i64 o, .slice A b.length c] w fun e w' => e = .returned .nilIface ∧ Mem w' p g n (spl bs q b) ∧ Oth w w' g := by
  subst hq
  exact write_ok w p g n bs h f o A b c hb hf0 hf1 ho0 ho1 hm1
theorem read_at (w : World) (p g n : Nat) (bs : List Int) (h : Mem w p g n bs) (f o m : Int) (q k : Nat) (hq : f.toNat * 256 + o.toNat = q) (hk : m.toNat = k) (hf0 : 0 ≤ f) (hf1 : f < n) (ho0 : 0 ≤ o) (ho1 : o ≤ 256) (hm0 : 0 ≤ m) (hm1 : m ≤ 256 - o) :
    Calls Tryd.prog 12 #[.pointer (some ⟨p, 0, none⟩), .int .i64 f, .int .i64 o, .int .i64 m] w fun e w' => ∃ v, e = .returned (.tuple #[v, .nilIface]) ∧ Kd.R Bk 5 w' w.heap.size (fun _ => True) v (seg bs q k) ∧ Below w.heap.size w w' := by
  subst hq hk
  exact read_ok w p g n bs h f o m hf0 hf1 ho0 ho1 hm0 hm1
set_option maxHeartbeats 4000000 in
set_option maxRecDepth 100000 in
theorem physApart (at_ : Int) (A1 : Option Addr) (c1 : Nat) (l1 : List Int) (A2 : Option Addr) (c2 : Nat) (l2 : List Int) (w : World) (hE : EW w) (hC1 : Kd.C Bk w A1 l1.length l1) (hC2 : Kd.C Bk w A2 l2.length l2) :
    Calls Tryd.prog 4 #[.int .i64 at_, .slice A1 l1.length c1, .slice A2 l2.length c2] w fun e w' => e = .returned (.bool true) ∧ Below w.heap.size w w' := by
  have HE := Lib.hid hE
  have C1 := Lib.hid hC1
  have C2 := Lib.hid hC2
  have hm1 := Kd.C_max hC1
  have hm2 := Kd.C_max hC2
  clear hE hC1 hC2
  by_cases h : 100 < (l1.length : Int) ∨ 100 < (l2.length : Int)
  · by_cases h1 : 100 < (l1.length : Int)
    · have b1 : decide (100 < (l1.length : Int)) = true := decide_eq_true h1
      clear h
      go_enter Tryd.func4, Tryd.ntmps4
      go_wp2_with fail
      refine (physSure _ HE.out).mono ?_
      rintro e w1 ⟨rfl, hb⟩
      have B := Lib.hid hb
      clear hb
      go_wp2
      go_ret
      exact ⟨rfl, B.out⟩
    · have h2 : 100 < (l2.length : Int) := by omega
      have b1 : decide (100 < (l1.length : Int)) = false := decide_eq_false h1
      have b2 : decide (100 < (l2.length : Int)) = true := decide_eq_true h2
      clear h
      go_enter Tryd.func4, Tryd.ntmps4
      go_wp2_with fail
      refine (physSure _ HE.out).mono ?_
      rintro e w1 ⟨rfl, hb⟩
      have B := Lib.hid hb
      clear hb
      go_wp2
      go_ret
      exact ⟨rfl, B.out⟩
  · have h1 : ¬ 100 < (l1.length : Int) := by omega
    have h2 : ¬ 100 < (l2.length : Int) := by omega
    have b1 : decide (100 < (l1.length : Int)) = false := decide_eq_false h1
    have b2 : decide (100 < (l2.length : Int)) = false := decide_eq_false h2
    clear h
    obtain ⟨o, ho, ho56⟩ : ∃ o : Nat, wrap64 ((IntKind.u64.wrap at_).tmod 56) = (o : Int) ∧ o < 56 := by
      refine ⟨((IntKind.u64.wrap at_).tmod 56).toNat, ?_, ?_⟩ <;> (rw [IntKind.wrap_u64, tmod_of_emod]; first | (unfold wrap64; omega) | omega)
    have HO := Lib.hid ho
    clear ho
    go_enter Tryd.func4, Tryd.ntmps4
    go_wp2_with fail
    refine (new_mem _ 3 (by decide) (by decide)).mono ?_
    rintro e w1 ⟨p, g, rfl, hm1, hg, hb1⟩
    have M1 := Lib.hid hm1
    have B1 := Lib.hid hb1
    have HG := Lib.hid hg
    clear hm1 hb1 hg
    rw [HO.out]
    go_wp2_with ((with_reducible refine gate_builtin (b := .append) (xs := #[.tmp 40, .tmp 41]) rfl ?_); at_builtin; refine Kd.R_append_row (Value.int .u8) (0 : Int) (h1 := fun _ => rfl) (w0 := w) w.heap.size rfl (.tmp 40) (.tmp 41) 29 5 (.int .u8 0) 1 rfl Tryd.underlying29 u8info rfl (by decide) (.slice none 0 0) [] l1 A1 l1.length c1 (fun _ => True) rfl rfl (fun _ _ => trivial) ?aO ?aR ?aB ?aS ?aL ?_)
    case aO => exact Kd.R_nil _ _ _ _ _
    case aR => exact Kd.C_below C1.out B1.out
    case aB => exact B1.out
    case aS => exact B1.out.size
    case aL => simp only [List.length_nil, Nat.zero_add]; omega
    intro v1 w2 hR2 hB2 hG2 hat2
    have M2 := Lib.hid (M1.out.grown hG2 (by simp [Value.ownBlock]) (by simp [Value.ownBlock]))
    have B2 := Lib.hid hB2
    have R2 := Lib.hid hR2
    clear hR2 hB2 hG2 hat2
    go_wp2_with ((with_reducible refine gate_builtin (b := .append) (xs := #[.tmp 42, .tmp 43]) rfl ?_); at_builtin; refine Kd.R_append_row (Value.int .u8) (0 : Int) (h1 := fun _ => rfl) (w0 := w) w.heap.size rfl (.tmp 42) (.tmp 43) 29 5 (.int .u8 0) 1 rfl Tryd.underlying29 u8info rfl (by decide) v1 ([] ++ l1) l2 A2 l2.length c2 (fun _ => True) rfl rfl (fun _ _ => trivial) R2.out ?bR ?bB ?bS ?bL ?_)
    case bR => exact Kd.C_below C2.out B2.out
    case bB => exact B2.out
    case bS => exact B2.out.size
    case bL => simp only [List.nil_append]; omega
    intro v2 w3 hR3 hB3 hG3 hat3
    have M3 := Lib.hid (M2.out.grown hG3 (Kd.R_ne R2.out M2.out.cell (by decide)) (Kd.R_ne R2.out M2.out.row (by decide)))
    have B3 := Lib.hid hB3
    obtain ⟨L, hL⟩ : ∃ L, L = l1 ++ l2 := ⟨_, rfl⟩
    have hLb : o + L.length ≤ 256 := by rw [hL, List.length_append]; omega
    have R3 := Lib.hid (show Kd.R Bk 5 w3 w.heap.size (fun _ => True) v2 L by rw [hL]; exact hR3)
    have AB := Lib.hid (show spl (spl (spl (spl (spl (List.replicate 768 0) (0 * 256 + o) l1) (0 * 256 + (o + l1.length)) l2) (1 * 256 + (o + l1.length)) l2) (1 * 256 + o) l1) (2 * 256 + o) L = fr o L ++ fr o L ++ fr o L by rw [hL]; exact apart_bytes o l1 l2 (by omega))
    have SG := Lib.hid (apart_segs o L hLb)
    clear hL
    clear hR3 hB3 hG3 hat3 M2 B2 R2 M1 B1
    go_wp2_with fail
    refine (write_at _ _ _ _ _ M3.out 0 o _ l1 c1 (0 * 256 + o) (by simp) (Kd.C_below C1.out B3.out) (by decide) (by decide) (by omega) (by omega) (by omega)).mono ?_
    rintro e w4 ⟨rfl, hm4, ho4⟩
    have M4 := Lib.hid hm4
    have B4 := Lib.hid (B3.out.trans (ho4.below HG.out B3.out.size))
    have R4 := Lib.hid (R_oth R3.out M3.out ho4)
    clear hm4 ho4
    go_wp2_with fail
    refine (write_at _ _ _ _ _ M4.out 0 (o + l1.length) _ l2 c2 (0 * 256 + (o + l1.length)) (by omega) (Kd.C_below C2.out B4.out) (by decide) (by decide) (by omega) (by omega) (by omega)).mono ?_
    rintro e w5 ⟨rfl, hm5, ho5⟩
    have M5 := Lib.hid hm5
    have B5 := Lib.hid (B4.out.trans (ho5.below HG.out B4.out.size))
    have R5 := Lib.hid (R_oth R4.out M4.out ho5)
    clear hm5 ho5
    go_wp2_with fail
    refine (write_at _ _ _ _ _ M5.out 1 (o + l1.length) _ l2 c2 (1 * 256 + (o + l1.length)) (by omega) (Kd.C_below C2.out B5.out) (by decide) (by decide) (by omega) (by omega) (by omega)).mono ?_
    rintro e w6 ⟨rfl, hm6, ho6⟩
    have M6 := Lib.hid hm6
    have B6 := Lib.hid (B5.out.trans (ho6.below HG.out B5.out.size))
    have R6 := Lib.hid (R_oth R5.out M5.out ho6)
    clear hm6 ho6
    go_wp2_with fail
    refine (write_at _ _ _ _ _ M6.out 1 o _ l1 c1 (1 * 256 + o) (by omega) (Kd.C_below C1.out B6.out) (by decide) (by decide) (by omega) (by omega) (by omega)).mono ?_
    rintro e w7 ⟨rfl, hm7, ho7⟩
    have M7 := Lib.hid hm7
    have B7 := Lib.hid (B6.out.trans (ho7.below HG.out B6.out.size))
    have R7 := Lib.hid (R_oth R6.out M6.out ho7)
    clear hm7 ho7
    obtain ⟨A3, c3, rfl, hc3, hC3⟩ := Kd.R_reads R7.out
    have C3 := Lib.hid hC3
    clear hC3 hc3
    go_wp2_with fail
    refine (write_at _ _ _ _ _ M7.out 2 o _ L c3 (2 * 256 + o) (by omega) C3.out (by decide) (by decide) (by omega) (by omega) (by omega)).mono ?_
    rintro e w8 ⟨rfl, hm8, ho8⟩
    rw [show Int.toNat 3 * 256 = 768 by decide] at hm8
    rw [show spl (spl (spl (spl (spl (List.replicate 768 0) (0 * 256 + o) l1) (0 * 256 + (o + l1.length)) l2) (1 * 256 + (o + l1.length)) l2) (1 * 256 + o) l1) (2 * 256 + o) L = fr o L ++ fr o L ++ fr o L from AB.out] at hm8
    have M8 := Lib.hid hm8
    have B8 := Lib.hid (B7.out.trans (ho8.below HG.out B7.out.size))
    have R8 := Lib.hid (R_oth R7.out M7.out ho8)
    clear hm8 ho8
    go_wp2_with fail
    refine (read_at _ _ _ _ _ M8.out 0 0 256 (0 * 256 + 0) 256 (by decide) (by decide) (by decide) (by decide) (by decide) (by decide) (by decide) (by decide)).mono ?_
    rintro e w9 ⟨v4, rfl, hr9, hb9⟩
    rw [SG.out.1] at hr9
    have M9 := Lib.hid (M8.out.below hb9)
    have B9 := Lib.hid (B8.out.trans (hb9.mono B8.out.size))
    have R9 := Lib.hid (Kd.R_below R8.out hb9)
    have X9 := Lib.hid hr9
    clear hr9 hb9
    go_wp2_with fail
    refine (read_at _ _ _ _ _ M9.out 1 0 256 (1 * 256 + 0) 256 (by decide) (by decide) (by decide) (by decide) (by decide) (by decide) (by decide) (by decide)).mono ?_
    rintro e w10 ⟨v5, rfl, hr10, hb10⟩
    rw [SG.out.2.1] at hr10
    have M10 := Lib.hid (M9.out.below hb10)
    have B10 := Lib.hid (B9.out.trans (hb10.mono B9.out.size))
    have R10 := Lib.hid (Kd.R_below R9.out hb10)
    have X10 := Lib.hid (Kd.R_below X9.out hb10)
    have Y10 := Lib.hid hr10
    clear hr10 hb10
    go_wp2_with fail
    refine (read_at _ _ _ _ _ M10.out 2 0 256 (2 * 256 + 0) 256 (by decide) (by decide) (by decide) (by decide) (by decide) (by decide) (by decide) (by decide)).mono ?_
    rintro e w11 ⟨v6, rfl, hr11, hb11⟩
    rw [SG.out.2.2] at hr11
    have B11 := Lib.hid (B10.out.trans (hb11.mono B10.out.size))
    have R11 := Lib.hid (Kd.R_below R10.out hb11)
    have X11 := Lib.hid (Kd.R_below X10.out hb11)
    have Y11 := Lib.hid (Kd.R_below Y10.out hb11)
    have Z11 := Lib.hid hr11
    clear hr11 hb11
    have D11 := Lib.hid (Kd.R_reads' R11.out).2.2
    clear R11 R10 R9 R8 R7 R6 R5 R4 R3
    obtain ⟨F, hF⟩ : ∃ F, F = fr o L := ⟨_, rfl⟩
    have hFl : F.length = 256 := by rw [hF]; exact fr_length hLb
    have hFm : (F.take (o + L.length)).drop o = L := by rw [hF]; exact fr_mid o L
    have hX := X11.out
    have hY := Y11.out
    have hZ := Z11.out
    rw [← hF] at hX hY hZ
    obtain ⟨A4, c4, rfl, hc4, hC4⟩ := Kd.R_reads hX
    obtain ⟨A5, c5, rfl, hc5, hC5⟩ := Kd.R_reads hY
    obtain ⟨A6, c6, rfl, hc6, hC6⟩ := Kd.R_reads hZ
    obtain ⟨i0, hi0, _, hsz0, _⟩ := info_parts u8info
    have hcut := fun W => cut_mid (P := Tryd.prog) 29 5 .i64 .i64 Tryd.underlying29 hi0 1 hsz0 A4 F.length c4 (o : Int) ((o : Int) + (L.length : Int)) (by omega) (by omega) (by omega) hc4 W
    have hmid := Kd.C_mid (lo := o) (hi := o + L.length) hC4 (by omega) (by omega) hc4
    rw [hFm] at hmid
    rw [show ((o : Int)).toNat = o by omega, show ((o : Int) + (L.length : Int)).toNat - o = L.length by omega, show (1 : Nat) = Bk.sz by rfl] at hcut
    obtain ⟨X, hX'⟩ : ∃ X, X = (if c4 = o then A4 else A4.map (·.add (o * Bk.sz))) := ⟨_, rfl⟩
    rw [← hX'] at hcut hmid
    have S4 := fun (n : Later w11) => str_of (c := c4) (Kd.C_below hC4 n.2)
    have S5 := fun (n : Later w11) => str_of (c := c5) (Kd.C_below hC5 n.2)
    have S6 := fun (n : Later w11) => str_of (c := c6) (Kd.C_below hC6 n.2)
    have S7 := fun (n : Later w11) => str_of (c := c4 - o) (Kd.C_below hmid n.2)
    have S8 := fun (n : Later w11) => str_of (c := c3) (Kd.C_below D11.out n.2)
    have SU := fun (n : Later w11) => physSure n.1 (HE.out.below' (B11.out.trans (n.2.mono B11.out.size)))
    have SH := Lib.hid SU
    rw [hFl] at hcut S4 S5 S6 ⊢
    clear hX hY hZ hC4 hC5 hC6 hmid hX' hFm hF hi0 hsz0 SU hc4 hc5 hc6
    go_wp2_with fail
    refine wp_region_later (w := w11) (by kernel_rfl) (by kernel_rfl) ?_
    repeat (go_big_quiet_step (first | (go_at_call 15; exact later_call (SH.out _))))
    refine wpQuiet_nil ?_
    intro _ hw'
    obtain ⟨n, hw''⟩ := hw'
    subst hw''
    go_wp2
    go_ret
    exact ⟨rfl, B11.out.trans (n.2.mono B11.out.size)⟩
end Go.Proofs.YtikmanafbkiikaaDoor
