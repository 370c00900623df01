/- The walk of PhysKeeps. -/
import Derived.Test.YtikmanafbkiikaaDoorPhysW
import Derived.Test.YtikmanafbkiikaaDoorKd
import Derived.LoopN
import Derived.Deep.LoopGhost
import Derived.Laws.BitsAllLaws
namespace Go.Proofs.YtikmanafbkiikaaDoor
set_option linter.unusedSimpArgs false
set_option linter.unusedVariables false
open Go Go.RowKit Go.Proofs.YtikmanafbkiikaaDoorW.PrintWords Go.Proofs.YtikmanafbkiikaaDoorW.PrintMore Go.Proofs.YtikmanafbkiikaaDoor.RowK Kinds
attribute [local go_sem] max2_int min2_int max_two min_two

theorem mod_u (a : Int) (k : Nat) (hk : 0 < k) (hk2 : k < 1000000) : ∃ o : Nat, wrap64 ((IntKind.u64.wrap a).tmod (k : Int)) = (o : Int) ∧ o < k := by
  have h0 : 0 ≤ (IntKind.u64.wrap a).tmod (k : Int) := by rw [IntKind.wrap_u64]; exact Int.tmod_nonneg _ (Int.emod_nonneg _ (by decide))
  have h1 : (IntKind.u64.wrap a).tmod (k : Int) < k := Int.tmod_lt_of_pos _ (by omega)
  exact ⟨((IntKind.u64.wrap a).tmod (k : Int)).toNat, by unfold wrap64; omega, by omega⟩
theorem spot_none {w : World} {ad : Addr} {v : Value} (h : w.cell? ad = some v) : ad.spot = none := by
  unfold World.cell? at h
  split at h
  · split at h
    · cases h
    · rename_i hs; simpa using hs
  · cases h
theorem write_m (w : World) (p g n : Nat) (bs : List Int) (h : Mem w p g n bs) (f o : Int) (A : Option Addr) (b : List Int) (m c : Nat) (q : Nat) (hl : b.length = m) (hq : f.toNat * 256 + o.toNat = q) (hb : Kd.C Bk w A b.length b) (hf0 : 0 ≤ f) (hf1 : f < n) (ho0 : 0 ≤ o) (ho1 : o ≤ 256) (hm1 : (m : Int) ≤ 256 - o) :
    Calls Tryd.prog 13 #[.pointer (some ⟨p, 0, none⟩), .int .i64 f, .int .i64 o, .slice A m c] w fun e w' => e = .returned .nilIface ∧ Mem w' p g n (spl bs q b) ∧ Oth w w' g := by
  subst hl
  exact write_at w p g n bs h f o A b c q hq hb hf0 hf1 ho0 ho1 hm1
theorem copy_at (w : World) (p g n : Nat) (bs : List Int) (h : Mem w p g n bs) (t f : Int) (q r : Nat) (hq : t.toNat * 256 = q) (hr : f.toNat * 256 = r) (ht0 : 0 ≤ t) (ht1 : t < n) (hf0 : 0 ≤ f) (hf1 : f < n) :
    Calls Tryd.prog 14 #[.pointer (some ⟨p, 0, none⟩), .int .i64 t, .int .i64 f] w fun e w' => e = .returned .nilIface ∧ Mem w' p g n (spl bs q (seg bs r 256)) ∧ Oth w w' g := by
  subst hq hr
  exact copy_ok w p g n bs h t f ht0 ht1 hf0 hf1
theorem xor1_ne (a : Int) (h0 : 0 ≤ a) (h1 : a < 256) : a ≠ bits .xor .u8 a 1 ∧ 0 ≤ bits .xor .u8 a 1 ∧ bits .xor .u8 a 1 < 256 := by
  rw [u8_xor a 1 h0 h1 (by decide) (by decide)]
  obtain ⟨n, rfl⟩ : ∃ n : Nat, a = n := ⟨a.toNat, by omega⟩
  have hn : n < 256 := by omega
  have key : ∀ n : Fin 256, (n.1 : Int) ≠ ((n.1 ^^^ 1 : Nat) : Int) ∧ (n.1 ^^^ 1) < 256 := by decide +kernel
  obtain ⟨k1, k2⟩ := key ⟨n, hn⟩
  refine ⟨by simpa using k1, by omega, ?_⟩
  have : (n : Int).toNat ^^^ (1 : Int).toNat = n ^^^ 1 := by simp
  rw [this]
  exact Int.ofNat_lt.2 (show n ^^^ 1 < 256 from k2)
/-- Where a row that is read lies. -/
theorem C_addr {α : Type} {d : Kd α} {w : World} {A : Option Addr} {l : List α} (h : d.C w A l.length l) (hn : 0 < l.length) (hs : 0 < d.sz) : ∃ bk off, A = some ⟨bk, off, none⟩ := by
  obtain ⟨ad, e, hc⟩ := h.2.2 hn
  obtain ⟨c, hcl, hK, hcell⟩ := hc 0 l[0] (by simp [hn])
  have h0 := hcell 0 (c[0]'(by omega)) (by simp [show 0 < c.length by omega])
  rw [Nat.zero_mul, Nat.add_zero, show ad.add 0 = ad from rfl] at h0
  have := spot_none h0
  obtain ⟨bk, off, sp⟩ := ad
  simp only at this
  subst this
  exact ⟨bk, off, e⟩
set_option maxHeartbeats 8000000 in
set_option maxRecDepth 100000 in
theorem physKeeps (A0 : Option Addr) (c0 : Nat) (l : List S31) (w : World) (hE : EW w) (hC : Kd.C k31 w A0 l.length l)
    (wfl : ∀ x ∈ l, ∀ v ∈ x.f4, (Lit.int .u8 v).wf = true) :
    Calls Tryd.prog 3 #[.slice A0 l.length c0] w fun e w' => e = .returned (.bool true) ∧ Below w.heap.size w w' := by
  have HE := Lib.hid hE
  have HC := Lib.hid hC
  have HW := Lib.hid wfl
  have hmx := Kd.C_max hC
  clear hE hC wfl
  go_enter Tryd.func3, Tryd.ntmps3
  go_wp2_with fail
  refine (new_mem _ 3 (by decide) (by decide)).mono ?_
  rintro e w1 ⟨p, g, rfl, hm1, hg, hb1⟩
  have M1 := Lib.hid hm1
  have B1 := Lib.hid hb1
  have HG := Lib.hid hg
  clear hm1 hb1 hg
  go_wp2_with fail
  go_loopg [5] 25 (fun gg s5 wr => ∃ (k : Nat) (bs : List Int), s5 = .int .i64 (k : Nat) ∧ k + gg = 25 ∧ k ≤ l.length ∧ Aside (Mem wr p g 3 bs) ∧ Aside (Below w.heap.size w wr) ∧ Aside (Byt bs))
  case atStart => exact ⟨0, _, rfl, rfl, Nat.zero_le _, M1.out, B1.out, Byt.zero _⟩
  case round =>
    obtain ⟨k, bs, rfl, hkg, hkl, Mr, Br, Yr⟩ := hrel
    by_cases hk : k < l.length
    · by_cases hk25 : k < 25
      · have hki : (k : Int) < (l.length : Int) := by omega
        have hk25i : (k : Int) < 25 := by omega
        -- the element
        obtain ⟨bk, off, rfl⟩ := C_addr HC.out (by omega) (by decide)
        obtain ⟨ad, c, had, hcl, hK, hcell⟩ := Kd.C_get HC.out z31 (k : Int) (by omega) (by omega)
        have hmem : l.getD (k : Int).toNat z31 ∈ l := by
          rw [List.getD_eq_getElem?_getD, List.getElem?_eq_getElem (by omega)]
          exact List.getElem_mem _
        obtain ⟨x, hx⟩ : ∃ x, x = l.getD (k : Int).toNat z31 := ⟨_, rfl⟩
        rw [← hx] at hK hmem
        obtain ⟨A4, c4, rfl, hc4, hX4⟩ := k31_open hK
        obtain rfl := Option.some.inj had
        have hce : ∀ j u, [Value.int .i64 x.f0, .int .i64 x.f1, .int .i64 x.f2, .int .i64 x.f3, .slice A4 x.f4.length c4][j]? = some u → w.cell? ⟨bk, off + k * 5 + j, none⟩ = some u := fun j u hj => by
          have := hcell j u hj
          rw [Addr.add_lit] at this
          rwa [Nat.add_assoc]
        have q1 : ∀ n : Later wr, n.1.cell? ⟨bk, off + k * 5 + 1, none⟩ = some (.int .i64 x.f1) := fun n => ((Br.out.trans (n.2.mono Br.out.size)).cell (p := ⟨bk, off + k * 5 + 1, none⟩) (Go.block_lt_of_cell (hce 1 _ rfl))).trans (hce 1 _ rfl)
        have q2 : ∀ n : Later wr, n.1.cell? ⟨bk, off + k * 5 + 2, none⟩ = some (.int .i64 x.f2) := fun n => ((Br.out.trans (n.2.mono Br.out.size)).cell (p := ⟨bk, off + k * 5 + 2, none⟩) (Go.block_lt_of_cell (hce 2 _ rfl))).trans (hce 2 _ rfl)
        have q4 : ∀ n : Later wr, n.1.cell? ⟨bk, off + k * 5 + 4, none⟩ = some (.slice A4 x.f4.length c4) := fun n => ((Br.out.trans (n.2.mono Br.out.size)).cell (p := ⟨bk, off + k * 5 + 4, none⟩) (Go.block_lt_of_cell (hce 4 _ rfl))).trans (hce 4 _ rfl)
        obtain ⟨f, hf, hf3⟩ := mod_u x.f1 3 (by decide) (by decide)
        obtain ⟨o, ho, ho256⟩ := mod_u x.f2 256 (by decide) (by decide)
        have hx4 := Kd.C_max hX4
        have HF := Lib.hid (show wrap64 ((IntKind.u64.wrap x.f1).tmod 3) = (f : Int) from hf)
        have HO := Lib.hid (show wrap64 ((IntKind.u64.wrap x.f2).tmod 256) = (o : Int) from ho)
        have H4 := Lib.hid q4
        have X4 := Lib.hid hX4
        have HM := Lib.hid hmem
        have C4 := Lib.hid hc4
        clear hcell hcl hK hx hce had hf ho q4 hX4 hmem hc4
        go_wp2_with fail
        refine wp_region_later (w := wr) (by kernel_rfl) (by kernel_rfl) ?_
        repeat (go_big_quiet_step (fail))
        refine wpQuiet_nil ?_
        intro W1 hw'
        have hB1 : Below wr.heap.size wr W1 := by obtain ⟨n, rfl⟩ := hw'; exact n.2
        have q4' : ∀ n : Later W1, n.1.cell? ⟨bk, off + k * 5 + 4, none⟩ = some (.slice A4 x.f4.length c4) := fun n => H4.out ⟨n.1, bt hB1 n.2⟩
        have L1 := Lib.hid hB1
        clear hw' q1 q2 hB1
        go_wp2_with fail
        rw [HF.out, HO.out]
        obtain ⟨m, hm, hmx4, hom⟩ : ∃ m : Nat, (if 256 - (o : Int) < (x.f4.length : Int) then 256 - (o : Int) else (x.f4.length : Int)) = (m : Int) ∧ m ≤ x.f4.length ∧ o + m ≤ 256 := by
          by_cases hq : 256 - (o : Int) < (x.f4.length : Int)
          · exact ⟨256 - o, by rw [if_pos hq]; omega, by omega, by omega⟩
          · exact ⟨x.f4.length, by rw [if_neg hq], Nat.le_refl _, by omega⟩
        obtain ⟨i0, hi0, _, hsz0, _⟩ := info_parts u8info
        have hcut := fun W => cut_to (P := Tryd.prog) 29 5 .i64 Tryd.underlying29 hi0 A4 x.f4.length c4 (m : Int) (by omega) (by omega) C4.out W
        rw [show ((m : Int)).toNat = m by omega] at hcut
        clear hi0 hsz0
        refine wp_region_later (w := W1) (by kernel_rfl) (by kernel_rfl) ?_
        repeat (go_big_quiet_step (fail))
        refine wpQuiet_nil ?_
        intro W2 hw'
        have hB2 : Below wr.heap.size wr W2 := by obtain ⟨n, rfl⟩ := hw'; exact bt L1.out n.2
        have M2 := Lib.hid (Mr.out.below hB2)
        have L2 := Lib.hid hB2
        have B2 := Lib.hid (Br.out.trans (hB2.mono Br.out.size))
        obtain ⟨b, hb⟩ : ∃ b, b = x.f4.take m := ⟨_, rfl⟩
        have hbl : b.length = m := by rw [hb, List.length_take]; omega
        have XB := Lib.hid (show Kd.C Bk w A4 b.length b by rw [hb]; exact Kd.C_take X4.out hmx4)
        have YB := Lib.hid (show Byt b by
          intro v hv
          rw [hb] at hv
          have := HW.out x HM.out v (List.mem_of_mem_take hv)
          simp [Lit.wf, IntKind.min, IntKind.max, IntKind.bits, IntKind.signed] at this
          omega)
        have HBL := Lib.hid hbl
        clear hw' hm hcut hB2 hb hbl q4' X4 H4 L1
        go_wp2_with fail
        refine (read_whole _ _ _ _ _ M2.out f (f * 256) (by simp) (by omega) (by omega)).mono ?_
        rintro e W3 ⟨g1, c1, rfl, hc1, hg1, hR3, hb3⟩
        have M3 := Lib.hid (M2.out.below hb3)
        have B3 := Lib.hid (B2.out.trans (hb3.mono B2.out.size))
        have O3 := Lib.hid hR3
        clear hR3 hb3 M2 B2 hg1
        go_wp2_with fail
        refine (read_whole _ _ _ _ _ M3.out (((f : Int) + 1) % 3) ((f + 1) % 3 * 256) (by omega) (by omega) (by omega)).mono ?_
        rintro e W4 ⟨g2, c2, rfl, hc2, hg2, hR4, hb4⟩
        have M4 := Lib.hid (M3.out.below hb4)
        have B4 := Lib.hid (B3.out.trans (hb4.mono B3.out.size))
        have O4 := Lib.hid (Kd.R_below O3.out hb4)
        have T4 := Lib.hid hR4
        clear hR4 hb4 M3 B3 O3 hg2
        go_wp2_with fail
        refine (write_m _ _ _ _ _ M4.out f o A4 b m c4 (f * 256 + o) HBL.out (by omega) (Kd.C_below XB.out B4.out) (by omega) (by omega) (by omega) (by omega) (by omega)).mono ?_
        rintro e W5 ⟨rfl, hm5, ho5⟩
        have M5 := Lib.hid hm5
        have B5 := Lib.hid (B4.out.trans (ho5.below HG.out B4.out.size))
        have O5 := Lib.hid (R_oth O4.out M4.out ho5)
        have T5 := Lib.hid (R_oth T4.out M4.out ho5)
        clear hm5 ho5 M4 B4 O4 T4
        go_wp2_with fail
        refine (read_whole _ _ _ _ _ M5.out f (f * 256) (by omega) (by omega) (by omega)).mono ?_
        rintro e W6 ⟨g3, c3, rfl, hc3, hg3, hR6, hb6⟩
        have M6 := Lib.hid (M5.out.below hb6)
        have B6 := Lib.hid (B5.out.trans (hb6.mono B5.out.size))
        have O6 := Lib.hid (Kd.R_below O5.out hb6)
        have T6 := Lib.hid (Kd.R_below T5.out hb6)
        have N6 := Lib.hid hR6
        have HG3 := Lib.hid (Nat.le_trans B5.out.size hg3)
        clear hR6 hb6 M5 B5 O5 T5 hg3
        go_wp2_with fail
        refine (read_whole _ _ _ _ _ M6.out (((f : Int) + 1) % 3) ((f + 1) % 3 * 256) (by omega) (by omega) (by omega)).mono ?_
        rintro e W7 ⟨g4, c5, rfl, hc5, hg4, hR7, hb7⟩
        have M7 := Lib.hid (M6.out.below hb7)
        have B7 := Lib.hid (B6.out.trans (hb7.mono B6.out.size))
        have O7 := Lib.hid (Kd.R_below O6.out hb7)
        have T7 := Lib.hid (Kd.R_below T6.out hb7)
        have N7 := Lib.hid (Kd.R_below N6.out hb7)
        have S7 := Lib.hid hR7
        clear hR7 hb7 M6 B6 O6 T6 N6 hg4
        have hbs : bs.length = 768 := Mr.out.len
        have hbs1 : (spl bs (f * 256 + o) b).length = 768 := M7.out.len
        have hbl := HBL.out
        obtain ⟨NOW, hNOW⟩ : ∃ X, X = seg (spl bs (f * 256 + o) b) (f * 256) 256 := ⟨_, rfl⟩
        obtain ⟨OLD, hOLD⟩ : ∃ X, X = seg bs (f * 256) 256 := ⟨_, rfl⟩
        obtain ⟨OTH, hOTH⟩ : ∃ X, X = seg bs ((f + 1) % 3 * 256) 256 := ⟨_, rfl⟩
        have eS : seg (spl bs (f * 256 + o) b) ((f + 1) % 3 * 256) 256 = OTH := by rw [hOTH]; exact seg_spl_other _ _ _ _ _ (by omega) (by omega)
        have lNOW : NOW.length = 256 := by rw [hNOW]; exact seg_length _ _ _ (by omega)
        have lOLD : OLD.length = 256 := by rw [hOLD]; exact seg_length _ _ _ (by omega)
        have lOTH : OTH.length = 256 := by rw [hOTH]; exact seg_length _ _ _ (by omega)
        have e1 : NOW.take o = OLD.take o := by
          rw [hNOW, hOLD, seg_take _ _ _ _ (by omega), seg_take _ _ _ _ (by omega)]
          exact seg_spl_other _ _ _ _ _ (by omega) (by omega)
        have e2 : (NOW.take (o + m)).drop o = b := by
          rw [hNOW, seg_seg _ _ _ _ _ (by omega)]
          exact seg_spl_same _ _ _ _ hbl (by omega)
        have e3 : NOW.drop (o + m) = OLD.drop (o + m) := by
          rw [hNOW, hOLD, seg_drop _ _ _ _ (by omega), seg_drop _ _ _ _ (by omega)]
          exact seg_spl_other _ _ _ _ _ (by omega) (by omega)
        have n7 := N7.out
        have o7 := O7.out
        have t7 := T7.out
        have s7 := S7.out
        rw [eS] at s7
        rw [← hNOW] at n7
        rw [← hOLD] at o7
        rw [← hOTH] at t7
        have hs1 := str_of' (c := c5) lOTH (C_of_R s7)
        have hs2 := str_of' (c := c2) lOTH (C_of_R t7)
        obtain ⟨k1, j1⟩ := cut_str_to lNOW (C_of_R n7) hc3 (o : Int) o (by omega) (by omega) (by omega)
        obtain ⟨k2, j2⟩ := cut_str_to lOLD (C_of_R o7) hc1 (o : Int) o (by omega) (by omega) (by omega)
        obtain ⟨X3, d3, k3, j3⟩ := cut_str_mid lNOW (C_of_R n7) hc3 (o : Int) ((o : Int) + (m : Int)) o m (by omega) (by omega) (by omega) (by omega) (by omega)
        obtain ⟨X4, d4, k4, j4⟩ := cut_str_from lNOW (C_of_R n7) hc3 ((o : Int) + (m : Int)) (o + m) (256 - (o + m)) (by omega) (by omega) (by omega) rfl
        obtain ⟨X5, d5, k5, j5⟩ := cut_str_from lOLD (C_of_R o7) hc1 ((o : Int) + (m : Int)) (o + m) (256 - (o + m)) (by omega) (by omega) (by omega) rfl
        have j6 := fun (n : Later W7) => str_of' (c := c4) hbl (Kd.C_below XB.out (B7.out.trans (n.2.mono B7.out.size)))
        rw [e1] at j1
        rw [e2] at j3
        rw [e3] at j4
        have N8 := Lib.hid n7
        have LN := Lib.hid lNOW
        have EN := Lib.hid hNOW
        clear n7 o7 t7 s7 O7 T7 S7 N7 hbs hbs1 hbl hNOW hOLD hOTH eS lNOW lOLD lOTH e1 e2 e3
        go_wp2_with fail
        refine wp_region_later (w := W7) (by kernel_rfl) (by kernel_rfl) ?_
        repeat (go_big_quiet_step (fail))
        refine wpQuiet_nil ?_
        intro W8 hw'
        have hB8 : Below W7.heap.size W7 W8 := by obtain ⟨n, rfl⟩ := hw'; exact n.2
        have M8 := Lib.hid (M7.out.below hB8)
        have B8 := Lib.hid (B7.out.trans (hB8.mono B7.out.size))
        have n8 := Kd.R_below N8.out hB8
        have cel := Kd.R_celln (0 : Int) n8 0 (by decide) (by decide)
        obtain ⟨a0, ha0⟩ : ∃ a0, a0 = rdOf (0 : Int) NOW 0 := ⟨_, rfl⟩
        have hbyt : 0 ≤ a0 ∧ a0 < 256 := by
          have hY : Byt NOW := by rw [EN.out]; exact (Byt.spl Yr.out YB.out _).seg _ _
          rw [ha0]
          refine hY _ ?_
          unfold rdOf
          rw [List.getD_eq_getElem?_getD, List.getElem?_eq_getElem (by rw [LN.out]; decide)]
          exact List.getElem_mem _
        obtain ⟨y, hy⟩ : ∃ y, bits .xor .u8 a0 1 = y := ⟨_, rfl⟩
        obtain ⟨hya, hy0, hy1⟩ := xor1_ne a0 hbyt.1 hbyt.2
        rw [hy] at hya hy0 hy1
        have hne : (a0 == y) = false := beq_false_of_ne hya
        rw [← ha0] at cel
        obtain ⟨cel0, fro0⟩ := cel
        rw [show (0 : Int).toNat = 0 by rfl] at cel0 fro0
        have hput := Kd.R_putg n8 0 y
        rw [show (0 : Int).toNat = 0 by rfl] at hput
        obtain ⟨hput, hgrow⟩ := hput
        have HA0 := Lib.hid ha0
        have HYY := Lib.hid hy
        have R9 := Lib.hid hput
        have M9 := Lib.hid (M8.out.grown hgrow (Kd.R_ne n8 M8.out.cell (by decide)) (Kd.R_ne n8 M8.out.row (by decide)))
        have B9 := Lib.hid (B8.out.setCell (p := ⟨g3, 0, none⟩) HG3.out (.int .u8 y))
        clear hw' hB8 n8 k1 k2 k3 k4 k5 j1 j2 j3 j4 j5 j6 hs1 hs2 M7 B7 N8 ha0 hy hput hgrow hbyt hya
        go_wp2_with fail
        rw [HYY.out]
        refine (read_whole _ _ _ _ _ M9.out f (f * 256) (by omega) (by omega) (by omega)).mono ?_
        rintro e W10 ⟨g5, c6, rfl, hc6, hg5, hR10, hb10⟩
        rw [← EN.out] at hR10
        have M10 := Lib.hid (M9.out.below hb10)
        have B10 := Lib.hid (B9.out.trans (hb10.mono B9.out.size))
        have r10 := Kd.R_below R9.out hb10
        have z1 := (Kd.R_celln (0 : Int) r10 0 (by decide) (by decide)).1
        have z2 := (Kd.R_celln (0 : Int) hR10 0 (by decide) (by decide)).1
        rw [show (0 : Int).toNat = 0 by rfl] at z1 z2
        rw [← HA0.out] at z2
        rw [show rdOf (0 : Int) (NOW.set 0 y) 0 = y by unfold rdOf; rw [List.getD_eq_getElem?_getD, show (0 : Int).toNat = 0 by rfl, List.getElem?_set_self (by rw [LN.out]; decide)]; rfl] at z1
        have hz1 := Go.block_lt_of_cell z1
        have hz2 := Go.block_lt_of_cell z2
        have w1' := fun n : Later W10 => (n.cell 0 hz1).trans z1
        have w2' := fun n : Later W10 => (n.cell 0 hz2).trans z2
        have R10 := Lib.hid r10
        have G10 := Lib.hid hR10
        clear hR10 hb10 r10 hg5 M8 B8 M9 R9 B9 cel0 fro0 z1 z2 hz1 hz2
        trace "A"
        go_wp2_with fail
        refine wp_region_later (w := W10) (by kernel_rfl) (by kernel_rfl) ?_
        repeat (go_big_quiet_step (fail))
        refine wpQuiet_nil ?_
        intro W11 hw'
        have hB11 : Below W10.heap.size W10 W11 := by obtain ⟨n, rfl⟩ := hw'; exact n.2
        have M11 := Lib.hid (M10.out.below hB11)
        have B11 := Lib.hid (B10.out.trans (hB11.mono B10.out.size))
        have R11 := Lib.hid (Kd.R_below R10.out hB11)
        have G11 := Lib.hid (Kd.R_below G10.out hB11)
        clear hw' hB11 w1' w2' M10 B10 R10 G10
        go_wp2_with fail
        refine (copy_at _ _ _ _ _ M11.out (((f : Int) + 2) % 3) f ((f + 2) % 3 * 256) (f * 256) (by omega) (by omega) (by omega) (by omega) (by omega) (by omega)).mono ?_
        rintro e W12 ⟨rfl, hm12, ho12⟩
        rw [← EN.out] at hm12
        have M12 := Lib.hid hm12
        have B12 := Lib.hid (B11.out.trans (ho12.below HG.out B11.out.size))
        have R12 := Lib.hid (R_oth R11.out M11.out ho12)
        have G12 := Lib.hid (R_oth G11.out M11.out ho12)
        have z1 := (Kd.R_celln (0 : Int) R12.out 0 (by decide) (by decide)).1
        rw [show (0 : Int).toNat = 0 by rfl] at z1
        rw [show rdOf (0 : Int) (NOW.set 0 y) 0 = y by unfold rdOf; rw [List.getD_eq_getElem?_getD, show (0 : Int).toNat = 0 by rfl, List.getElem?_set_self (by rw [LN.out]; decide)]; rfl] at z1
        clear hm12 ho12 M11 B11 R11 G11
        go_wp2_with fail
        have B13 := Lib.hid (B12.out.alloc B12.out.size (.cells #[.int .u8 y] 5 (0, 0)))
        have hbA : Below W12.heap.size W12 (W12.alloc (.cells #[.int .u8 y] 5 (0, 0))) := (Below.refl _ _).alloc (Nat.le_refl _) _
        have M13 := Lib.hid (M12.out.below hbA)
        have G13 := Lib.hid (Kd.R_below G12.out hbA)
        clear hbA
        refine (write_m _ _ _ _ _ M13.out f 0 _ [y] 1 1 (f * 256) rfl (by omega) (lit_C W12 [y] 5 (by simp)) (by omega) (by omega) (by decide) (by decide) (by decide)).mono ?_
        rintro e W14 ⟨rfl, hm14, ho14⟩
        have M14 := Lib.hid hm14
        have B14 := Lib.hid (B13.out.trans (ho14.below HG.out B13.out.size))
        have G14 := Lib.hid (R_oth G13.out M13.out ho14)
        clear hm14 ho14 M13 B13 G13 M12 B12 R12 G12 z1
        go_wp2_with fail
        refine (read_whole _ _ _ _ _ M14.out (((f : Int) + 2) % 3) ((f + 2) % 3 * 256) (by omega) (by omega) (by omega)).mono ?_
        rintro e W15 ⟨g6, c7, rfl, hc7, hg6, hR15, hb15⟩
        have hbs : (spl bs (f * 256 + o) b).length = 768 := by rw [spl_length _ _ _ (by rw [Mr.out.len, HBL.out]; omega)]; exact Mr.out.len
        have hbs2 : (spl (spl bs (f * 256 + o) b) ((f + 2) % 3 * 256) NOW).length = 768 := by rw [spl_length _ _ _ (by rw [hbs, LN.out]; omega)]; exact hbs
        rw [seg_spl_other _ _ _ _ _ (by rw [hbs2]; omega) (by simp only [List.length_cons, List.length_nil]; omega), seg_spl_same _ _ _ _ LN.out (by rw [hbs]; omega)] at hR15
        have M15 := Lib.hid (M14.out.below hb15)
        have B15 := Lib.hid (B14.out.trans (hb15.mono B14.out.size))
        have hs1 := str_of' (c := c7) LN.out (C_of_R hR15)
        have hs2 := str_of' (c := c6) LN.out (C_of_R (Kd.R_below G14.out hb15))
        have Y15 := Lib.hid (show Byt (spl (spl (spl bs (f * 256 + o) b) ((f + 2) % 3 * 256) NOW) (f * 256) [y]) by
          refine Byt.spl (Byt.spl (Byt.spl Yr.out YB.out _) ?_ _) ?_ _
          · rw [EN.out]; exact (Byt.spl Yr.out YB.out _).seg _ _
          · intro v hv
            obtain rfl := List.mem_singleton.1 hv
            exact ⟨hy0, hy1⟩)
        clear hbs hbs2 hg6 hR15 hb15 M14 B14 G14
        trace "C"
        go_wp2_with fail
        go_roundg (24 - k)
        case measure => omega
        case rel => exact ⟨k + 1, _, by go_num, by omega, by omega, M15.out, B15.out, Y15.out⟩
      · have hk25i : ¬ (k : Int) < 25 := by omega
        have hki : (k : Int) < (l.length : Int) := by omega
        go_wp2_with fail
        refine (physSure _ (HE.out.below' Br.out)).mono ?_
        rintro e W2 ⟨rfl, hb2⟩
        have B2 := Lib.hid (Br.out.trans (hb2.mono Br.out.size))
        clear hb2
        go_wp2
        go_ret
        exact ⟨rfl, B2.out⟩
    · have hki : ¬ (k : Int) < (l.length : Int) := by omega
      go_wp2_with fail
      refine (physSure _ (HE.out.below' Br.out)).mono ?_
      rintro e W2 ⟨rfl, hb2⟩
      have B2 := Lib.hid (Br.out.trans (hb2.mono Br.out.size))
      clear hb2
      go_wp2
      go_ret
      exact ⟨rfl, B2.out⟩
end Go.Proofs.YtikmanafbkiikaaDoor
