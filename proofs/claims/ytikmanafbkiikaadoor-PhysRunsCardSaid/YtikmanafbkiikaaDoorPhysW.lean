/- Layer 5's 'sure', walked. -/
import Derived.Test.YtikmanafbkiikaaDoorPhys
import Derived.Test.YtikmanafbkiikaaDoorNum05
namespace Go.Proofs.YtikmanafbkiikaaDoor
set_option linter.unusedSimpArgs false
set_option linter.unusedVariables false
open Go Go.RowKit Go.Proofs.YtikmanafbkiikaaDoorW.PrintWords Go.Proofs.YtikmanafbkiikaaDoor.RowK

theorem str_of {w : World} {A : Option Addr} {c : Nat} {l : List Int} (h : Kd.C Bk w A l.length l) : (convert 29 9 (.slice A l.length c)).run Tryd.prog w = .ok (.string (strOfNums l)) w :=
  Kd.C_string (P := Tryd.prog) Tryd.underlying29 Tryd.underlying5 Tryd.underlying9 h
theorem R_oth {w w' : World} {base : Nat} {ok : Nat → Prop} {v : Value} {l : List Int} {p g n : Nat} {bs : List Int} (h : Kd.R Bk 5 w base ok v l) (hm : Mem w p g n bs) (ho : Oth w w' g) : Kd.R Bk 5 w' base ok v l :=
  Kd.R_mono (Kd.R_step (Kd.R_types h hm.row (by intro q hq; simp [Bk, Kd.int, Kd.scalar] at hq; subst hq; decide)) (fun k hk hlt => ho.block k hlt hk.2)) (fun _ hk => hk.1)
theorem new_mem (w : World) (k : Int) (h0 : 1 ≤ k) (h1 : k ≤ 1024) :
    Calls Tryd.prog 11 #[.int .i64 k] w fun e w' => ∃ p g, e = .returned (.tuple #[.pointer (some ⟨p, 0, none⟩), .nilIface]) ∧ Mem w' p g k.toNat (List.replicate (k.toNat * 256) 0) ∧ w.heap.size ≤ g ∧ Below w.heap.size w w' :=
  (new_ok w k h0 h1).mono fun _ _ ⟨h1, h2, h3⟩ => ⟨_, _, h1, h2, Nat.le_refl _, h3⟩
theorem lit_C (w : World) (l : List Int) (T : TypeId) (hl : l.length ≤ 9223372036854775807) : Kd.C Bk (w.alloc (.cells (l.map (Value.int .u8)).toArray T (0, 0))) (some ⟨w.heap.size, 0, none⟩) l.length l :=
  Kd.C_of_reads (d := (0 : Int)) ⟨rfl, hl, fun _ => ⟨_, rfl, fun j hj => by
    rw [Addr.add_lit, Nat.zero_add, cell_of_row _ _ _ _ _ _ (heap_alloc_new _ _)]
    simp [hj]⟩⟩
set_option maxHeartbeats 2000000 in
set_option maxRecDepth 100000 in
theorem physSure (w : World) (hE : EW w) : Calls Tryd.prog 15 #[] w fun e w' => e = .returned (.bool true) ∧ Below w.heap.size w w' := by
  have HE := Lib.hid hE
  clear hE
  go_enter Tryd.func15, Tryd.ntmps15
  go_wp2_with fail
  refine (new_mem _ 2 (by decide) (by decide)).mono ?_
  rintro e w1 ⟨p, g, rfl, hm1, hg, hb1⟩
  have M1 := Lib.hid hm1
  have B1 := Lib.hid hb1
  have HG := Lib.hid hg
  clear hm1 hb1 hg
  go_wp2_with fail
  have B2 := Lib.hid (B1.out.alloc B1.out.size (.cells #[.int .u8 7, .int .u8 8] 5 (0, 0)))
  have C2 := Lib.hid (lit_C w1 [7, 8] 5 (by decide))
  have M2 := Lib.hid (M1.out.below (w' := w1.alloc (.cells #[.int .u8 7, .int .u8 8] 5 (0, 0))) ((Below.refl _ _).alloc (Nat.le_refl _) _))
  refine (write_ok _ _ _ _ _ M2.out 1 250 _ [7, 8] 2 C2.out (by decide) (by decide) (by decide) (by decide) (by decide)).mono ?_
  rintro e w3 ⟨rfl, hm3, ho3⟩
  have M3 := Lib.hid hm3
  have B3 := Lib.hid (B2.out.trans (ho3.below HG.out B2.out.size))
  clear hm3 ho3 C2
  go_wp2_with fail
  refine (copy_ok _ _ _ _ _ M3.out 0 1 (by decide) (by decide) (by decide) (by decide)).mono ?_
  rintro e w4 ⟨rfl, hm4, ho4⟩
  have M4 := Lib.hid hm4
  have B4 := Lib.hid (B3.out.trans (ho4.below HG.out B3.out.size))
  clear hm4 ho4
  go_wp2_with fail
  refine (read_ok _ _ _ _ _ M4.out 0 250 3 (by decide) (by decide) (by decide) (by decide) (by decide) (by decide)).mono ?_
  rintro e w5 ⟨v, rfl, hR5, hb5⟩
  rw [show seg (spl (spl (List.replicate (Int.toNat 2 * 256) 0) (Int.toNat 1 * 256 + Int.toNat 250) [7, 8]) (Int.toNat 0 * 256) (seg (spl (List.replicate (Int.toNat 2 * 256) 0) (Int.toNat 1 * 256 + Int.toNat 250) [7, 8]) (Int.toNat 1 * 256) 256)) (Int.toNat 0 * 256 + Int.toNat 250) (Int.toNat 3) = [7, 8, 0] by decide +kernel] at hR5
  obtain ⟨A, c, rfl, hc, hC⟩ := Kd.R_reads hR5
  have M5 := Lib.hid (M4.out.below hb5)
  have B5 := Lib.hid (B4.out.trans (hb5.mono B4.out.size))
  have C5 := Lib.hid hC
  clear hR5 hC hc hb5
  go_wp2_with fail
  refine (read_far _ _ _ _ _ M5.out 0 255 2 (by decide) (by decide) (by decide) (by decide)).mono ?_
  rintro e w6 ⟨rfl, rfl⟩
  rw [errW_some]
  have hs := str_of (c := c) C5.out
  rw [show strOfNums [7, 8, 0] = ⟨#[7, 8, 0]⟩ by rfl] at hs
  simp only [List.length_cons, List.length_nil, Nat.zero_add, Nat.reduceAdd] at hs
  go_wp2_with fail
  refine (num_calls (some 14) _ (HE.out.below' B5.out)).mono ?_
  rintro e w7 ⟨rfl, hb7⟩
  have M7 := Lib.hid (M5.out.below hb7)
  have B7 := Lib.hid (B5.out.trans (hb7.mono B5.out.size))
  clear hb7
  rw [show numOf (some 14) = 14 by rfl]
  go_wp2_with fail
  refine (many_ok _ _ _ _ _ M7.out).mono ?_
  rintro e w8 ⟨rfl, rfl⟩
  go_wp2
  go_ret
  exact ⟨rfl, B7.out⟩
theorem Mem.grown {w w' : World} {p g n : Nat} {bs : List Int} {row : Option Nat} (h : Mem w p g n bs) (hg : w.grownBy w' row) (h1 : some p ≠ row) (h2 : some g ≠ row) : Mem w' p g n bs :=
  ⟨(hg.block _ (blk_lt h.cell) h1).trans h.cell, (hg.block _ (blk_lt h.row) h2).trans h.row, h.len, h.ne, h.lim⟩
theorem write_at (w : World) (p g n : Nat) (bs : List Int) (h : Mem w p g n bs) (f o : Int) (A : Option Addr) (b : List Int) (c : Nat) (q : Nat) (hq : f.toNat * 256 + o.toNat = q) (hb : Kd.C Bk w A b.length b) (hf0 : 0 ≤ f) (hf1 : f < n) (ho0 : 0 ≤ o) (ho1 : o ≤ 256) (hm1 : (b.length : Int) ≤ 256 - o) :
    Calls Tryd.prog 13 #[.pointer (some ⟨p, 0, none⟩), .int .i64 f, .int .i64 o, .slice A b.length c] w fun e w' => e = .returned .nilIface ∧ Mem w' p g n (spl bs q b) ∧ Oth w w' g := by
  subst hq
  exact write_ok w p g n bs h f o A b c hb hf0 hf1 ho0 ho1 hm1
theorem read_at (w : World) (p g n : Nat) (bs : List Int) (h : Mem w p g n bs) (f o m : Int) (q k : Nat) (hq : f.toNat * 256 + o.toNat = q) (hk : m.toNat = k) (hf0 : 0 ≤ f) (hf1 : f < n) (ho0 : 0 ≤ o) (ho1 : o ≤ 256) (hm0 : 0 ≤ m) (hm1 : m ≤ 256 - o) :
    Calls Tryd.prog 12 #[.pointer (some ⟨p, 0, none⟩), .int .i64 f, .int .i64 o, .int .i64 m] w fun e w' => ∃ v, e = .returned (.tuple #[v, .nilIface]) ∧ Kd.R Bk 5 w' w.heap.size (fun _ => True) v (seg bs q k) ∧ Below w.heap.size w w' := by
  subst hq hk
  exact read_ok w p g n bs h f o m hf0 hf1 ho0 ho1 hm0 hm1
set_option maxRecDepth 100000 in
/-- A whole frame is read. -/
theorem read_whole (w : World) (p g n : Nat) (bs : List Int) (h : Mem w p g n bs) (f : Int) (q : Nat) (hq : f.toNat * 256 = q) (hf0 : 0 ≤ f) (hf1 : f < n) :
    Calls Tryd.prog 12 #[.pointer (some ⟨p, 0, none⟩), .int .i64 f, .int .i64 0, .int .i64 256] w fun e w' => ∃ gb c, e = .returned (.tuple #[.slice (some ⟨gb, 0, none⟩) 256 c, .nilIface]) ∧ 256 ≤ c ∧ w.heap.size ≤ gb ∧ Kd.R Bk 5 w' w.heap.size (fun _ => True) (.slice (some ⟨gb, 0, none⟩) 256 c) (seg bs q 256) ∧ Below w.heap.size w w' := by
  refine (read_at w p g n bs h f 0 256 q 256 (by omega) (by decide) hf0 hf1 (by decide) (by decide) (by decide) (by decide)).mono ?_
  rintro e w' ⟨v, rfl, hR, hb⟩
  have hl : (seg bs q 256).length = 256 := seg_length _ _ _ (by have := h.len; omega)
  obtain ⟨gb, c, rfl, h1, h2, _⟩ := Kd.R_form hR (by omega)
  have hc := (Kd.R_reads' hR).2.1
  rw [hl] at hR hc ⊢
  exact ⟨gb, c, rfl, hc, h1, hR, hb⟩
theorem str_of' {w : World} {A : Option Addr} {n c : Nat} {l : List Int} (hl : l.length = n) (h : Kd.C Bk w A l.length l) : (convert 29 9 (.slice A n c)).run Tryd.prog w = .ok (.string (strOfNums l)) w := by
  subst hl
  exact str_of h
theorem C_of_R {w : World} {base : Nat} {ok : Nat → Prop} {A : Option Addr} {n c : Nat} {l : List Int} (h : Kd.R Bk 5 w base ok (.slice A n c) l) : Kd.C Bk w A l.length l := (Kd.R_reads' h).2.2
/-- A slice is cut, and told as a string. -/
theorem cut_str_to {w : World} {A : Option Addr} {n c : Nat} {l : List Int} (hn : l.length = n) (h : Kd.C Bk w A l.length l) (hc : n ≤ c) (hi : Int) (k : Nat) (h0 : 0 ≤ hi) (h1 : hi ≤ n) (hk : hi.toNat = k) :
    (∀ W : World, (Instr.slice 29 (.slice A n c) none (some (.int .i64 hi)) none).run Tryd.prog W = .ok (.slice A k c) W) ∧ ∀ m : Later w, (convert 29 9 (.slice A k c)).run Tryd.prog m.1 = .ok (.string (strOfNums (l.take k))) m.1 := by
  subst hk
  obtain ⟨i0, hi0, _, hsz0, _⟩ := info_parts u8info
  refine ⟨fun W => cut_to (P := Tryd.prog) 29 5 .i64 Tryd.underlying29 hi0 A n c hi h0 h1 hc W, fun m => ?_⟩
  exact str_of' (by rw [List.length_take]; omega) (Kd.C_below (Kd.C_take h (by omega)) m.2)
theorem cut_str_from {w : World} {A : Option Addr} {n c : Nat} {l : List Int} (hn : l.length = n) (h : Kd.C Bk w A l.length l) (hc : n ≤ c) (lo : Int) (i k : Nat) (h0 : 0 ≤ lo) (h1 : lo ≤ n) (hi : lo.toNat = i) (hk : n - i = k) :
    ∃ X c', (∀ W : World, (Instr.slice 29 (.slice A n c) (some (.int .i64 lo)) none none).run Tryd.prog W = .ok (.slice X k c') W) ∧ ∀ m : Later w, (convert 29 9 (.slice X k c')).run Tryd.prog m.1 = .ok (.string (strOfNums (l.drop i))) m.1 := by
  subst hi hk hn
  obtain ⟨i0, hi0, _, hsz0, _⟩ := info_parts u8info
  refine ⟨_, _, fun W => cut_from (P := Tryd.prog) 29 5 .i64 Tryd.underlying29 hi0 1 hsz0 A l.length c lo h0 h1 W, fun m => ?_⟩
  have := Kd.C_drop (k := Bk) (m := lo.toNat) h (by omega) hc
  rw [show Bk.sz = 1 from rfl] at this
  exact str_of' (by rw [List.length_drop]) (Kd.C_below this m.2)
theorem cut_str_mid {w : World} {A : Option Addr} {n c : Nat} {l : List Int} (hn : l.length = n) (h : Kd.C Bk w A l.length l) (hc : n ≤ c) (lo hi : Int) (i k : Nat) (h0 : 0 ≤ lo) (h1 : lo ≤ hi) (h2 : hi ≤ n) (hi' : lo.toNat = i) (hk : hi.toNat = i + k) :
    ∃ X c', (∀ W : World, (Instr.slice 29 (.slice A n c) (some (.int .i64 lo)) (some (.int .i64 hi)) none).run Tryd.prog W = .ok (.slice X k c') W) ∧ ∀ m : Later w, (convert 29 9 (.slice X k c')).run Tryd.prog m.1 = .ok (.string (strOfNums ((l.take (i + k)).drop i))) m.1 := by
  obtain ⟨i0, hi0, _, hsz0, _⟩ := info_parts u8info
  have hcut := fun W => cut_mid (P := Tryd.prog) 29 5 .i64 .i64 Tryd.underlying29 hi0 1 hsz0 A n c lo hi h0 h1 h2 hc W
  rw [hk, hi', show i + k - i = k by omega] at hcut
  refine ⟨_, _, hcut, fun m => ?_⟩
  have := Kd.C_mid (k := Bk) (lo := i) (hi := i + k) h (by omega) (by omega) (show l.length ≤ c by omega)
  rw [show Bk.sz = 1 from rfl] at this
  exact str_of' (by rw [List.length_drop, List.length_take]; omega) (Kd.C_below this m.2)
end Go.Proofs.YtikmanafbkiikaaDoor
