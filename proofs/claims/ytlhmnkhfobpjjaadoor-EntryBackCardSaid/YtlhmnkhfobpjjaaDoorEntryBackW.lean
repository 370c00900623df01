/- The walk of EntryBack. -/
import Derived.Test.YtlhmnkhfobpjjaaDoorEntrySure
import Derived.Test.YtlhmnkhfobpjjaaDoorNum06
namespace Go.Proofs.YtlhmnkhfobpjjaaDoor
set_option linter.unusedSimpArgs false
set_option linter.unusedVariables false
open Go Go.RowKit

set_option maxHeartbeats 2000000 in
theorem entryBackWalk_te (f p v : Int) (c : Bool) (hp : 0 ≤ p) (hp1 : p < 256) (h : entOk f p = true) (h0 : 0 < v) (h1 : v < 4294967296) (hd : isEnt v = true) (w : World) (hg : EW w) :
    Calls Tryd.prog 6 #[.agg #[.int .i64 f, .int .u8 p, .bool c], .int .u32 v] w fun e w' => e = .returned (.bool true) ∧ Below w.heap.size w w' := by
  have HG := Lib.hid hg
  clear hg
  obtain ⟨s0, s1, s2, s3, s4, s5⟩ := entNum_range c h hp
  obtain ⟨n, hn⟩ : ∃ n, n = entNum f p c := ⟨_, rfl⟩
  rw [← hn] at s0 s1 s2 s3 s4 s5
  have s6 : entDecV n = .agg #[.int .i64 f, .int .u8 p, .bool c] := by
    rw [entDecV, s5, if_pos rfl, s2, s3, s4]; cases c <;> rfl
  have s7 : entDecE n = none := by rw [entDecE, s5]; simp [argErr]
  have hn0 : (n == 0) = false := beq_false_of_ne (by omega)
  have S5 := Lib.hid s5
  have S6 := Lib.hid s6
  have S7 := Lib.hid s7
  have HN := Lib.hid hn
  clear s2 s3 s4 s5 s6 s7 hn
  have H := Lib.hid h
  clear h
  obtain ⟨d0, d1⟩ := isEnt_num (by omega) hd
  obtain ⟨x0, hx0⟩ : ∃ x, x = v / 256 := ⟨_, rfl⟩
  obtain ⟨x1, hx1⟩ : ∃ x, x = v % 8 := ⟨_, rfl⟩
  obtain ⟨x2, hx2⟩ : ∃ x, x = decide (v / 8 % 2 = 1) := ⟨_, rfl⟩
  have dv : entDecV v = .agg #[.int .i64 x0, .int .u8 x1, .bool x2] := by rw [entDecV, hd, if_pos rfl, hx0, hx1, hx2]
  have de : entDecE v = none := by rw [entDecE, hd]; simp [argErr]
  rw [← hx0, ← hx1, ← hx2] at d1
  rw [← hx0, ← hx1] at d0
  have x1a : 0 ≤ x1 ∧ x1 < 256 := by omega
  have D0 := Lib.hid d0
  have D1 := Lib.hid d1
  have DV := Lib.hid dv
  have DE := Lib.hid de
  have HD := Lib.hid hd
  clear d0 d1 dv de hd hx0 hx1 hx2
  go_enter Tryd.func6, Tryd.ntmps6
  go_wp2_with fail
  refine (entEncode _ _ _ hp hp1 _).mono ?_
  rintro e w1 ⟨rfl, hb1⟩
  rw [entEnc, H.out, show errW (argErr true) = .nilIface from rfl, if_pos rfl, ← HN.out]
  have Hb1 := Lib.hid hb1
  obtain ⟨hc1, hf1, hz1⟩ := bcell hb1
  try simp only [World.size_alloc, World.size_setCell, World.size_drew, size_drewN] at hc1 hf1 hz1
  clear hb1
  have hz1__ : w.heap.size < w1.heap.size := by omega
  go_wp2_with fail
  refine (entDecode _ (by omega) (by omega) _).mono ?_
  rintro e w2 ⟨rfl, hb2⟩
  rw [S6.out, S5.out, S7.out, errW_none]
  have Hb2 := Lib.hid hb2
  obtain ⟨hc2, hf2, hz2⟩ := bcell hb2
  try simp only [World.size_alloc, World.size_setCell, World.size_drew, size_drewN] at hc2 hf2 hz2
  clear hb2
  have hz2__ : w.heap.size < w2.heap.size := by omega
  go_wp2_with fail
  refine (entDecode _ (by omega) h1 _).mono ?_
  rintro e w3 ⟨rfl, hb3⟩
  rw [DV.out, HD.out, DE.out, errW_none]
  have Hb3 := Lib.hid hb3
  obtain ⟨hc3, hf3, hz3⟩ := bcell hb3
  try simp only [World.size_alloc, World.size_setCell, World.size_drew, size_drewN] at hc3 hf3 hz3
  clear hb3
  have hz3__ : w.heap.size < w3.heap.size := by omega
  have hz3_2_ : w2.heap.size < w3.heap.size := by omega
  go_wp2_with fail
  refine (entEncode _ _ _ x1a.1 x1a.2 _).mono ?_
  rintro e w4 ⟨rfl, hb4⟩
  rw [entEnc, D0.out, D1.out, show errW (argErr true) = .nilIface from rfl, if_pos rfl]
  have Hb4 := Lib.hid hb4
  obtain ⟨hc4, hf4, hz4⟩ := bcell hb4
  try simp only [World.size_alloc, World.size_setCell, World.size_drew, size_drewN] at hc4 hf4 hz4
  clear hb4
  have hz4__ : w.heap.size < w4.heap.size := by omega
  have hz4_2_ : w2.heap.size < w4.heap.size := by omega
  have hz4_3_ : w3.heap.size < w4.heap.size := by omega
  go_wp2_with fail
  refine (entSure _).mono ?_
  rintro e w5 ⟨rfl, hb5⟩
  have Hb5 := Lib.hid hb5
  obtain ⟨hc5, hf5, hz5⟩ := bcell hb5
  try simp only [World.size_alloc, World.size_setCell, World.size_drew, size_drewN] at hc5 hf5 hz5
  clear hb5
  have hz5__ : w.heap.size < w5.heap.size := by omega
  have hz5_2_ : w2.heap.size < w5.heap.size := by omega
  have hz5_3_ : w3.heap.size < w5.heap.size := by omega
  go_wp2
  go_ret
  exact ⟨rfl, (by repeat (first | exact Below.refl _ _ | refine ba ?_ _ | refine bd ?_ | refine bdN ?_ _ | refine btH ?_ (by assumption) | refine bs ?_ (by simp; done) _ | refine bs ?_ (by simp; omega) _))⟩

set_option maxHeartbeats 2000000 in
theorem entryBackWalk_tz (f p v : Int) (c : Bool) (hp : 0 ≤ p) (hp1 : p < 256) (h : entOk f p = true) (h0 : 0 ≤ v) (h1 : v < 4294967296) (hd : v = 0) (w : World) (hg : EW w) :
    Calls Tryd.prog 6 #[.agg #[.int .i64 f, .int .u8 p, .bool c], .int .u32 v] w fun e w' => e = .returned (.bool true) ∧ Below w.heap.size w w' := by
  have HG := Lib.hid hg
  clear hg
  obtain ⟨s0, s1, s2, s3, s4, s5⟩ := entNum_range c h hp
  obtain ⟨n, hn⟩ : ∃ n, n = entNum f p c := ⟨_, rfl⟩
  rw [← hn] at s0 s1 s2 s3 s4 s5
  have s6 : entDecV n = .agg #[.int .i64 f, .int .u8 p, .bool c] := by
    rw [entDecV, s5, if_pos rfl, s2, s3, s4]; cases c <;> rfl
  have s7 : entDecE n = none := by rw [entDecE, s5]; simp [argErr]
  have hn0 : (n == 0) = false := beq_false_of_ne (by omega)
  have S5 := Lib.hid s5
  have S6 := Lib.hid s6
  have S7 := Lib.hid s7
  have HN := Lib.hid hn
  clear s2 s3 s4 s5 s6 s7 hn
  have H := Lib.hid h
  clear h
  have hv0 : (v == 0) = true := by simp [hd]
  have dv : entDecV v = .agg #[.int .i64 0, .int .u8 0, .bool false] := by subst hd; rfl
  have de : entDecE v = none := by subst hd; rfl
  have di : isEnt v = false := by subst hd; rfl
  have DV := Lib.hid dv
  have DE := Lib.hid de
  have DI := Lib.hid di
  clear dv de di hd
  go_enter Tryd.func6, Tryd.ntmps6
  go_wp2_with fail
  refine (entEncode _ _ _ hp hp1 _).mono ?_
  rintro e w1 ⟨rfl, hb1⟩
  rw [entEnc, H.out, show errW (argErr true) = .nilIface from rfl, if_pos rfl, ← HN.out]
  have Hb1 := Lib.hid hb1
  obtain ⟨hc1, hf1, hz1⟩ := bcell hb1
  try simp only [World.size_alloc, World.size_setCell, World.size_drew, size_drewN] at hc1 hf1 hz1
  clear hb1
  have hz1__ : w.heap.size < w1.heap.size := by omega
  go_wp2_with fail
  refine (entDecode _ (by omega) (by omega) _).mono ?_
  rintro e w2 ⟨rfl, hb2⟩
  rw [S6.out, S5.out, S7.out, errW_none]
  have Hb2 := Lib.hid hb2
  obtain ⟨hc2, hf2, hz2⟩ := bcell hb2
  try simp only [World.size_alloc, World.size_setCell, World.size_drew, size_drewN] at hc2 hf2 hz2
  clear hb2
  have hz2__ : w.heap.size < w2.heap.size := by omega
  go_wp2_with fail
  refine (entDecode _ (by omega) h1 _).mono ?_
  rintro e w3 ⟨rfl, hb3⟩
  rw [DV.out, DI.out, DE.out, errW_none]
  have Hb3 := Lib.hid hb3
  obtain ⟨hc3, hf3, hz3⟩ := bcell hb3
  try simp only [World.size_alloc, World.size_setCell, World.size_drew, size_drewN] at hc3 hf3 hz3
  clear hb3
  have hz3__ : w.heap.size < w3.heap.size := by omega
  have hz3_2_ : w2.heap.size < w3.heap.size := by omega
  go_wp2_with fail
  refine (num_calls none _ (HG.out.below' (by repeat (first | exact Below.refl _ _ | refine ba ?_ _ | refine bd ?_ | refine bdN ?_ _ | refine btH ?_ (by assumption) | refine bs ?_ (by simp; done) _ | refine bs ?_ (by simp; omega) _)))).mono ?_
  rintro e w4 ⟨rfl, hb4⟩
  rw [show numOf none = 0 from rfl]
  have Hb4 := Lib.hid hb4
  obtain ⟨hc4, hf4, hz4⟩ := bcell hb4
  try simp only [World.size_alloc, World.size_setCell, World.size_drew, size_drewN] at hc4 hf4 hz4
  clear hb4
  have hz4__ : w.heap.size < w4.heap.size := by omega
  have hz4_2_ : w2.heap.size < w4.heap.size := by omega
  have hz4_3_ : w3.heap.size < w4.heap.size := by omega
  go_wp2_with fail
  refine (entSure _).mono ?_
  rintro e w5 ⟨rfl, hb5⟩
  have Hb5 := Lib.hid hb5
  obtain ⟨hc5, hf5, hz5⟩ := bcell hb5
  try simp only [World.size_alloc, World.size_setCell, World.size_drew, size_drewN] at hc5 hf5 hz5
  clear hb5
  have hz5__ : w.heap.size < w5.heap.size := by omega
  have hz5_2_ : w2.heap.size < w5.heap.size := by omega
  have hz5_3_ : w3.heap.size < w5.heap.size := by omega
  go_wp2
  go_ret
  exact ⟨rfl, (by repeat (first | exact Below.refl _ _ | refine ba ?_ _ | refine bd ?_ | refine bdN ?_ _ | refine btH ?_ (by assumption) | refine bs ?_ (by simp; done) _ | refine bs ?_ (by simp; omega) _))⟩

set_option maxHeartbeats 2000000 in
theorem entryBackWalk_tn (f p v : Int) (c : Bool) (hp : 0 ≤ p) (hp1 : p < 256) (h : entOk f p = true) (h0 : 0 < v) (h1 : v < 4294967296) (hd : isEnt v = false) (w : World) (hg : EW w) :
    Calls Tryd.prog 6 #[.agg #[.int .i64 f, .int .u8 p, .bool c], .int .u32 v] w fun e w' => e = .returned (.bool true) ∧ Below w.heap.size w w' := by
  have HG := Lib.hid hg
  clear hg
  obtain ⟨s0, s1, s2, s3, s4, s5⟩ := entNum_range c h hp
  obtain ⟨n, hn⟩ : ∃ n, n = entNum f p c := ⟨_, rfl⟩
  rw [← hn] at s0 s1 s2 s3 s4 s5
  have s6 : entDecV n = .agg #[.int .i64 f, .int .u8 p, .bool c] := by
    rw [entDecV, s5, if_pos rfl, s2, s3, s4]; cases c <;> rfl
  have s7 : entDecE n = none := by rw [entDecE, s5]; simp [argErr]
  have hn0 : (n == 0) = false := beq_false_of_ne (by omega)
  have S5 := Lib.hid s5
  have S6 := Lib.hid s6
  have S7 := Lib.hid s7
  have HN := Lib.hid hn
  clear s2 s3 s4 s5 s6 s7 hn
  have H := Lib.hid h
  clear h
  have hv0 : (v == 0) = false := by exact beq_false_of_ne (by omega)
  have dv : entDecV v = .agg #[.int .i64 0, .int .u8 0, .bool false] := by rw [entDecV, hd]; rfl
  have de : entDecE v = some 22 := by rw [entDecE, hd, decide_eq_false (by omega)]; rfl
  have di : isEnt v = false := by exact hd
  have DV := Lib.hid dv
  have DE := Lib.hid de
  have DI := Lib.hid di
  clear dv de di hd
  go_enter Tryd.func6, Tryd.ntmps6
  go_wp2_with fail
  refine (entEncode _ _ _ hp hp1 _).mono ?_
  rintro e w1 ⟨rfl, hb1⟩
  rw [entEnc, H.out, show errW (argErr true) = .nilIface from rfl, if_pos rfl, ← HN.out]
  have Hb1 := Lib.hid hb1
  obtain ⟨hc1, hf1, hz1⟩ := bcell hb1
  try simp only [World.size_alloc, World.size_setCell, World.size_drew, size_drewN] at hc1 hf1 hz1
  clear hb1
  have hz1__ : w.heap.size < w1.heap.size := by omega
  go_wp2_with fail
  refine (entDecode _ (by omega) (by omega) _).mono ?_
  rintro e w2 ⟨rfl, hb2⟩
  rw [S6.out, S5.out, S7.out, errW_none]
  have Hb2 := Lib.hid hb2
  obtain ⟨hc2, hf2, hz2⟩ := bcell hb2
  try simp only [World.size_alloc, World.size_setCell, World.size_drew, size_drewN] at hc2 hf2 hz2
  clear hb2
  have hz2__ : w.heap.size < w2.heap.size := by omega
  go_wp2_with fail
  refine (entDecode _ (by omega) h1 _).mono ?_
  rintro e w3 ⟨rfl, hb3⟩
  rw [DV.out, DI.out, DE.out, errW_some]
  have Hb3 := Lib.hid hb3
  obtain ⟨hc3, hf3, hz3⟩ := bcell hb3
  try simp only [World.size_alloc, World.size_setCell, World.size_drew, size_drewN] at hc3 hf3 hz3
  clear hb3
  have hz3__ : w.heap.size < w3.heap.size := by omega
  have hz3_2_ : w2.heap.size < w3.heap.size := by omega
  go_wp2_with fail
  refine (num_calls (some 22) _ (HG.out.below' (by repeat (first | exact Below.refl _ _ | refine ba ?_ _ | refine bd ?_ | refine bdN ?_ _ | refine btH ?_ (by assumption) | refine bs ?_ (by simp; done) _ | refine bs ?_ (by simp; omega) _)))).mono ?_
  rintro e w4 ⟨rfl, hb4⟩
  rw [show numOf (some 22) = 22 from rfl]
  have Hb4 := Lib.hid hb4
  obtain ⟨hc4, hf4, hz4⟩ := bcell hb4
  try simp only [World.size_alloc, World.size_setCell, World.size_drew, size_drewN] at hc4 hf4 hz4
  clear hb4
  have hz4__ : w.heap.size < w4.heap.size := by omega
  have hz4_2_ : w2.heap.size < w4.heap.size := by omega
  have hz4_3_ : w3.heap.size < w4.heap.size := by omega
  go_wp2_with fail
  refine (entSure _).mono ?_
  rintro e w5 ⟨rfl, hb5⟩
  have Hb5 := Lib.hid hb5
  obtain ⟨hc5, hf5, hz5⟩ := bcell hb5
  try simp only [World.size_alloc, World.size_setCell, World.size_drew, size_drewN] at hc5 hf5 hz5
  clear hb5
  have hz5__ : w.heap.size < w5.heap.size := by omega
  have hz5_2_ : w2.heap.size < w5.heap.size := by omega
  have hz5_3_ : w3.heap.size < w5.heap.size := by omega
  go_wp2
  go_ret
  exact ⟨rfl, (by repeat (first | exact Below.refl _ _ | refine ba ?_ _ | refine bd ?_ | refine bdN ?_ _ | refine btH ?_ (by assumption) | refine bs ?_ (by simp; done) _ | refine bs ?_ (by simp; omega) _))⟩

set_option maxHeartbeats 2000000 in
theorem entryBackWalk_fe (f p v : Int) (c : Bool) (hp : 0 ≤ p) (hp1 : p < 256) (h : entOk f p = false) (h0 : 0 < v) (h1 : v < 4294967296) (hd : isEnt v = true) (w : World) (hg : EW w) :
    Calls Tryd.prog 6 #[.agg #[.int .i64 f, .int .u8 p, .bool c], .int .u32 v] w fun e w' => e = .returned (.bool true) ∧ Below w.heap.size w w' := by
  have HG := Lib.hid hg
  clear hg
  have H := Lib.hid h
  clear h
  obtain ⟨d0, d1⟩ := isEnt_num (by omega) hd
  obtain ⟨x0, hx0⟩ : ∃ x, x = v / 256 := ⟨_, rfl⟩
  obtain ⟨x1, hx1⟩ : ∃ x, x = v % 8 := ⟨_, rfl⟩
  obtain ⟨x2, hx2⟩ : ∃ x, x = decide (v / 8 % 2 = 1) := ⟨_, rfl⟩
  have dv : entDecV v = .agg #[.int .i64 x0, .int .u8 x1, .bool x2] := by rw [entDecV, hd, if_pos rfl, hx0, hx1, hx2]
  have de : entDecE v = none := by rw [entDecE, hd]; simp [argErr]
  rw [← hx0, ← hx1, ← hx2] at d1
  rw [← hx0, ← hx1] at d0
  have x1a : 0 ≤ x1 ∧ x1 < 256 := by omega
  have D0 := Lib.hid d0
  have D1 := Lib.hid d1
  have DV := Lib.hid dv
  have DE := Lib.hid de
  have HD := Lib.hid hd
  clear d0 d1 dv de hd hx0 hx1 hx2
  go_enter Tryd.func6, Tryd.ntmps6
  go_wp2_with fail
  refine (entEncode _ _ _ hp hp1 _).mono ?_
  rintro e w1 ⟨rfl, hb1⟩
  rw [entEnc, H.out, show errW (argErr false) = .iface 58 (.int .i64 22) from rfl, if_neg (by decide)]
  have Hb1 := Lib.hid hb1
  obtain ⟨hc1, hf1, hz1⟩ := bcell hb1
  try simp only [World.size_alloc, World.size_setCell, World.size_drew, size_drewN] at hc1 hf1 hz1
  clear hb1
  have hz1__ : w.heap.size < w1.heap.size := by omega
  go_wp2_with fail
  refine (entDecode _ (by omega) h1 _).mono ?_
  rintro e w3 ⟨rfl, hb3⟩
  rw [DV.out, HD.out, DE.out, errW_none]
  have Hb3 := Lib.hid hb3
  obtain ⟨hc3, hf3, hz3⟩ := bcell hb3
  try simp only [World.size_alloc, World.size_setCell, World.size_drew, size_drewN] at hc3 hf3 hz3
  clear hb3
  have hz3__ : w.heap.size < w3.heap.size := by omega
  go_wp2_with fail
  refine (entEncode _ _ _ x1a.1 x1a.2 _).mono ?_
  rintro e w4 ⟨rfl, hb4⟩
  rw [entEnc, D0.out, D1.out, show errW (argErr true) = .nilIface from rfl, if_pos rfl]
  have Hb4 := Lib.hid hb4
  obtain ⟨hc4, hf4, hz4⟩ := bcell hb4
  try simp only [World.size_alloc, World.size_setCell, World.size_drew, size_drewN] at hc4 hf4 hz4
  clear hb4
  have hz4__ : w.heap.size < w4.heap.size := by omega
  have hz4_3_ : w3.heap.size < w4.heap.size := by omega
  go_wp2_with fail
  refine (entSure _).mono ?_
  rintro e w5 ⟨rfl, hb5⟩
  have Hb5 := Lib.hid hb5
  obtain ⟨hc5, hf5, hz5⟩ := bcell hb5
  try simp only [World.size_alloc, World.size_setCell, World.size_drew, size_drewN] at hc5 hf5 hz5
  clear hb5
  have hz5__ : w.heap.size < w5.heap.size := by omega
  have hz5_3_ : w3.heap.size < w5.heap.size := by omega
  go_wp2
  go_ret
  exact ⟨rfl, (by repeat (first | exact Below.refl _ _ | refine ba ?_ _ | refine bd ?_ | refine bdN ?_ _ | refine btH ?_ (by assumption) | refine bs ?_ (by simp; done) _ | refine bs ?_ (by simp; omega) _))⟩

set_option maxHeartbeats 2000000 in
theorem entryBackWalk_fz (f p v : Int) (c : Bool) (hp : 0 ≤ p) (hp1 : p < 256) (h : entOk f p = false) (h0 : 0 ≤ v) (h1 : v < 4294967296) (hd : v = 0) (w : World) (hg : EW w) :
    Calls Tryd.prog 6 #[.agg #[.int .i64 f, .int .u8 p, .bool c], .int .u32 v] w fun e w' => e = .returned (.bool true) ∧ Below w.heap.size w w' := by
  have HG := Lib.hid hg
  clear hg
  have H := Lib.hid h
  clear h
  have hv0 : (v == 0) = true := by simp [hd]
  have dv : entDecV v = .agg #[.int .i64 0, .int .u8 0, .bool false] := by subst hd; rfl
  have de : entDecE v = none := by subst hd; rfl
  have di : isEnt v = false := by subst hd; rfl
  have DV := Lib.hid dv
  have DE := Lib.hid de
  have DI := Lib.hid di
  clear dv de di hd
  go_enter Tryd.func6, Tryd.ntmps6
  go_wp2_with fail
  refine (entEncode _ _ _ hp hp1 _).mono ?_
  rintro e w1 ⟨rfl, hb1⟩
  rw [entEnc, H.out, show errW (argErr false) = .iface 58 (.int .i64 22) from rfl, if_neg (by decide)]
  have Hb1 := Lib.hid hb1
  obtain ⟨hc1, hf1, hz1⟩ := bcell hb1
  try simp only [World.size_alloc, World.size_setCell, World.size_drew, size_drewN] at hc1 hf1 hz1
  clear hb1
  have hz1__ : w.heap.size < w1.heap.size := by omega
  go_wp2_with fail
  refine (entDecode _ (by omega) h1 _).mono ?_
  rintro e w3 ⟨rfl, hb3⟩
  rw [DV.out, DI.out, DE.out, errW_none]
  have Hb3 := Lib.hid hb3
  obtain ⟨hc3, hf3, hz3⟩ := bcell hb3
  try simp only [World.size_alloc, World.size_setCell, World.size_drew, size_drewN] at hc3 hf3 hz3
  clear hb3
  have hz3__ : w.heap.size < w3.heap.size := by omega
  go_wp2_with fail
  refine (num_calls none _ (HG.out.below' (by repeat (first | exact Below.refl _ _ | refine ba ?_ _ | refine bd ?_ | refine bdN ?_ _ | refine btH ?_ (by assumption) | refine bs ?_ (by simp; done) _ | refine bs ?_ (by simp; omega) _)))).mono ?_
  rintro e w4 ⟨rfl, hb4⟩
  rw [show numOf none = 0 from rfl]
  have Hb4 := Lib.hid hb4
  obtain ⟨hc4, hf4, hz4⟩ := bcell hb4
  try simp only [World.size_alloc, World.size_setCell, World.size_drew, size_drewN] at hc4 hf4 hz4
  clear hb4
  have hz4__ : w.heap.size < w4.heap.size := by omega
  have hz4_3_ : w3.heap.size < w4.heap.size := by omega
  go_wp2_with fail
  refine (entSure _).mono ?_
  rintro e w5 ⟨rfl, hb5⟩
  have Hb5 := Lib.hid hb5
  obtain ⟨hc5, hf5, hz5⟩ := bcell hb5
  try simp only [World.size_alloc, World.size_setCell, World.size_drew, size_drewN] at hc5 hf5 hz5
  clear hb5
  have hz5__ : w.heap.size < w5.heap.size := by omega
  have hz5_3_ : w3.heap.size < w5.heap.size := by omega
  go_wp2
  go_ret
  exact ⟨rfl, (by repeat (first | exact Below.refl _ _ | refine ba ?_ _ | refine bd ?_ | refine bdN ?_ _ | refine btH ?_ (by assumption) | refine bs ?_ (by simp; done) _ | refine bs ?_ (by simp; omega) _))⟩

set_option maxHeartbeats 2000000 in
theorem entryBackWalk_fn (f p v : Int) (c : Bool) (hp : 0 ≤ p) (hp1 : p < 256) (h : entOk f p = false) (h0 : 0 < v) (h1 : v < 4294967296) (hd : isEnt v = false) (w : World) (hg : EW w) :
    Calls Tryd.prog 6 #[.agg #[.int .i64 f, .int .u8 p, .bool c], .int .u32 v] w fun e w' => e = .returned (.bool true) ∧ Below w.heap.size w w' := by
  have HG := Lib.hid hg
  clear hg
  have H := Lib.hid h
  clear h
  have hv0 : (v == 0) = false := by exact beq_false_of_ne (by omega)
  have dv : entDecV v = .agg #[.int .i64 0, .int .u8 0, .bool false] := by rw [entDecV, hd]; rfl
  have de : entDecE v = some 22 := by rw [entDecE, hd, decide_eq_false (by omega)]; rfl
  have di : isEnt v = false := by exact hd
  have DV := Lib.hid dv
  have DE := Lib.hid de
  have DI := Lib.hid di
  clear dv de di hd
  go_enter Tryd.func6, Tryd.ntmps6
  go_wp2_with fail
  refine (entEncode _ _ _ hp hp1 _).mono ?_
  rintro e w1 ⟨rfl, hb1⟩
  rw [entEnc, H.out, show errW (argErr false) = .iface 58 (.int .i64 22) from rfl, if_neg (by decide)]
  have Hb1 := Lib.hid hb1
  obtain ⟨hc1, hf1, hz1⟩ := bcell hb1
  try simp only [World.size_alloc, World.size_setCell, World.size_drew, size_drewN] at hc1 hf1 hz1
  clear hb1
  have hz1__ : w.heap.size < w1.heap.size := by omega
  go_wp2_with fail
  refine (entDecode _ (by omega) h1 _).mono ?_
  rintro e w3 ⟨rfl, hb3⟩
  rw [DV.out, DI.out, DE.out, errW_some]
  have Hb3 := Lib.hid hb3
  obtain ⟨hc3, hf3, hz3⟩ := bcell hb3
  try simp only [World.size_alloc, World.size_setCell, World.size_drew, size_drewN] at hc3 hf3 hz3
  clear hb3
  have hz3__ : w.heap.size < w3.heap.size := by omega
  go_wp2_with fail
  refine (num_calls (some 22) _ (HG.out.below' (by repeat (first | exact Below.refl _ _ | refine ba ?_ _ | refine bd ?_ | refine bdN ?_ _ | refine btH ?_ (by assumption) | refine bs ?_ (by simp; done) _ | refine bs ?_ (by simp; omega) _)))).mono ?_
  rintro e w4 ⟨rfl, hb4⟩
  rw [show numOf (some 22) = 22 from rfl]
  have Hb4 := Lib.hid hb4
  obtain ⟨hc4, hf4, hz4⟩ := bcell hb4
  try simp only [World.size_alloc, World.size_setCell, World.size_drew, size_drewN] at hc4 hf4 hz4
  clear hb4
  have hz4__ : w.heap.size < w4.heap.size := by omega
  have hz4_3_ : w3.heap.size < w4.heap.size := by omega
  go_wp2_with fail
  refine (entSure _).mono ?_
  rintro e w5 ⟨rfl, hb5⟩
  have Hb5 := Lib.hid hb5
  obtain ⟨hc5, hf5, hz5⟩ := bcell hb5
  try simp only [World.size_alloc, World.size_setCell, World.size_drew, size_drewN] at hc5 hf5 hz5
  clear hb5
  have hz5__ : w.heap.size < w5.heap.size := by omega
  have hz5_3_ : w3.heap.size < w5.heap.size := by omega
  go_wp2
  go_ret
  exact ⟨rfl, (by repeat (first | exact Below.refl _ _ | refine ba ?_ _ | refine bd ?_ | refine bdN ?_ _ | refine btH ?_ (by assumption) | refine bs ?_ (by simp; done) _ | refine bs ?_ (by simp; omega) _))⟩

theorem entryBackWalk (f p v : Int) (c : Bool) (hp : 0 ≤ p) (hp1 : p < 256) (h0 : 0 ≤ v) (h1 : v < 4294967296) (w : World) (hg : EW w) :
    Calls Tryd.prog 6 #[.agg #[.int .i64 f, .int .u8 p, .bool c], .int .u32 v] w fun e w' => e = .returned (.bool true) ∧ Below w.heap.size w w' := by
  by_cases hz : v = 0
  · cases h : entOk f p
    · exact entryBackWalk_fz f p v c hp hp1 h h0 h1 hz w hg
    · exact entryBackWalk_tz f p v c hp hp1 h h0 h1 hz w hg
  · cases hd : isEnt v <;> cases h : entOk f p
    · exact entryBackWalk_fn f p v c hp hp1 h (by omega) h1 hd w hg
    · exact entryBackWalk_tn f p v c hp hp1 h (by omega) h1 hd w hg
    · exact entryBackWalk_fe f p v c hp hp1 h (by omega) h1 hd w hg
    · exact entryBackWalk_te f p v c hp hp1 h (by omega) h1 hd w hg
end Go.Proofs.YtlhmnkhfobpjjaaDoor
