/- The walk of EntryForms. -/
import Derived.Test.YtlhmnkhfobpjjaaDoorEntrySure
import Derived.Test.YtlhmnkhfobpjjaaDoorEntryRef
import Derived.Test.YtlhmnkhfobpjjaaDoorNum06
namespace Go.Proofs.YtlhmnkhfobpjjaaDoor
set_option linter.unusedSimpArgs false
set_option linter.unusedVariables false
open Go Go.RowKit

theorem entDecV_agg (v : Int) : ∃ a b c, entDecV v = .agg #[.int .i64 a, .int .u8 b, .bool c] := by
  unfold entDecV; split <;> exact ⟨_, _, _, rfl⟩

set_option maxHeartbeats 2000000 in
theorem entryFormsWalk (f p v use : Int) (c : Bool) (hp : 0 ≤ p) (hp1 : p < 256) (h0 : 0 ≤ v) (h1 : v < 4294967296) (hu0 : 0 ≤ use) (hu1 : use < 256) (w : World) (hg : EW w) :
    Calls Tryd.prog 5 #[.agg #[.int .i64 f, .int .u8 p, .bool c], .int .u32 v, .int .u8 use] w fun e w' => e = .returned (.bool true) ∧ Below w.heap.size w w' := by
  obtain ⟨er, her⟩ : ∃ er, er = argErr (entOk f p) := ⟨_, rfl⟩
  obtain ⟨en, hen⟩ : ∃ en, en = entEnc f p c := ⟨_, rfl⟩
  obtain ⟨dr, hdr⟩ : ∃ dr, dr = entDecE v := ⟨_, rfl⟩
  obtain ⟨di, hdi⟩ : ∃ di, di = isEnt v := ⟨_, rfl⟩
  obtain ⟨mb, hmb⟩ : ∃ mb, mb = entMay f p use := ⟨_, rfl⟩
  obtain ⟨x0, x1, x2, hx⟩ := entDecV_agg v
  have Her := Lib.hid her
  have Hen := Lib.hid hen
  have Hdr := Lib.hid hdr
  have Hdi := Lib.hid hdi
  have Hmb := Lib.hid hmb
  have HX := Lib.hid hx
  have HG := Lib.hid hg
  clear her hen hdr hdi hmb hx hg
  go_enter Tryd.func5, Tryd.ntmps5
  go_wp2_with fail
  refine (entEncode _ _ _ hp hp1 _).mono ?_
  rintro e w1 ⟨rfl, hb1⟩
  rw [← Her.out, ← Hen.out]
  have Hb1 := Lib.hid hb1
  obtain ⟨hc1, hf1, hz1⟩ := bcell hb1
  try simp only [World.size_alloc, World.size_setCell, World.size_drew, size_drewN] at hc1 hf1 hz1
  clear hb1
  have hz1__ : w.heap.size < w1.heap.size := by omega
  have hz1__1 : w.heap.size + 1 < w1.heap.size := by omega
  go_wp2_with fail
  refine (refEntEncode _ _ _ hp hp1 _).mono ?_
  rintro e w2 ⟨rfl, hb2⟩
  rw [← Her.out, ← Hen.out]
  have Hb2 := Lib.hid hb2
  obtain ⟨hc2, hf2, hz2⟩ := bcell hb2
  try simp only [World.size_alloc, World.size_setCell, World.size_drew, size_drewN] at hc2 hf2 hz2
  clear hb2
  have hz2__ : w.heap.size < w2.heap.size := by omega
  have hz2__1 : w.heap.size + 1 < w2.heap.size := by omega
  go_wp2_with fail
  refine (entDecode _ h0 h1 _).mono ?_
  rintro e w3 ⟨rfl, hb3⟩
  rw [← Hdr.out, ← Hdi.out, HX.out]
  have Hb3 := Lib.hid hb3
  obtain ⟨hc3, hf3, hz3⟩ := bcell hb3
  try simp only [World.size_alloc, World.size_setCell, World.size_drew, size_drewN] at hc3 hf3 hz3
  clear hb3
  have hz3__ : w.heap.size < w3.heap.size := by omega
  have hz3__1 : w.heap.size + 1 < w3.heap.size := by omega
  go_wp2_with fail
  refine (refEntDecode _ h0 h1 _).mono ?_
  rintro e w4 ⟨rfl, hb4⟩
  rw [← Hdr.out, ← Hdi.out, HX.out]
  have Hb4 := Lib.hid hb4
  obtain ⟨hc4, hf4, hz4⟩ := bcell hb4
  try simp only [World.size_alloc, World.size_setCell, World.size_drew, size_drewN] at hc4 hf4 hz4
  clear hb4
  have hz4__ : w.heap.size < w4.heap.size := by omega
  have hz4__1 : w.heap.size + 1 < w4.heap.size := by omega
  have hz4_3_ : w3.heap.size < w4.heap.size := by omega
  go_wp2_with fail
  refine (entCheck _ _ _ _).mono ?_
  rintro e w5 ⟨rfl, hb5⟩
  rw [← Her.out]
  have Hb5 := Lib.hid hb5
  obtain ⟨hc5, hf5, hz5⟩ := bcell hb5
  try simp only [World.size_alloc, World.size_setCell, World.size_drew, size_drewN] at hc5 hf5 hz5
  clear hb5
  have q5_e_0 : w5.cell? ⟨w.heap.size, 0, none⟩ = some (.int .i64 f) := by first | (rw [hc5 _ _ (by omega)]; simp; done) | (rw [hc5 _ _ (by omega)]; go_simp; done)
  have k5_e_0 : w5.frozen? ⟨w.heap.size, 0, none⟩ = false := by first | (rw [hf5 _ _ (by omega)]; simp; done) | (rw [hf5 _ _ (by omega)]; go_simp; done)
  have q5_e_1 : w5.cell? ⟨w.heap.size, 1, none⟩ = some (.int .u8 p) := by first | (rw [hc5 _ _ (by omega)]; simp; done) | (rw [hc5 _ _ (by omega)]; go_simp; done)
  have k5_e_1 : w5.frozen? ⟨w.heap.size, 1, none⟩ = false := by first | (rw [hf5 _ _ (by omega)]; simp; done) | (rw [hf5 _ _ (by omega)]; go_simp; done)
  have q5_e_2 : w5.cell? ⟨w.heap.size, 2, none⟩ = some (.bool c) := by first | (rw [hc5 _ _ (by omega)]; simp; done) | (rw [hc5 _ _ (by omega)]; go_simp; done)
  have k5_e_2 : w5.frozen? ⟨w.heap.size, 2, none⟩ = false := by first | (rw [hf5 _ _ (by omega)]; simp; done) | (rw [hf5 _ _ (by omega)]; go_simp; done)
  have z5_e : w.heap.size < w5.heap.size := by omega
  have q5_x_0 : w5.cell? ⟨w.heap.size + 1, 0, none⟩ = some (.int .i64 f) := by first | (rw [hc5 _ _ (by omega)]; simp; done) | (rw [hc5 _ _ (by omega)]; go_simp; done)
  have k5_x_0 : w5.frozen? ⟨w.heap.size + 1, 0, none⟩ = false := by first | (rw [hf5 _ _ (by omega)]; simp; done) | (rw [hf5 _ _ (by omega)]; go_simp; done)
  have q5_x_1 : w5.cell? ⟨w.heap.size + 1, 1, none⟩ = some (.int .u8 p) := by first | (rw [hc5 _ _ (by omega)]; simp; done) | (rw [hc5 _ _ (by omega)]; go_simp; done)
  have k5_x_1 : w5.frozen? ⟨w.heap.size + 1, 1, none⟩ = false := by first | (rw [hf5 _ _ (by omega)]; simp; done) | (rw [hf5 _ _ (by omega)]; go_simp; done)
  have q5_x_2 : w5.cell? ⟨w.heap.size + 1, 2, none⟩ = some (.bool c) := by first | (rw [hc5 _ _ (by omega)]; simp; done) | (rw [hc5 _ _ (by omega)]; go_simp; done)
  have k5_x_2 : w5.frozen? ⟨w.heap.size + 1, 2, none⟩ = false := by first | (rw [hf5 _ _ (by omega)]; simp; done) | (rw [hf5 _ _ (by omega)]; go_simp; done)
  have z5_x : w.heap.size + 1 < w5.heap.size := by omega
  have q5_y_0 : w5.cell? ⟨w3.heap.size, 0, none⟩ = some (.int .i64 x0) := by first | (rw [hc5 _ _ (by omega)]; simp; done) | (rw [hc5 _ _ (by omega)]; go_simp; done)
  have k5_y_0 : w5.frozen? ⟨w3.heap.size, 0, none⟩ = false := by first | (rw [hf5 _ _ (by omega)]; simp; done) | (rw [hf5 _ _ (by omega)]; go_simp; done)
  have q5_y_1 : w5.cell? ⟨w3.heap.size, 1, none⟩ = some (.int .u8 x1) := by first | (rw [hc5 _ _ (by omega)]; simp; done) | (rw [hc5 _ _ (by omega)]; go_simp; done)
  have k5_y_1 : w5.frozen? ⟨w3.heap.size, 1, none⟩ = false := by first | (rw [hf5 _ _ (by omega)]; simp; done) | (rw [hf5 _ _ (by omega)]; go_simp; done)
  have q5_y_2 : w5.cell? ⟨w3.heap.size, 2, none⟩ = some (.bool x2) := by first | (rw [hc5 _ _ (by omega)]; simp; done) | (rw [hc5 _ _ (by omega)]; go_simp; done)
  have k5_y_2 : w5.frozen? ⟨w3.heap.size, 2, none⟩ = false := by first | (rw [hf5 _ _ (by omega)]; simp; done) | (rw [hf5 _ _ (by omega)]; go_simp; done)
  have z5_y : w3.heap.size < w5.heap.size := by omega
  have q5_z_0 : w5.cell? ⟨w4.heap.size, 0, none⟩ = some (.int .i64 x0) := by first | (rw [hc5 _ _ (by omega)]; simp; done) | (rw [hc5 _ _ (by omega)]; go_simp; done)
  have k5_z_0 : w5.frozen? ⟨w4.heap.size, 0, none⟩ = false := by first | (rw [hf5 _ _ (by omega)]; simp; done) | (rw [hf5 _ _ (by omega)]; go_simp; done)
  have q5_z_1 : w5.cell? ⟨w4.heap.size, 1, none⟩ = some (.int .u8 x1) := by first | (rw [hc5 _ _ (by omega)]; simp; done) | (rw [hc5 _ _ (by omega)]; go_simp; done)
  have k5_z_1 : w5.frozen? ⟨w4.heap.size, 1, none⟩ = false := by first | (rw [hf5 _ _ (by omega)]; simp; done) | (rw [hf5 _ _ (by omega)]; go_simp; done)
  have q5_z_2 : w5.cell? ⟨w4.heap.size, 2, none⟩ = some (.bool x2) := by first | (rw [hc5 _ _ (by omega)]; simp; done) | (rw [hc5 _ _ (by omega)]; go_simp; done)
  have k5_z_2 : w5.frozen? ⟨w4.heap.size, 2, none⟩ = false := by first | (rw [hf5 _ _ (by omega)]; simp; done) | (rw [hf5 _ _ (by omega)]; go_simp; done)
  have z5_z : w4.heap.size < w5.heap.size := by omega
  clear hc5 hf5
  go_wp2_with fail
  have L6_e_0 : ∀ n : Later w5, n.1.cell? ⟨w.heap.size, 0, none⟩ = some (.int .i64 f) := fun n => (n.cell 0 (by omega)).trans (by first | assumption | (simp; done) | (go_simp; done))
  have L6_e_1 : ∀ n : Later w5, n.1.cell? ⟨w.heap.size, 1, none⟩ = some (.int .u8 p) := fun n => (n.cell 1 (by omega)).trans (by first | assumption | (simp; done) | (go_simp; done))
  have L6_e_2 : ∀ n : Later w5, n.1.cell? ⟨w.heap.size, 2, none⟩ = some (.bool c) := fun n => (n.cell 2 (by omega)).trans (by first | assumption | (simp; done) | (go_simp; done))
  have L6_x_0 : ∀ n : Later w5, n.1.cell? ⟨w.heap.size + 1, 0, none⟩ = some (.int .i64 f) := fun n => (n.cell 0 (by omega)).trans (by first | assumption | (simp; done) | (go_simp; done))
  have L6_x_1 : ∀ n : Later w5, n.1.cell? ⟨w.heap.size + 1, 1, none⟩ = some (.int .u8 p) := fun n => (n.cell 1 (by omega)).trans (by first | assumption | (simp; done) | (go_simp; done))
  have L6_x_2 : ∀ n : Later w5, n.1.cell? ⟨w.heap.size + 1, 2, none⟩ = some (.bool c) := fun n => (n.cell 2 (by omega)).trans (by first | assumption | (simp; done) | (go_simp; done))
  have L6_y_0 : ∀ n : Later w5, n.1.cell? ⟨w3.heap.size, 0, none⟩ = some (.int .i64 x0) := fun n => (n.cell 0 (by omega)).trans (by first | assumption | (simp; done) | (go_simp; done))
  have L6_y_1 : ∀ n : Later w5, n.1.cell? ⟨w3.heap.size, 1, none⟩ = some (.int .u8 x1) := fun n => (n.cell 1 (by omega)).trans (by first | assumption | (simp; done) | (go_simp; done))
  have L6_y_2 : ∀ n : Later w5, n.1.cell? ⟨w3.heap.size, 2, none⟩ = some (.bool x2) := fun n => (n.cell 2 (by omega)).trans (by first | assumption | (simp; done) | (go_simp; done))
  have L6_z_0 : ∀ n : Later w5, n.1.cell? ⟨w4.heap.size, 0, none⟩ = some (.int .i64 x0) := fun n => (n.cell 0 (by omega)).trans (by first | assumption | (simp; done) | (go_simp; done))
  have L6_z_1 : ∀ n : Later w5, n.1.cell? ⟨w4.heap.size, 1, none⟩ = some (.int .u8 x1) := fun n => (n.cell 1 (by omega)).trans (by first | assumption | (simp; done) | (go_simp; done))
  have L6_z_2 : ∀ n : Later w5, n.1.cell? ⟨w4.heap.size, 2, none⟩ = some (.bool x2) := fun n => (n.cell 2 (by omega)).trans (by first | assumption | (simp; done) | (go_simp; done))
  have LE6 : ∀ n : Later w5, EW n.1 := fun n => (HG.out.below' (by repeat (first | exact Below.refl _ _ | refine ba ?_ _ | refine bd ?_ | refine bdN ?_ _ | refine btH ?_ (by assumption) | refine bs ?_ (by simp; done) _ | refine bs ?_ (by simp; omega) _))).below' n.2
  refine wp_region_later (w := w5) (by kernel_rfl) (by kernel_rfl) ?_
  repeat (go_big_quiet_step (first | (go_at_call 19; exact later_call (num_calls _ _ (LE6 _))) | (go_at_call 20; exact later_call (entMayW _ _ _ _ hp hp1 _)) | (go_at_call 21; exact later_call (refEntUsed _ _ _ _ hp hp1 hu0 hu1 _)) | (go_at_call 22; exact later_call (entSure _))))
  refine wpQuiet_nil ?_
  intro _ hw'
  obtain ⟨n6, hw''⟩ := hw'
  subst hw''
  have Hb6 := Lib.hid n6.2
  obtain ⟨hc6, hf6, hz6⟩ := bcell n6.2
  clear hc6 hf6
  have q6_e_0 := L6_e_0 n6
  have q6_e_1 := L6_e_1 n6
  have q6_e_2 := L6_e_2 n6
  have q6_x_0 := L6_x_0 n6
  have q6_x_1 := L6_x_1 n6
  have q6_x_2 := L6_x_2 n6
  have q6_y_0 := L6_y_0 n6
  have q6_y_1 := L6_y_1 n6
  have q6_y_2 := L6_y_2 n6
  have q6_z_0 := L6_z_0 n6
  have q6_z_1 := L6_z_1 n6
  have q6_z_2 := L6_z_2 n6
  clear L6_e_0 L6_e_1 L6_e_2 L6_x_0 L6_x_1 L6_x_2 L6_y_0 L6_y_1 L6_y_2 L6_z_0 L6_z_1 L6_z_2
  go_wp2
  go_ret
  exact ⟨rfl, (by repeat (first | exact Below.refl _ _ | refine ba ?_ _ | refine bd ?_ | refine bdN ?_ _ | refine btH ?_ (by assumption) | refine bs ?_ (by simp; done) _ | refine bs ?_ (by simp; omega) _))⟩
end Go.Proofs.YtlhmnkhfobpjjaaDoor
