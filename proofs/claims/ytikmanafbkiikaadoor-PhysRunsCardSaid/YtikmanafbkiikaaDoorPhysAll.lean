/- The frames of bytes: one contract for each function, whatever it is asked; and of a nil one. -/
import Derived.Test.YtikmanafbkiikaaDoorPhysW
import Derived.Test.YtikmanafbkiikaaDoorPhysRel
namespace Go.Proofs.YtikmanafbkiikaaDoor
set_option linter.unusedSimpArgs false
set_option linter.unusedVariables false
open Go Go.RowKit Go.Proofs.YtikmanafbkiikaaDoorW.PrintWords Go.Proofs.YtikmanafbkiikaaDoor.RowK XPhys

/-! ### nil -/
set_option maxHeartbeats 1000000 in
theorem has_nil (w : World) (f : Int) : Calls Tryd.prog 63 #[.pointer none, .int .i64 f] w fun e w' => e = .returned (.bool false) ∧ w = w' := by
  go_enter Tryd.func63, Tryd.ntmps63
  go_wp2
  go_ret
  exact ⟨rfl, rfl⟩
set_option maxHeartbeats 1000000 in
set_option maxRecDepth 100000 in
theorem part_nil (w : World) (f o m : Int) : Calls Tryd.prog 61 #[.pointer none, .int .i64 f, .int .i64 o, .int .i64 m] w fun e w' => e = .returned (.tuple #[.slice none 0 0, errW (some 22)]) ∧ w = w' := by
  go_enter Tryd.func61, Tryd.ntmps61
  go_wp2_with fail
  ((with_reducible refine (has_nil _ _).mono ?_); rintro e w' ⟨rfl, rfl⟩)
  go_wp2
  go_ret2
  exact ⟨rfl, rfl⟩
set_option maxHeartbeats 1000000 in
theorem zero_nil (w : World) (f : Int) : Calls Tryd.prog 17 #[.pointer none, .int .i64 f] w fun e w' => e = .returned (errW (some 22)) ∧ w = w' := by
  go_enter Tryd.func17, Tryd.ntmps17
  go_wp2_with fail
  ((with_reducible refine (has_nil _ _).mono ?_); rintro e w' ⟨rfl, rfl⟩)
  go_wp2
  go_ret
  exact ⟨rfl, rfl⟩
set_option maxHeartbeats 1000000 in
theorem copy_nil (w : World) (t f : Int) : Calls Tryd.prog 14 #[.pointer none, .int .i64 t, .int .i64 f] w fun e w' => e = .returned (errW (some 22)) ∧ w = w' := by
  go_enter Tryd.func14, Tryd.ntmps14
  go_wp2_with fail
  ((with_reducible refine (has_nil _ _).mono ?_); rintro e w' ⟨rfl, rfl⟩)
  go_wp2
  go_ret
  exact ⟨rfl, rfl⟩
set_option maxHeartbeats 1000000 in
theorem many_nil (w : World) : Calls Tryd.prog 18 #[.pointer none] w fun e w' => e = .returned (.int .i64 0) ∧ w = w' := by
  go_enter Tryd.func18, Tryd.ntmps18
  go_wp2
  go_ret
  exact ⟨rfl, rfl⟩
theorem read_nil (w : World) (f o m : Int) : Calls Tryd.prog 12 #[.pointer none, .int .i64 f, .int .i64 o, .int .i64 m] w fun e w' => e = .returned (.tuple #[.slice none 0 0, errW (some 22)]) ∧ w = w' :=
  read_bad w _ f o m 22 (fun W _ => part_nil W f o m)
theorem write_nil (w : World) (f o : Int) (A : Option Addr) (m c : Nat) (hm : m ≤ maxLen) : Calls Tryd.prog 13 #[.pointer none, .int .i64 f, .int .i64 o, .slice A m c] w fun e w' => e = .returned (errW (some 22)) ∧ w = w' :=
  write_bad w _ f o A m c 22 hm (fun W _ => part_nil W f o m)

/-! ### whatever is asked -/
theorem rErr_none {n : Nat} {f o m : Int} (h : rErr n f o m = none) : (0 ≤ f ∧ f < (n : Int)) ∧ 0 ≤ o ∧ o ≤ 256 ∧ 0 ≤ m ∧ m ≤ 256 - o := by
  unfold rErr at h
  split at h
  · rename_i h1
    split at h
    · rename_i h2; exact ⟨h1, h2⟩
    · cases h
  · cases h
/-- What a write makes of the bytes, and of the notes. -/
def wB (n : Nat) (bs : List Int) (f o : Int) (b : List Int) : List Int := if rErr n f o b.length = none then spl bs (f.toNat * 256 + o.toNat) b else bs
def wL (n : Nat) (L : List Nt) (f o : Int) (b : List Int) : List Nt := if rErr n f o b.length = none then L ++ [⟨f, o, b⟩] else L
theorem w_rel {n : Nat} {bs : List Int} {L : List Nt} (h : Rel n bs L) (f o : Int) (b : List Int) : Rel n (wB n bs f o b) (wL n L f o b) := by
  unfold wB wL
  split
  · rename_i he
    obtain ⟨h1, h2, h3, h4, h5⟩ := rErr_none he
    obtain ⟨f, rfl⟩ : ∃ k : Nat, f = k := ⟨f.toNat, by omega⟩
    obtain ⟨o, rfl⟩ : ∃ k : Nat, o = k := ⟨o.toNat, by omega⟩
    exact h.write f o b (by omega) (by omega)
  · exact h
theorem w_lok {n : Nat} {L : List Nt} (h : Lok L) (f o : Int) (b : List Int) : Lok (wL n L f o b) := by
  unfold wL
  split
  · rename_i he
    obtain ⟨h1, h2, h3, h4, h5⟩ := rErr_none he
    obtain ⟨f, rfl⟩ : ∃ k : Nat, f = k := ⟨f.toNat, by omega⟩
    obtain ⟨o, rfl⟩ : ∃ k : Nat, o = k := ⟨o.toNat, by omega⟩
    exact h.write f o b (by omega) (by omega)
  · exact h
theorem w_len (n : Nat) (L : List Nt) (f o : Int) (b : List Int) : (wL n L f o b).length ≤ L.length + 1 := by unfold wL; split <;> simp
theorem write_all (w : World) (p g n : Nat) (bs : List Int) (h : Mem w p g n bs) (f o : Int) (A : Option Addr) (b : List Int) (c : Nat) (hb : Kd.C Bk w A b.length b) (hm : b.length ≤ maxLen) :
    Calls Tryd.prog 13 #[.pointer (some ⟨p, 0, none⟩), .int .i64 f, .int .i64 o, .slice A b.length c] w fun e w' => e = .returned (errW (rErr n f o b.length)) ∧ Mem w' p g n (wB n bs f o b) ∧ Oth w w' g := by
  unfold wB rErr
  by_cases hf : 0 ≤ f ∧ f < (n : Int)
  · rw [if_pos hf]
    by_cases ho : 0 ≤ o ∧ o ≤ 256 ∧ 0 ≤ (b.length : Int) ∧ (b.length : Int) ≤ 256 - o
    · rw [if_pos ho, if_pos rfl]
      exact (write_ok w p g n bs h f o A b c hb hf.1 hf.2 ho.1 ho.2.1 ho.2.2.2)
    · rw [if_neg ho, if_neg (by simp)]
      refine (write_far w p g n bs h f o A b.length c hm hf.1 hf.2 (by omega)).mono ?_
      rintro e w' ⟨rfl, rfl⟩
      exact ⟨rfl, h, Oth.refl _ _⟩
  · rw [if_neg hf, if_neg (by simp)]
    refine (write_no w p g n bs h f o A b.length c hm hf).mono ?_
    rintro e w' ⟨rfl, rfl⟩
    exact ⟨rfl, h, Oth.refl _ _⟩
def zErr (n : Nat) (f : Int) : Option Int := if 0 ≤ f ∧ f < (n : Int) then none else some 22
theorem zErr_eq (n : Nat) (f : Int) : zErr n f = rErr n f 0 256 := by unfold zErr rErr; simp
theorem zero_all (w : World) (p g n : Nat) (bs : List Int) (h : Mem w p g n bs) (f : Int) :
    Calls Tryd.prog 17 #[.pointer (some ⟨p, 0, none⟩), .int .i64 f] w fun e w' => e = .returned (errW (zErr n f)) ∧ Mem w' p g n (wB n bs f 0 (List.replicate 256 0)) ∧ Oth w w' g := by
  unfold wB
  rw [List.length_replicate, show ((256 : Nat) : Int) = 256 from rfl, ← zErr_eq]
  unfold zErr
  by_cases hf : 0 ≤ f ∧ f < (n : Int)
  · rw [if_pos hf, if_pos rfl]
    have := zero_ok w p g n bs h f hf.1 hf.2
    rw [show (0 : Int).toNat = 0 from rfl, Nat.add_zero]
    exact this
  · rw [if_neg hf, if_neg (by simp)]
    refine (zero_no w p g n bs h f hf).mono ?_
    rintro e w' ⟨rfl, rfl⟩
    exact ⟨rfl, h, Oth.refl _ _⟩
def cErr (n : Nat) (t f : Int) : Option Int := if (0 ≤ t ∧ t < (n : Int)) ∧ (0 ≤ f ∧ f < (n : Int)) then none else some 22
/-- What a copy lays down. -/
def cB (n : Nat) (bs : List Int) (t f : Int) : List Int := if cErr n t f = none then wB n bs t 0 (seg bs (f.toNat * 256) 256) else bs
theorem copy_all (w : World) (p g n : Nat) (bs : List Int) (h : Mem w p g n bs) (t f : Int) :
    Calls Tryd.prog 14 #[.pointer (some ⟨p, 0, none⟩), .int .i64 t, .int .i64 f] w fun e w' => e = .returned (errW (cErr n t f)) ∧ Mem w' p g n (cB n bs t f) ∧ Oth w w' g := by
  unfold cB wB cErr
  by_cases hf : (0 ≤ t ∧ t < (n : Int)) ∧ (0 ≤ f ∧ f < (n : Int))
  · rw [if_pos hf, if_pos rfl, seg_length _ _ _ (by have := h.len; omega), if_pos (by unfold rErr; rw [if_pos hf.1, if_pos (by decide)])]
    have := copy_ok w p g n bs h t f hf.1.1 hf.1.2 hf.2.1 hf.2.2
    rw [show (0 : Int).toNat = 0 from rfl, Nat.add_zero]
    exact this
  · rw [if_neg hf, if_neg (by simp)]
    refine (copy_no w p g n bs h t f hf).mono ?_
    rintro e w' ⟨rfl, rfl⟩
    exact ⟨rfl, h, Oth.refl _ _⟩
/-- What is read. -/
def rB (n : Nat) (bs : List Int) (f o m : Int) : List Int := if rErr n f o m = none then seg bs (f.toNat * 256 + o.toNat) m.toNat else []
theorem r_rel {n : Nat} {bs : List Int} {L : List Nt} (h : Rel n bs L) (f o m : Int) : rB n bs f o m = rL n L f o m := by
  unfold rB rL
  split
  · rename_i he
    obtain ⟨h1, h2, h3, h4, h5⟩ := rErr_none he
    obtain ⟨f, rfl⟩ : ∃ k : Nat, f = k := ⟨f.toNat, by omega⟩
    obtain ⟨o, rfl⟩ : ∃ k : Nat, o = k := ⟨o.toNat, by omega⟩
    obtain ⟨m, rfl⟩ : ∃ k : Nat, m = k := ⟨m.toNat, by omega⟩
    exact h.seg f o m (by omega) (by omega)
  · rfl
theorem read_all (w : World) (p g n : Nat) (bs : List Int) (h : Mem w p g n bs) (f o m : Int) (hm : (Lit.int .i64 m).wf = true) :
    Calls Tryd.prog 12 #[.pointer (some ⟨p, 0, none⟩), .int .i64 f, .int .i64 o, .int .i64 m] w fun e w' => ∃ v, e = .returned (.tuple #[v, errW (rErr n f o m)]) ∧ Kd.R Bk 5 w' w.heap.size (fun _ => True) v (rB n bs f o m) ∧ Below w.heap.size w w' := by
  unfold rB rErr
  by_cases hf : 0 ≤ f ∧ f < (n : Int)
  · rw [if_pos hf]
    by_cases ho : 0 ≤ o ∧ o ≤ 256 ∧ 0 ≤ m ∧ m ≤ 256 - o
    · rw [if_pos ho, if_pos rfl]
      exact read_ok w p g n bs h f o m hf.1 hf.2 ho.1 ho.2.1 ho.2.2.1 ho.2.2.2
    · rw [if_neg ho, if_neg (by simp)]
      refine (read_far w p g n bs h f o m hf.1 hf.2 hm ho).mono ?_
      rintro e w' ⟨rfl, rfl⟩
      exact ⟨_, rfl, Kd.R_nil _ _ _ _ _, Below.refl _ _⟩
  · rw [if_neg hf, if_neg (by simp)]
    refine (read_no w p g n bs h f o m hf).mono ?_
    rintro e w' ⟨rfl, rfl⟩
    exact ⟨_, rfl, Kd.R_nil _ _ _ _ _, Below.refl _ _⟩
end Go.Proofs.YtikmanafbkiikaaDoor
