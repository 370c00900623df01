/- The walks of entry.Check, entry.Encode, entry.Decode. -/
import Derived.Test.YtikmanafbkiikaaDoorProg
import Derived.Test.YtikmanafbkiikaaDoorKit
import Derived.Test.YtikmanafbkiikaaDoorEntryMath
namespace Go.Proofs.YtikmanafbkiikaaDoor
set_option linter.unusedSimpArgs false
set_option linter.unusedVariables false
open Go Go.RowKit

theorem entCheck (f p : Int) (c : Bool) (w : World) :
    Calls Tryd.prog 103 #[.agg #[.int .i64 f, .int .u8 p, .bool c]] w fun e w' => e = .returned (errW (argErr (entOk f p))) ∧ Below w.heap.size w w' := by
  go_enter Tryd.func103, Tryd.ntmps103
  go_wp2
  all_goals
    go_ret
    refine ⟨?_, (by repeat (first | exact Below.refl _ _ | refine ba ?_ _ | refine bd ?_ | refine bdN ?_ _ | refine btH ?_ (by assumption) | refine bs ?_ (by simp; done) _ | refine bs ?_ (by simp; omega) _))⟩
    first
    | (rw [show entOk f p = true by simp [entOk]; omega]; rfl)
    | (rw [show entOk f p = false by simp [entOk]; omega]; rfl)

set_option maxHeartbeats 1000000 in
theorem entEncode (f p : Int) (c : Bool) (hp : 0 ≤ p) (hp1 : p < 256) (w : World) :
    Calls Tryd.prog 74 #[.agg #[.int .i64 f, .int .u8 p, .bool c]] w fun e w' => e = .returned (.tuple #[.int .u32 (entEnc f p c), errW (argErr (entOk f p))]) ∧ Below w.heap.size w w' := by
  cases h : entOk f p
  · have H := Lib.hid h
    clear h
    go_enter Tryd.func74, Tryd.ntmps74
    go_wp2_with fail
    refine (entCheck _ _ _ _).mono ?_
    rintro e w1 ⟨rfl, hb1⟩
    rw [H.out, show errW (argErr false) = .iface 123 (.int .i64 22) from rfl]
    have Hb1 := Lib.hid hb1
    obtain ⟨hc1, hf1, hz1⟩ := bcell hb1
    try simp only [World.size_alloc, World.size_setCell, World.size_drew, size_drewN] at hc1 hf1 hz1
    clear hb1
    have hz1__ : w.heap.size < w1.heap.size := by omega
    go_wp2
    go_ret2
    exact ⟨by rw [entEnc, H.out]; rfl, (by repeat (first | exact Below.refl _ _ | refine ba ?_ _ | refine bd ?_ | refine bdN ?_ _ | refine btH ?_ (by assumption) | refine bs ?_ (by simp; done) _ | refine bs ?_ (by simp; omega) _))⟩
  · obtain ⟨h0, h1, h2⟩ := entOk_iff.1 h
    have E := Lib.hid (ent_or f p h hp)
    have H := Lib.hid h
    clear h
    cases c
    all_goals
      go_enter Tryd.func74, Tryd.ntmps74
      go_wp2_with fail
      refine (entCheck _ _ _ _).mono ?_
      rintro e w1 ⟨rfl, hb1⟩
      rw [H.out, show errW (argErr true) = .nilIface from rfl]
      have Hb1 := Lib.hid hb1
      obtain ⟨hc1, hf1, hz1⟩ := bcell hb1
      try simp only [World.size_alloc, World.size_setCell, World.size_drew, size_drewN] at hc1 hf1 hz1
      clear hb1
      have hz1__ : w.heap.size < w1.heap.size := by omega
      go_wp2
      go_ret2
      refine ⟨ret2 (vint ?_) rfl, (by repeat (first | exact Below.refl _ _ | refine ba ?_ _ | refine bd ?_ | refine bdN ?_ _ | refine btH ?_ (by assumption) | refine bs ?_ (by simp; done) _ | refine bs ?_ (by simp; omega) _))⟩
      rw [entEnc, H.out, if_pos rfl]
      first | exact E.out.1 | exact E.out.2

def entDecV (v : Int) : Value := if isEnt v then .agg #[.int .i64 (v / 256), .int .u8 (v % 8), .bool (decide (v / 8 % 2 = 1))] else .agg #[.int .i64 0, .int .u8 0, .bool false]
def entDecE (v : Int) : Option Int := argErr (decide (v = 0) || isEnt v)

set_option maxHeartbeats 1000000 in
theorem entDecode (v : Int) (h0 : 0 ≤ v) (h1 : v < 4294967296) (w : World) :
    Calls Tryd.prog 71 #[.int .u32 v] w fun e w' => e = .returned (.tuple #[entDecV v, .bool (isEnt v), errW (entDecE v)]) ∧ Below w.heap.size w w' := by
  by_cases hz : v = 0
  · subst hz
    go_enter Tryd.func71, Tryd.ntmps71
    go_wp2
    exact bodyPost_ret (v := .tuple #[.agg #[.int .i64 0, .int .u8 0, .bool false], .bool false, .nilIface]) (by simp [results, Tryd.results71, go_sem]) rfl ⟨rfl, (by repeat (first | exact Below.refl _ _ | refine ba ?_ _ | refine bd ?_ | refine bdN ?_ _ | refine btH ?_ (by assumption) | refine bs ?_ (by simp; done) _ | refine bs ?_ (by simp; omega) _))⟩
  · have hz' : (v == 0) = false := beq_false_of_ne hz
    have e1 : bits .and .u32 v 7 % 256 = v % 8 := by
      rw [show (7 : Int) = ((2 ^ 3 - 1 : Nat) : Int) from rfl, u32_mask 3 (by decide) _ (by omega) (by omega)]; omega
    have e2 : (bits .and .u32 v 8 != 0) = decide (v / 8 % 2 = 1) := by
      rw [show (8 : Int) = ((2 ^ 3 : Nat) : Int) from rfl, u32_and_bit 3 (by decide) _ (by omega) (by omega)]
      show (v / 8 % 2 * 8 != 0) = decide (v / 8 % 2 = 1)
      by_cases k : v / 8 % 2 = 1
      · rw [decide_eq_true k]; rw [bne_iff_ne]; omega
      · rw [decide_eq_false k]; rw [bne_eq_false_iff_eq]; omega
    obtain ⟨c, hc⟩ : ∃ c, c = decide (v / 8 % 2 = 1) := ⟨_, rfl⟩
    rw [← hc] at e2
    have HC := Lib.hid hc
    have E1 := Lib.hid e1
    have E2 := Lib.hid e2
    clear e1 e2 hc
    cases h : isEnt v
    · have hn := not_isEnt h0 h
      rw [← HC.out] at hn
      have e3 : (argErr (entOk (v / 256) (v % 8)) = none → (entEnc (v / 256) (v % 8) c != v) = true) := by
        intro hh
        have k : entOk (v / 256) (v % 8) = true := by
          cases k : entOk (v / 256) (v % 8)
          · rw [k] at hh; cases hh
          · rfl
        rw [bne_iff_ne]
        intro e
        exact hn ⟨k, by rw [entEnc, k, if_pos rfl] at e; exact e⟩
      have H := Lib.hid h
      have HN := Lib.hid e3
      clear h hn e3
      go_enter Tryd.func71, Tryd.ntmps71
      go_wp2_with fail
      rw [E1.out, E2.out]
      refine (entEncode _ _ _ (by omega) (by omega) _).mono ?_
      rintro e w1 ⟨rfl, hb1⟩
      have Hb1 := Lib.hid hb1
      obtain ⟨hc1, hf1, hz1⟩ := bcell hb1
      try simp only [World.size_alloc] at hc1 hf1 hz1
      clear hb1
      cases k : argErr (entOk (v / 256) (v % 8)) with
      | none =>
        have e3 := HN.out k
        rw [errW_none]
        generalize entEnc (v / 256) (v % 8) c = z at *
        clear k
        have q0 : w1.cell? ⟨w.heap.size, 0, none⟩ = some (.int .i64 0) := by rw [hc1 _ _ (by omega)]; simp
        have q1 : w1.cell? ⟨w.heap.size, 1, none⟩ = some (.int .u8 0) := by rw [hc1 _ _ (by omega)]; simp
        have q2 : w1.cell? ⟨w.heap.size, 2, none⟩ = some (.bool false) := by rw [hc1 _ _ (by omega)]; simp
        go_wp2
        exact bodyPost_ret (v := .tuple #[.agg #[.int .i64 0, .int .u8 0, .bool false], .bool false, .iface 123 (.int .i64 22)]) (by simp [results, Tryd.results71, go_sem, q0, q1, q2]) rfl ⟨by rw [entDecV, entDecE, H.out, decide_eq_false hz]; rfl, (by repeat (first | exact Below.refl _ _ | refine ba ?_ _ | refine bd ?_ | refine bdN ?_ _ | refine btH ?_ (by assumption) | refine bs ?_ (by simp; done) _ | refine bs ?_ (by simp; omega) _))⟩
      | some z =>
        rw [errW_some]
        clear k
        have q0 : w1.cell? ⟨w.heap.size, 0, none⟩ = some (.int .i64 0) := by rw [hc1 _ _ (by omega)]; simp
        have q1 : w1.cell? ⟨w.heap.size, 1, none⟩ = some (.int .u8 0) := by rw [hc1 _ _ (by omega)]; simp
        have q2 : w1.cell? ⟨w.heap.size, 2, none⟩ = some (.bool false) := by rw [hc1 _ _ (by omega)]; simp
        go_wp2
        exact bodyPost_ret (v := .tuple #[.agg #[.int .i64 0, .int .u8 0, .bool false], .bool false, .iface 123 (.int .i64 22)]) (by simp [results, Tryd.results71, go_sem, q0, q1, q2]) rfl ⟨by rw [entDecV, entDecE, H.out, decide_eq_false hz]; rfl, (by repeat (first | exact Below.refl _ _ | refine ba ?_ _ | refine bd ?_ | refine bdN ?_ _ | refine btH ?_ (by assumption) | refine bs ?_ (by simp; done) _ | refine bs ?_ (by simp; omega) _))⟩
    · have hn := isEnt_num h0 h
      rw [← HC.out] at hn
      have H := Lib.hid h
      have N1 := Lib.hid hn.1
      have N2 := Lib.hid hn.2
      clear h hn
      go_enter Tryd.func71, Tryd.ntmps71
      go_wp2_with fail
      rw [E1.out, E2.out]
      go_wp2_with fail
      refine (entEncode _ _ _ (by omega) (by omega) _).mono ?_
      rintro e w1 ⟨rfl, hb1⟩
      rw [entEnc, N1.out, if_pos rfl, N2.out, show errW (argErr true) = .nilIface from rfl]
      have Hb1 := Lib.hid hb1
      obtain ⟨hc1, hf1, hz1⟩ := bcell hb1
      try simp only [World.size_alloc, World.size_setCell, World.size_drew, size_drewN] at hc1 hf1 hz1
      clear hb1
      have hz1__ : w.heap.size < w1.heap.size := by omega
      have q0 : w1.cell? ⟨w.heap.size, 0, none⟩ = some (.int .i64 0) := by rw [hc1 _ _ (by omega)]; simp
      have q1 : w1.cell? ⟨w.heap.size, 1, none⟩ = some (.int .u8 0) := by rw [hc1 _ _ (by omega)]; simp
      have q2 : w1.cell? ⟨w.heap.size, 2, none⟩ = some (.bool false) := by rw [hc1 _ _ (by omega)]; simp
      go_wp2
      refine bodyPost_ret (v := .tuple #[.agg #[.int .i64 (v / 256), .int .u8 (bits .and .u32 v 7 % 256), .bool (bits .and .u32 v 8 != 0)], .bool true, .nilIface]) (by simp [results, Tryd.results71, go_sem, q0, q1, q2, E1.out, E2.out]) rfl ⟨?_, (by repeat (first | exact Below.refl _ _ | refine ba ?_ _ | refine bd ?_ | refine bdN ?_ _ | refine btH ?_ (by assumption) | refine bs ?_ (by simp; done) _ | refine bs ?_ (by simp; omega) _))⟩
      rw [E1.out, E2.out, HC.out, entDecV, entDecE, H.out, decide_eq_false hz]; rfl

end Go.Proofs.YtikmanafbkiikaaDoor
