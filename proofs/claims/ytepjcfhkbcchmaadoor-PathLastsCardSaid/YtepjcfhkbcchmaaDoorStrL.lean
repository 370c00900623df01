/- Package strings at this program: TrimLeft, TrimRight, Join; rows of strings. -/
import Derived.Test.YtepjcfhkbcchmaaDoorLayPath
import Derived.Test.YtepjcfhkbcchmaaDoorRowK
import Derived.Shelf.Strings.SlTrimAscii
import Derived.Shelf.Strings.OnBuilder
namespace Go.Proofs.YtepjcfhkbcchmaaDoor
set_option linter.unusedSimpArgs false
set_option linter.unusedVariables false
open Go Go.RowKit Go.Shelf Go.Proofs.YtepjcfhkbcchmaaDoorW.PrintWords Go.Proofs.YtepjcfhkbcchmaaDoor.RowK

theorem setInfo : (Tryd.prog.info? 156).map (fun i => (i.zero, i.size)) = some (some (.agg (Array.replicate 256 (.bool false))), 256) := by kernel_rfl
theorem strTrimLeft (s c : ByteArray) (w : World) (hc : c.size < 4294967281) (ha : ∀ (j : Nat) b, c.data.toList[j]? = some b → b.toNat < 128) :
    Calls Tryd.prog 77 #[.string s, .string c] w fun e w' => e = .returned (.string ⟨(Lib.trimLeftS s.data.toList c.data.toList).toArray⟩) ∧ Below w.heap.size w w' := Any.strings_TrimLeft_laid Tryd.strTrimLeft setInfo s c w hc ha
theorem strTrimRight (s c : ByteArray) (w : World) (hs : s.size ≤ 9223372036854775807) (hc : c.size < 4294967281) (ha : ∀ (j : Nat) b, c.data.toList[j]? = some b → b.toNat < 128) :
    Calls Tryd.prog 76 #[.string s, .string c] w fun e w' => e = .returned (.string ⟨(Lib.trimRightS s.data.toList c.data.toList).toArray⟩) ∧ Below w.heap.size w w' := Any.strings_TrimRight_laid Tryd.strTrimRight setInfo s c w hs hc ha
theorem joinExtra : Builder.Extra Tryd.prog Tryd.strJoin_ren where
  sizeBuilder := by kernel_rfl
  liesBuilder := by kernel_rfl
  t5 := Tryd.underlying5
  a5 := Tryd.isAgg5
  z5 := Tryd.sizeOf5
  v5 := Tryd.zeroValue5
  infoByte := by kernel_rfl
  cellsByte := by kernel_rfl
  sizeByte := by kernel_rfl
  neB5 := by decide
theorem strs_spot {w : World} {ad : Addr} {v : Value} (h : w.cell? ad = some v) : ad.spot = none := by
  unfold World.cell? at h
  split at h
  · split at h
    · cases h
    · rename_i hs; simpa using hs
  · cases h
theorem strs_addr {α : Type} {d : Kd α} {w : World} {A : Option Addr} {l : List α} (h : d.C w A l.length l) (hn : 0 < l.length) (hs : 0 < d.sz) : ∃ bk off, A = some ⟨bk, off, none⟩ := by
  obtain ⟨ad, e, hc⟩ := h.2.2 hn
  obtain ⟨c, hcl, hK, hcell⟩ := hc 0 l[0] (by simp [hn])
  have h0 := hcell 0 (c[0]'(by omega)) (by simp [show 0 < c.length by omega])
  rw [Nat.zero_mul, Nat.add_zero, show ad.add 0 = ad from rfl] at h0
  have := strs_spot h0
  obtain ⟨bk, off, sp⟩ := ad
  simp only at this
  subst this
  exact ⟨bk, off, e⟩
/-- Strings in memory, at once. -/
theorem strs_cells {w : World} {A : Option Addr} {l : List ByteArray} (h : Kd.C Kd.string w A l.length l) (hl : 0 < l.length) : ∃ bk off, A = some ⟨bk, off, none⟩ ∧ bk < w.heap.size ∧ ∀ (j : Nat) x, l[j]? = some x → w.cell? ⟨bk, off + j, none⟩ = some (.string x) := by
  obtain ⟨bk, off, rfl⟩ := strs_addr h hl (by decide)
  have key : ∀ (j : Nat) x, l[j]? = some x → w.cell? ⟨bk, off + j, none⟩ = some (.string x) := fun j x hj => by
    obtain ⟨hjl, hx⟩ := List.getElem?_eq_some_iff.1 hj
    obtain ⟨ad, cs, e, hcl, hK, hcell⟩ := Kd.C_get h ByteArray.empty (j : Int) (by omega) (by omega)
    obtain rfl := Option.some.inj e
    have hr : l.getD (j : Int).toNat ByteArray.empty = x := by
      rw [Int.toNat_natCast, List.getD_eq_getElem?_getD, hj]
      rfl
    rw [hr] at hK
    have hK' : cs = [.string x] := hK
    have hc := hcell 0 (.string x) (by rw [hK']; rfl)
    rw [Addr.add_lit, Int.toNat_natCast] at hc
    have e1 : Kd.string.sz = 1 := rfl
    rwa [e1, Nat.mul_one, Nat.add_zero] at hc
  exact ⟨bk, off, rfl, Go.block_lt_of_cell (key 0 l[0] (List.getElem?_eq_getElem hl)), key⟩
/-- A row of strings that is owned. -/
theorem strs_reps (M : ByteArray → List Value → Prop) (hM : ∀ x, M x [.string x]) : ∀ l : List ByteArray, Reps M 1 l (l.map Value.string)
  | [] => Reps.none _ _
  | x :: r => by
    obtain ⟨h1, h2⟩ := strs_reps M hM r
    refine ⟨by simp, fun j p hj => ?_⟩
    cases j with
    | zero =>
      obtain rfl : x = p := by simpa using hj
      simpa using hM x
    | succ j =>
      have := h2 j p (by simpa using hj)
      simpa [Nat.mul_one] using this
theorem strs_R {w : World} {base : Nat} {v : Value} {l : List ByteArray} (h : w.ownsRow base 9 1 v l.length (l.map Value.string)) : Kd.R Kd.string 9 w base (fun _ => True) v l :=
  ⟨fun _ _ => trivial, l.map Value.string, h, strs_reps (Kd.string.M w base _) (fun _ => rfl) l⟩
theorem strJoin (A : Option Addr) (c : Nat) (l : List ByteArray) (sep : ByteArray) (w : World) (h : Kd.C Kd.string w A l.length l) (hc : l.length ≤ c) (h1 : (Lib.join (l.map (·.data.toList)) sep.data.toList).length ≤ 140737488355328) (h2 : l.length ≤ 140737488355328) :
    Calls Tryd.prog 78 #[.slice A l.length c, .string sep] w fun e w' => e = .returned (.string ⟨(Lib.join (l.map (·.data.toList)) sep.data.toList).toArray⟩) ∧ Below w.heap.size w w' := by
  rcases Nat.eq_zero_or_pos l.length with h0 | h0
  · obtain rfl := List.length_eq_zero_iff.1 h0
    refine (show Calls Tryd.prog 78 #[.slice A 0 c, .string sep] w _ from Any.strings_Join_none Tryd.strJoin joinExtra A c sep w).mono ?_
    rintro e w' ⟨rfl, rfl⟩
    exact ⟨rfl, Below.refl _ _⟩
  · obtain ⟨bk, off, rfl, hb, hce⟩ := strs_cells h h0
    exact Any.strings_Join Tryd.strJoin joinExtra bk off c l sep w hce hb h2 hc h1
end Go.Proofs.YtepjcfhkbcchmaaDoor
