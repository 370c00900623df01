/- The document's notes and the program's bytes: they say the same. -/
import Derived.Test.YtikmanafbkiikaaDoorXPhysx1
import Derived.Test.YtikmanafbkiikaaDoorPhysMath
namespace Go.Proofs.YtikmanafbkiikaaDoor.XPhys
set_option linter.unusedSimpArgs false
set_option linter.unusedVariables false
open Go Go.RowKit Go.Proofs.YtikmanafbkiikaaDoorW.PrintWords Go.Proofs.YtikmanafbkiikaaDoorW.PrintLast
abbrev Nt := S134
instance : Inhabited Nt := ⟨z134⟩

def hit (x : Nt) (f o : Int) : Prop := x.f0 = f ∧ x.f1 ≤ o ∧ o < x.f1 + (x.f2.length : Int)
instance (x : Nt) (f o : Int) : Decidable (hit x f o) := by unfold hit; exact inferInstance
def atR : List Nt → Int → Int → Int
  | [], _, _ => 0
  | x :: r, f, o => if hit x f o then x.f2.getD (o - x.f1).toNat 0 else atR r f o
def atL (L : List Nt) (f o : Int) : Int := atR L.reverse f o
theorem atL_snoc (L : List Nt) (x : Nt) (f o : Int) : atL (L ++ [x]) f o = if hit x f o then x.f2.getD (o - x.f1).toNat 0 else atL L f o := by
  unfold atL
  rw [List.reverse_append]
  rfl
def Lok (L : List Nt) : Prop := ∀ x ∈ L, 0 ≤ x.f1 ∧ x.f1 ≤ 256 ∧ x.f2.length ≤ 256
theorem at_l0 : ∀ (d k : Nat) (L : List Nt) (f o a : Int), d ≤ L.length → L.length ≤ 4611686018427387904 → d < k → Lok L → 0 ≤ o → o ≤ 1000 → halterref05_At.l0 k f o ((d : Int) - 1) a L = some (atL (L.take d) f o)
  | 0, k, L, f, o, a, _, _, hk, _, _, _ => by
    obtain ⟨k, rfl⟩ : ∃ m, k = m + 1 := ⟨k - 1, by omega⟩
    rw [halterref05_At.l0, if_neg (by omega)]
    rfl
  | d + 1, k, L, f, o, a, hd, hL, hk, hok, h0, h1 => by
    obtain ⟨k, rfl⟩ : ∃ m, k = m + 1 := ⟨k - 1, by omega⟩
    have e0 : ((d + 1 : Nat) : Int) - 1 = (d : Int) := by omega
    rw [e0, halterref05_At.l0, if_pos (by omega), if_pos (by omega), if_pos (by omega)]
    have hr : rd_T134 L (d : Int) = L[d]'(by omega) := by
      unfold rd_T134
      rw [List.getD_eq_getElem?_getD, show ((d : Int)).toNat = d by omega, List.getElem?_eq_getElem (by omega)]
      rfl
    rw [hr]
    obtain ⟨x, hx⟩ : ∃ x, x = L[d]'(by omega) := ⟨_, rfl⟩
    have hm : x ∈ L := by rw [hx]; exact List.getElem_mem _
    obtain ⟨b0, b1, b2⟩ := hok x hm
    rw [← hx, show wrap64 ((d : Int) - 1) = (d : Int) - 1 by unfold wrap64; omega, show wrap64 (x.f1 + (x.f2.length : Int)) = x.f1 + (x.f2.length : Int) by unfold wrap64; omega, at_l0 d k L f o a (by omega) hL (by omega) hok h0 h1]
    rw [List.take_succ_eq_append_getElem (by omega), ← hx, atL_snoc]
    by_cases c1 : x.f0 = f
    · rw [if_pos c1]
      by_cases c2 : o ≥ x.f1
      · rw [if_pos c2]
        by_cases c3 : o < x.f1 + (x.f2.length : Int)
        · rw [if_pos c3, show wrap64 (o - x.f1) = o - x.f1 by unfold wrap64; omega, if_pos (by omega), if_pos (by omega), if_pos (show hit x f o from ⟨c1, c2, c3⟩)]
          rfl
        · rw [if_neg c3, if_neg (show ¬ hit x f o from fun h => c3 h.2.2)]
      · rw [if_neg c2, if_neg (show ¬ hit x f o from fun h => c2 h.2.1)]
    · rw [if_neg c1, if_neg (show ¬ hit x f o from fun h => c1 h.1)]
theorem at_ev (k : Nat) (L : List Nt) (f o a : Int) (hL : L.length ≤ 4611686018427387904) (hk : L.length < k) (hok : Lok L) (h0 : 0 ≤ o) (h1 : o ≤ 1000) : halterref05_At.f k a L f o = some (atL L f o) := by
  unfold halterref05_At.f
  rw [show wrap64 ((L.length : Int) - 1) = (L.length : Int) - 1 by unfold wrap64; omega, at_l0 _ _ _ _ _ _ (Nat.le_refl _) hL hk hok h0 h1, List.take_length]
/-- The bytes that the notes tell. -/
def pre (L : List Nt) (f o : Int) (i : Nat) : List Int := (List.range i).map fun (j : Nat) => atL L f (o + (j : Int))
theorem pre_succ (L : List Nt) (f o : Int) (i : Nat) : pre L f o (i + 1) = pre L f o i ++ [atL L f (o + (i : Int))] := by unfold pre; rw [List.range_succ, List.map_append]; rfl
theorem pre_length (L : List Nt) (f o : Int) (i : Nat) : (pre L f o i).length = i := by unfold pre; simp
theorem read_l0 : ∀ (d i k : Nat) (L : List Nt) (f o a : Int) (m : Nat), i + d = m → L.length ≤ 4611686018427387904 → L.length + d < k → Lok L → 0 ≤ o → o ≤ 256 → m ≤ 256 → halterref05_Read.l0 k f o (m : Int) (pre L f o i) (i : Int) a L = some (pre L f o m, 0)
  | 0, i, k, L, f, o, a, m, hm, hL, hk, hok, h0, h1, h2 => by
    obtain ⟨k, rfl⟩ : ∃ m, k = m + 1 := ⟨k - 1, by omega⟩
    obtain rfl : i = m := by omega
    rw [halterref05_Read.l0, if_neg (by omega)]
  | d + 1, i, k, L, f, o, a, m, hm, hL, hk, hok, h0, h1, h2 => by
    obtain ⟨k, rfl⟩ : ∃ m, k = m + 1 := ⟨k - 1, by omega⟩
    rw [halterref05_Read.l0, if_pos (by omega), show wrap64 (o + (i : Int)) = o + (i : Int) by unfold wrap64; omega, at_ev k L f _ a hL (by omega) hok (by omega) (by omega)]
    simp only [Option.bind_some]
    rw [pre_length, if_pos (by omega), show wrap64 ((i : Int) + 1) = ((i + 1 : Nat) : Int) by unfold wrap64; omega, ← pre_succ, read_l0 d (i + 1) k L f o a m (by omega) hL (by omega) hok h0 h1 h2]
/-- What is refused: the number of the error. -/
def rErr (n : Nat) (f o m : Int) : Option Int := if 0 ≤ f ∧ f < (n : Int) then (if 0 ≤ o ∧ o ≤ 256 ∧ 0 ≤ m ∧ m ≤ 256 - o then none else some 14) else some 22
def rL (n : Nat) (L : List Nt) (f o m : Int) : List Int := if rErr n f o m = none then pre L f o m.toNat else []
theorem read_ev (n : Nat) (L : List Nt) (f o m : Int) (hL : L.length ≤ 4611686018427387904) (hok : Lok L) : ∃ k, halterref05_Read.f k (n : Int) L f o m = some (rL n L f o m, (rErr n f o m).getD 0) := by
  have hj : ∀ k, halterref05_Read.j0 (k + 1) f o m true (n : Int) L = some ([], 14) := fun k => by rw [halterref05_Read.j0, if_pos rfl]
  refine ⟨L.length + 300 + 1, ?_⟩
  unfold halterref05_Read.f halterref05_Has.f rL rErr
  by_cases hf : 0 ≤ f ∧ f < (n : Int)
  · rw [if_pos hf, if_pos hf.1]
    simp only [Option.bind_some]
    rw [decide_eq_true hf.2, if_pos rfl]
    by_cases hg : 0 ≤ o ∧ o ≤ 256 ∧ 0 ≤ m ∧ m ≤ 256 - o
    · rw [if_pos hg, if_pos rfl, if_neg (by omega), if_neg (by omega), if_neg (by omega), if_neg (by omega), show decide (wrap64 (o + m) > 256) = false by rw [decide_eq_false_iff_not]; unfold wrap64; omega, halterref05_Read.j0, if_neg (by simp)]
      obtain ⟨q, rfl⟩ : ∃ q : Nat, m = q := ⟨m.toNat, by omega⟩
      have := read_l0 q 0 (L.length + 300) L f o n q (by omega) hL (by omega) hok hg.1 hg.2.1 (by omega)
      rw [show pre L f o 0 = [] from rfl] at this
      simpa using this
    · rw [if_neg hg, if_neg (show ¬ (some (14 : Int) = none) by simp)]
      by_cases c1 : o < 0
      · rw [if_pos c1, hj]; rfl
      · rw [if_neg c1]
        by_cases c2 : o > 256
        · rw [if_pos c2, hj]; rfl
        · rw [if_neg c2]
          by_cases c3 : m < 0
          · rw [if_pos c3, hj]; rfl
          · rw [if_neg c3]
            by_cases c4 : m > 256
            · rw [if_pos c4, hj]; rfl
            · rw [if_neg c4, show decide (wrap64 (o + m) > 256) = true by rw [decide_eq_true_eq]; unfold wrap64; omega, hj]; rfl
  · rw [if_neg hf, if_neg (show ¬ (some (22 : Int) = none) by simp)]
    by_cases h0 : f ≥ 0
    · rw [if_pos h0]
      simp only [Option.bind_some]
      rw [decide_eq_false (by omega), if_neg (by simp)]
      rfl
    · rw [if_neg h0]
      simp only [Option.bind_some]
      rfl
/-- The bytes are what the notes tell. -/
def Rel (n : Nat) (bs : List Int) (L : List Nt) : Prop := bs.length = n * 256 ∧ ∀ f o : Nat, f < n → o < 256 → bs[f * 256 + o]? = some (atL L f o)
theorem Rel.zero (n : Nat) : Rel n (List.replicate (n * 256) 0) [] := ⟨by simp, fun f o hf ho => by
  rw [List.getElem?_replicate, if_pos (by omega)]; rfl⟩
theorem Rel.seg {n : Nat} {bs : List Int} {L : List Nt} (h : Rel n bs L) (f o m : Nat) (hf : f < n) (hm : o + m ≤ 256) : seg bs (f * 256 + o) m = pre L f o m := by
  apply List.ext_getElem?
  intro i
  rw [seg_get]
  unfold pre
  by_cases hi : i < m
  · rw [if_pos hi, Nat.add_assoc, h.2 f (o + i) hf (by omega), List.getElem?_map, List.getElem?_range hi]
    simp
  · rw [if_neg hi, List.getElem?_eq_none (by simp; omega)]
theorem Rel.write {n : Nat} {bs : List Int} {L : List Nt} (h : Rel n bs L) (f o : Nat) (b : List Int) (hf : f < n) (hb : o + b.length ≤ 256) : Rel n (spl bs (f * 256 + o) b) (L ++ [⟨f, o, b⟩]) := by
  have hl := h.1
  refine ⟨by rw [spl_length _ _ _ (by omega)]; exact hl, fun g q hg hq => ?_⟩
  rw [spl_get _ _ _ _ (by omega), atL_snoc]
  by_cases hh : hit (⟨f, o, b⟩ : Nt) g q
  · rw [if_pos hh]
    obtain ⟨k1, k2, k3⟩ := hh
    simp only at k1 k2 k3
    have e0 : f = g := by omega
    subst e0
    rw [if_neg (by omega), if_pos (by omega)]
    have e1 : f * 256 + q - (f * 256 + o) = q - o := by omega
    have e2 : ((q : Int) - (o : Int)).toNat = q - o := by omega
    simp only [e1, e2]
    rw [List.getD_eq_getElem?_getD, List.getElem?_eq_getElem (by omega)]
    rfl
  · rw [if_neg hh, ← h.2 g q hg hq]
    have key : g * 256 + q < f * 256 + o ∨ f * 256 + o + b.length ≤ g * 256 + q := by
      rcases Nat.lt_trichotomy g f with hg' | hg' | hg'
      · left; omega
      · subst hg'
        by_cases h1 : q < o
        · left; omega
        · right
          rcases Nat.lt_or_ge q (o + b.length) with h2 | h2
          · exact absurd (show hit (⟨g, o, b⟩ : Nt) g q from ⟨rfl, by show (o : Int) ≤ q; omega, by show (q : Int) < o + (b.length : Int); omega⟩) hh
          · omega
      · right; omega
    rcases key with k | k
    · rw [if_pos k]
    · rw [if_neg (by omega), if_neg (by omega)]
theorem Lok.write {L : List Nt} (h : Lok L) (f o : Nat) (b : List Int) (ho : o ≤ 256) (hb : b.length ≤ 256) : Lok (L ++ [⟨f, o, b⟩]) := fun x hx => by
  rcases List.mem_append.1 hx with hx | hx
  · exact h x hx
  · obtain rfl := List.mem_singleton.1 hx
    exact ⟨Int.natCast_nonneg _, by show (o : Int) ≤ 256; omega, hb⟩
end Go.Proofs.YtikmanafbkiikaaDoor.XPhys
