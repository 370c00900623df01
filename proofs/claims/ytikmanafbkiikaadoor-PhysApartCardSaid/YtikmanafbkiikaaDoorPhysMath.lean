/- Bytes laid into bytes, in plain lists. -/
import Derived.Test.YtikmanafbkiikaaDoorPhys
namespace Go.Proofs.YtikmanafbkiikaaDoor
set_option linter.unusedSimpArgs false
set_option linter.unusedVariables false
open Go

theorem spl_mid (P M S b : List Int) (q i : Nat) (hq : q = P.length + i) (hi : i + b.length ≤ M.length) : spl (P ++ M ++ S) q b = P ++ spl M i b ++ S := by
  subst hq
  unfold spl
  have e1 : (P ++ M ++ S).take (P.length + i) = P ++ M.take i := by
    rw [List.append_assoc, List.take_length_add_append, List.take_append_of_le_length (by omega)]
  have e2 : (P ++ M ++ S).drop (P.length + i + b.length) = M.drop (i + b.length) ++ S := by
    rw [List.append_assoc, Nat.add_assoc, List.drop_length_add_append, List.drop_append_of_le_length (by omega)]
  rw [e1, e2]
  simp
theorem seg_mid (P M S : List Int) (q m : Nat) (hq : q = P.length) (hm : m = M.length) : seg (P ++ M ++ S) q m = M := by
  subst hq hm
  unfold seg
  simp
/-- A frame of noughts with bytes in it. -/
def fr (o : Nat) (b : List Int) : List Int := List.replicate o 0 ++ b ++ List.replicate (256 - o - b.length) 0
theorem fr_length {o : Nat} {b : List Int} (h : o + b.length ≤ 256) : (fr o b).length = 256 := by unfold fr; simp; omega
theorem spl_zero (o : Nat) (b : List Int) (h : o + b.length ≤ 256) : spl (List.replicate 256 0) o b = fr o b := by
  unfold spl fr
  rw [List.take_replicate, List.drop_replicate, Nat.min_eq_left (by omega), Nat.sub_sub]
theorem spl_fr (o : Nat) (a b : List Int) (h : o + a.length + b.length ≤ 256) : spl (fr o a) (o + a.length) b = fr o (a ++ b) := by
  unfold fr
  have e : List.replicate (256 - o - a.length) (0 : Int) = List.replicate b.length 0 ++ List.replicate (256 - o - (a ++ b).length) 0 := by
    rw [List.replicate_append_replicate]
    congr 1
    simp; omega
  rw [e, ← List.append_assoc, spl_mid (List.replicate o 0 ++ a) (List.replicate b.length 0) _ b _ 0 (by simp) (by simp)]
  unfold spl
  simp
theorem spl_fr' (o : Nat) (a b : List Int) (h : o + a.length + b.length ≤ 256) : spl (fr (o + a.length) b) o a = fr o (a ++ b) := by
  unfold fr
  have e : List.replicate (o + a.length) (0 : Int) = List.replicate o 0 ++ List.replicate a.length 0 := by rw [List.replicate_append_replicate]
  have e2 : 256 - (o + a.length) - b.length = 256 - o - (a ++ b).length := by simp; omega
  rw [e, e2]
  have := spl_mid (List.replicate o 0) (List.replicate a.length 0) (b ++ List.replicate (256 - o - (a ++ b).length) 0) a o 0 (by simp) (by simp)
  rw [show List.replicate o (0 : Int) ++ List.replicate a.length 0 ++ b ++ List.replicate (256 - o - (a ++ b).length) 0 = List.replicate o 0 ++ List.replicate a.length 0 ++ (b ++ List.replicate (256 - o - (a ++ b).length) 0) by simp, this]
  unfold spl
  simp
/-- The five writes of PhysApart. -/
theorem apart_bytes (o : Nat) (a b : List Int) (h : o + a.length + b.length ≤ 256) :
    spl (spl (spl (spl (spl (List.replicate 768 0) (0 * 256 + o) a) (0 * 256 + (o + a.length)) b) (1 * 256 + (o + a.length)) b) (1 * 256 + o) a) (2 * 256 + o) (a ++ b) = fr o (a ++ b) ++ fr o (a ++ b) ++ fr o (a ++ b) := by
  have e0 : List.replicate 768 (0 : Int) = [] ++ List.replicate 256 0 ++ (List.replicate 256 0 ++ List.replicate 256 0) := by rw [List.replicate_append_replicate, List.nil_append, List.replicate_append_replicate]
  have hF : (fr o (a ++ b)).length = 256 := fr_length (by simp; omega)
  rw [e0, spl_mid [] _ _ a _ o (by rw [List.length_nil]) (by rw [List.length_replicate]; omega), spl_zero _ _ (by omega),
    spl_mid [] _ _ b _ (o + a.length) (by rw [List.length_nil]) (by rw [fr_length (by omega)]; omega), spl_fr _ _ _ h, List.nil_append, ← List.append_assoc,
    spl_mid _ _ _ b _ (o + a.length) (by rw [hF]) (by rw [List.length_replicate]; omega), spl_zero _ _ (by omega),
    spl_mid _ _ _ a _ o (by rw [hF]) (by rw [fr_length (by omega)]; omega), spl_fr' _ _ _ h]
  have := spl_mid (fr o (a ++ b) ++ fr o (a ++ b)) (List.replicate 256 0) [] (a ++ b) (2 * 256 + o) o (by rw [List.length_append, hF]) (by rw [List.length_replicate, List.length_append]; omega)
  rw [List.append_nil, List.append_nil] at this
  rw [this, spl_zero _ _ (by simp; omega)]
theorem apart_segs (o : Nat) (l : List Int) (h : o + l.length ≤ 256) : seg (fr o l ++ fr o l ++ fr o l) (0 * 256 + 0) 256 = fr o l ∧ seg (fr o l ++ fr o l ++ fr o l) (1 * 256 + 0) 256 = fr o l ∧ seg (fr o l ++ fr o l ++ fr o l) (2 * 256 + 0) 256 = fr o l := by
  have hF := fr_length h
  refine ⟨?_, ?_, ?_⟩
  · have := seg_mid [] (fr o l) (fr o l ++ fr o l) (0 * 256 + 0) 256 (by simp) hF.symm
    simpa using this
  · exact seg_mid (fr o l) (fr o l) (fr o l) _ _ (by rw [hF]) hF.symm
  · have := seg_mid (fr o l ++ fr o l) (fr o l) [] (2 * 256 + 0) 256 (by rw [List.length_append, hF]) hF.symm
    simpa using this
theorem fr_mid (o : Nat) (l : List Int) : ((fr o l).take (o + l.length)).drop o = l := by
  unfold fr
  rw [List.append_assoc, List.take_append, List.drop_append]
  simp
end Go.Proofs.YtikmanafbkiikaaDoor
