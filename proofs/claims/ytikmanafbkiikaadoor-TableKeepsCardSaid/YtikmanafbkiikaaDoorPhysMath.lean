/- Bytes laid into bytes, in plain lists. -/
namespace Go.Proofs.YtikmanafbkiikaaDoor
set_option linter.unusedSimpArgs false
set_option linter.unusedVariables false
/-- Bytes of a frame. -/
def seg (bs : List Int) (q m : Nat) : List Int := (bs.drop q).take m
theorem seg_length (bs : List Int) (q m : Nat) (h : q + m ≤ bs.length) : (seg bs q m).length = m := by unfold seg; simp; omega
/-- The bytes with others laid into them. -/
def spl (bs : List Int) (q : Nat) (b : List Int) : List Int := bs.take q ++ b ++ bs.drop (q + b.length)
theorem spl_length (bs : List Int) (q : Nat) (b : List Int) (h : q + b.length ≤ bs.length) : (spl bs q b).length = bs.length := by unfold spl; simp; omega

/-- A frame of noughts with bytes in it. -/
def fr (o : Nat) (b : List Int) : List Int := List.replicate o 0 ++ b ++ List.replicate (256 - o - b.length) 0
theorem seg_get (bs : List Int) (q m i : Nat) : (seg bs q m)[i]? = if i < m then bs[q + i]? else none := by
  unfold seg
  rw [List.getElem?_take]
  split
  · rw [List.getElem?_drop]
  · rfl
theorem spl_get (bs : List Int) (q : Nat) (b : List Int) (i : Nat) (h : q ≤ bs.length) : (spl bs q b)[i]? = if i < q then bs[i]? else if i < q + b.length then b[i - q]? else bs[i]? := by
  unfold spl
  have hq : (bs.take q).length = q := by simp; omega
  rw [List.append_assoc]
  by_cases h1 : i < q
  · rw [if_pos h1, List.getElem?_append_left (by omega), List.getElem?_take, if_pos h1]
  · rw [if_neg h1, List.getElem?_append_right (by omega), hq]
    by_cases h2 : i < q + b.length
    · rw [if_pos h2, List.getElem?_append_left (by omega)]
    · rw [if_neg h2, List.getElem?_append_right (by omega), List.getElem?_drop]
      congr 1
      omega
theorem seg_spl_same (bs : List Int) (q : Nat) (b : List Int) (m : Nat) (hm : b.length = m) (h : q ≤ bs.length) : seg (spl bs q b) q m = b := by
  subst hm
  apply List.ext_getElem?
  intro i
  rw [seg_get, spl_get _ _ _ _ h]
  by_cases h1 : i < b.length
  · rw [if_pos h1, if_neg (by omega), if_pos (by omega)]; congr 1; omega
  · rw [if_neg h1, List.getElem?_eq_none (by omega)]
theorem seg_spl_other (bs : List Int) (q : Nat) (b : List Int) (q' m : Nat) (h : q ≤ bs.length) (hd : q' + m ≤ q ∨ q + b.length ≤ q') : seg (spl bs q b) q' m = seg bs q' m := by
  apply List.ext_getElem?
  intro i
  rw [seg_get, seg_get, spl_get _ _ _ _ h]
  by_cases h1 : i < m
  · rw [if_pos h1, if_pos h1]
    by_cases h2 : q' + i < q
    · rw [if_pos h2]
    · rw [if_neg h2, if_neg (by omega)]
  · rw [if_neg h1, if_neg h1]
/-- All are bytes. -/
def Byt (bs : List Int) : Prop := ∀ v ∈ bs, 0 ≤ v ∧ v < 256
theorem Byt.seg {bs : List Int} (h : Byt bs) (q m : Nat) : Byt (seg bs q m) := fun v hv => h v (List.mem_of_mem_drop (List.mem_of_mem_take hv))
theorem Byt.spl {bs b : List Int} (h : Byt bs) (hb : Byt b) (q : Nat) : Byt (spl bs q b) := fun v hv => by
  unfold Go.Proofs.YtikmanafbkiikaaDoor.spl at hv
  rcases List.mem_append.1 hv with hv | hv
  · rcases List.mem_append.1 hv with hv | hv
    · exact h v (List.mem_of_mem_take hv)
    · exact hb v hv
  · exact h v (List.mem_of_mem_drop hv)
theorem Byt.zero (n : Nat) : Byt (List.replicate n 0) := fun v hv => by rw [List.eq_of_mem_replicate hv]; decide
end Go.Proofs.YtikmanafbkiikaaDoor
