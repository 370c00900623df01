/- Tables, walked: Free. -/
import Derived.Test.YtikmanafbkiikaaTable5
namespace Go.Proofs.Ytikmanafbkiikaa
set_option linter.unusedSimpArgs false
set_option linter.unusedVariables false
open Go Go.RowKit Go.Shelf Go.Proofs.YtikmanafbkiikaaW.PrintWords Go.Proofs.YtikmanafbkiikaaW.PrintMore Go.Proofs.Ytikmanafbkiikaa.RowK
attribute [local go_sem] Oper.semAt_some

/-- A frame is given back. -/
def unref1 (rs : List Int) (n : Int) : List Int := if 0 < refsOf rs n then rs.set n.toNat (refsOf rs n - 1) else rs
def unrefs (rs : List Int) (ns : List Int) : List Int := ns.foldl unref1 rs
theorem unrefs_snoc (rs ns : List Int) (n : Int) : unrefs rs (ns ++ [n]) = unref1 (unrefs rs ns) n := by
  unfold unrefs
  rw [List.foldl_append]
  rfl
/-- The box B holds a slice that owns L; below n0 all is as it was. -/
def Has (w0 : World) (n0 B : Nat) (W : World) (L : List Int) : Prop :=
  (∃ v, Boxed W B 22 v ∧ W.ownsRow n0 3 1 v L.length (L.map (Value.int .i64))) ∧ Below n0 w0 W
theorem Has.below {w0 W W' : World} {n0 B : Nat} {L : List Int} (h : Has w0 n0 B W L) (hn : n0 ≤ B) (hb : Below W.heap.size W W') : Has w0 n0 B W' L := by
  obtain ⟨⟨v, h1, h2⟩, h4⟩ := h
  exact ⟨⟨v, (hb.block _ h1.lt).trans h1, own_below h2 hb⟩, h4.trans (hb.mono (by have := h1.lt; omega))⟩
theorem Has.put {w0 W : World} {n0 B : Nat} {L : List Int} (h : Has w0 n0 B W L) {l : Nat} {o : Obj} (o' : Obj) (hl : W.heap[l]? = some o) (ho : o.isCells = false) (hB : n0 ≤ l) : Has w0 n0 B (W.putObj l o') L := by
  obtain ⟨⟨v, h1, h2⟩, h4⟩ := h
  exact ⟨⟨v, put_blk hl ho h1 rfl, ownsRow_putObj h2 _ hl ho⟩, Below.putO h4 hl hB⟩
def ownOf (d : Nat) (xs : List (Nat × Int)) : List Int := (d : Int) :: xs.map (·.2)
theorem ownOf_snoc (d : Nat) (xs : List (Nat × Int)) (x : Nat × Int) : ownOf d (xs ++ [x]) = ownOf d xs ++ [x.2] := by simp [ownOf]
theorem ownOf_length (d : Nat) (xs : List (Nat × Int)) : (ownOf d xs).length = xs.length + 1 := by simp [ownOf]
end Go.Proofs.Ytikmanafbkiikaa
