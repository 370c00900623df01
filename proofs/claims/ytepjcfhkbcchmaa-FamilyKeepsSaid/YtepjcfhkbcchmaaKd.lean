/- Structs as the program has them. -/
import Derived.Test.YtepjcfhkbcchmaaWWords
namespace Go.Proofs.Ytepjcfhkbcchmaa.Kinds
open Go Go.RowKit Go.Proofs.YtepjcfhkbcchmaaW.PrintWords
structure S30 where
  f0 : Int
  f1 : Int
  f2 : Int
def z30 : S30 := ⟨(0 : Int), (0 : Int), (0 : Int)⟩
def k30 : Kd S30 := Kd.iso (Kd.pair (Kd.int .i64) (Kd.pair (Kd.int .i64) (Kd.int .i64))) (fun x : S30 => (x.f0, x.f1, x.f2))
theorem k30_open {w : World} {x : S30} {cs : List Value} (h : k30.K w x cs) : cs = [.int .i64 x.f0, .int .i64 x.f1, .int .i64 x.f2] := by
  obtain ⟨_, _, rfl, rfl, ⟨_, _, rfl, rfl, rfl⟩⟩ := h
  exact rfl
instance : Inhabited S30 := ⟨z30⟩
end Go.Proofs.Ytepjcfhkbcchmaa.Kinds
