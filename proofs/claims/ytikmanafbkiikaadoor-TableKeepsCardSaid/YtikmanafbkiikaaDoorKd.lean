/- Structs as the program has them. -/
import Derived.Test.YtikmanafbkiikaaDoorWWords
namespace Go.Proofs.YtikmanafbkiikaaDoor.Kinds
open Go Go.RowKit Go.Proofs.YtikmanafbkiikaaDoorW.PrintWords
structure S73 where
  f0 : Int
  f1 : Int
  f2 : Bool
def z73 : S73 := ⟨(0 : Int), (0 : Int), false⟩
def k73 : Kd S73 := Kd.iso (Kd.pair (Kd.int .i64) (Kd.pair (Kd.int .u8) Kd.bool)) (fun x : S73 => (x.f0, x.f1, x.f2))
theorem k73_open {w : World} {x : S73} {cs : List Value} (h : k73.K w x cs) : cs = [.int .i64 x.f0, .int .u8 x.f1, .bool x.f2] := by
  obtain ⟨_, _, rfl, rfl, ⟨_, _, rfl, rfl, rfl⟩⟩ := h
  exact rfl
instance : Inhabited S73 := ⟨z73⟩
structure S75 where
  f0 : Int
  f1 : Int
  f2 : S73
def z75 : S75 := ⟨(0 : Int), (0 : Int), z73⟩
def k75 : Kd S75 := Kd.iso (Kd.pair (Kd.int .i64) (Kd.pair (Kd.int .i64) k73)) (fun x : S75 => (x.f0, x.f1, x.f2))
theorem k75_open {w : World} {x : S75} {cs : List Value} (h : k75.K w x cs) : cs = [.int .i64 x.f0, .int .i64 x.f1, .int .i64 x.f2.f0, .int .u8 x.f2.f1, .bool x.f2.f2] := by
  obtain ⟨_, _, rfl, rfl, ⟨_, _, rfl, rfl, ⟨_, _, rfl, rfl, ⟨_, _, rfl, rfl, rfl⟩⟩⟩⟩ := h
  exact rfl
instance : Inhabited S75 := ⟨z75⟩
end Go.Proofs.YtikmanafbkiikaaDoor.Kinds
