/- Structs as the program has them. -/
import Derived.Test.YtikmanafbkiikaaDoorWWords
namespace Go.Proofs.YtikmanafbkiikaaDoor.Kinds
open Go Go.RowKit Go.Proofs.YtikmanafbkiikaaDoorW.PrintWords
structure S31 where
  f0 : Int
  f1 : Int
  f2 : Int
  f3 : Int
  f4 : (List Int)
def z31 : S31 := ⟨(0 : Int), (0 : Int), (0 : Int), (0 : Int), []⟩
def k31 : Kd S31 := Kd.iso (Kd.pair (Kd.int .i64) (Kd.pair (Kd.int .i64) (Kd.pair (Kd.int .i64) (Kd.pair (Kd.int .i64) (Kd.slice 5 (Kd.int .u8)))))) (fun x : S31 => (x.f0, x.f1, x.f2, x.f3, x.f4))
theorem k31_open {w : World} {x : S31} {cs : List Value} (h : k31.K w x cs) : ∃ (A4 : Option Addr) (c4 : Nat), cs = [.int .i64 x.f0, .int .i64 x.f1, .int .i64 x.f2, .int .i64 x.f3, .slice A4 x.f4.length c4] ∧ x.f4.length ≤ c4 ∧ Kd.C (Kd.int .u8) w A4 x.f4.length x.f4 := by
  obtain ⟨_, _, rfl, rfl, ⟨_, _, rfl, rfl, ⟨_, _, rfl, rfl, ⟨_, _, rfl, rfl, ⟨A4, c4, rfl, h4, i4⟩⟩⟩⟩⟩ := h
  exact ⟨A4, c4, rfl, h4, i4⟩
instance : Inhabited S31 := ⟨z31⟩
end Go.Proofs.YtikmanafbkiikaaDoor.Kinds
