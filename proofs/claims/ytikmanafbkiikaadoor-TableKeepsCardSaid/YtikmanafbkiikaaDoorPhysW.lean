/- Small words on memories, walked. -/
import Derived.Test.YtikmanafbkiikaaDoorPhys
namespace Go.Proofs.YtikmanafbkiikaaDoor
set_option linter.unusedSimpArgs false
set_option linter.unusedVariables false
open Go Go.RowKit Go.Proofs.YtikmanafbkiikaaDoorW.PrintWords Go.Proofs.YtikmanafbkiikaaDoor.RowK

theorem new_mem (w : World) (k : Int) (h0 : 1 ≤ k) (h1 : k ≤ 1024) :
    Calls Tryd.prog 11 #[.int .i64 k] w fun e w' => ∃ p g, e = .returned (.tuple #[.pointer (some ⟨p, 0, none⟩), .nilIface]) ∧ Mem w' p g k.toNat (List.replicate (k.toNat * 256) 0) ∧ w.heap.size ≤ g ∧ Below w.heap.size w w' :=
  (new_ok w k h0 h1).mono fun _ _ ⟨h1, h2, h3⟩ => ⟨_, _, h1, h2, Nat.le_refl _, h3⟩
theorem Mem.grown {w w' : World} {p g n : Nat} {bs : List Int} {row : Option Nat} (h : Mem w p g n bs) (hg : w.grownBy w' row) (h1 : some p ≠ row) (h2 : some g ≠ row) : Mem w' p g n bs :=
  ⟨(hg.block _ (blk_lt h.cell) h1).trans h.cell, (hg.block _ (blk_lt h.row) h2).trans h.row, h.len, h.ne, h.lim⟩
theorem write_at (w : World) (p g n : Nat) (bs : List Int) (h : Mem w p g n bs) (f o : Int) (A : Option Addr) (b : List Int) (c : Nat) (q : Nat) (hq : f.toNat * 256 + o.toNat = q) (hb : Kd.C Bk w A b.length b) (hf0 : 0 ≤ f) (hf1 : f < n) (ho0 : 0 ≤ o) (ho1 : o ≤ 256) (hm1 : (b.length : Int) ≤ 256 - o) :
    Calls Tryd.prog 13 #[.pointer (some ⟨p, 0, none⟩), .int .i64 f, .int .i64 o, .slice A b.length c] w fun e w' => e = .returned .nilIface ∧ Mem w' p g n (spl bs q b) ∧ Oth w w' g := by
  subst hq
  exact write_ok w p g n bs h f o A b c hb hf0 hf1 ho0 ho1 hm1
theorem read_at (w : World) (p g n : Nat) (bs : List Int) (h : Mem w p g n bs) (f o m : Int) (q k : Nat) (hq : f.toNat * 256 + o.toNat = q) (hk : m.toNat = k) (hf0 : 0 ≤ f) (hf1 : f < n) (ho0 : 0 ≤ o) (ho1 : o ≤ 256) (hm0 : 0 ≤ m) (hm1 : m ≤ 256 - o) :
    Calls Tryd.prog 12 #[.pointer (some ⟨p, 0, none⟩), .int .i64 f, .int .i64 o, .int .i64 m] w fun e w' => ∃ v, e = .returned (.tuple #[v, .nilIface]) ∧ Kd.R Bk 5 w' w.heap.size (fun _ => True) v (seg bs q k) ∧ Below w.heap.size w w' := by
  subst hq hk
  exact read_ok w p g n bs h f o m hf0 hf1 ho0 ho1 hm0 hm1
end Go.Proofs.YtikmanafbkiikaaDoor
