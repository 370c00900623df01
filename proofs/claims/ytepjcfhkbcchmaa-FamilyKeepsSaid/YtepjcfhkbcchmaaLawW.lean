/- Small words for walks of laws. -/
import Derived.Test.YtepjcfhkbcchmaaKit
import Derived.Test.YtepjcfhkbcchmaaAgr
import Derived.LoopN
import Derived.Deep.LoopGhost
namespace Go.Proofs.Ytepjcfhkbcchmaa
set_option linter.unusedSimpArgs false
set_option linter.unusedVariables false
open Go Go.RowKit Go.Proofs.YtepjcfhkbcchmaaW.PrintWords Go.Proofs.Ytepjcfhkbcchmaa.RowK

theorem mod_u (a : Int) (k : Nat) (hk : 0 < k) (hk2 : k < 1000000) : ∃ o : Nat, wrap64 ((IntKind.u64.wrap a).tmod (k : Int)) = (o : Int) ∧ o < k := by
  have h0 : 0 ≤ (IntKind.u64.wrap a).tmod (k : Int) := by rw [IntKind.wrap_u64]; exact Int.tmod_nonneg _ (Int.emod_nonneg _ (by decide))
  have h1 : (IntKind.u64.wrap a).tmod (k : Int) < k := Int.tmod_lt_of_pos _ (by omega)
  exact ⟨((IntKind.u64.wrap a).tmod (k : Int)).toNat, by unfold wrap64; omega, by omega⟩
theorem spot_none {w : World} {ad : Addr} {v : Value} (h : w.cell? ad = some v) : ad.spot = none := by
  unfold World.cell? at h
  split at h
  · split at h
    · cases h
    · rename_i hs; simpa using hs
  · cases h
/-- Where a row that is read lies. -/
theorem C_addr {α : Type} {d : Kd α} {w : World} {A : Option Addr} {l : List α} (h : d.C w A l.length l) (hn : 0 < l.length) (hs : 0 < d.sz) : ∃ bk off, A = some ⟨bk, off, none⟩ := by
  obtain ⟨ad, e, hc⟩ := h.2.2 hn
  obtain ⟨c, hcl, hK, hcell⟩ := hc 0 l[0] (by simp [hn])
  have h0 := hcell 0 (c[0]'(by omega)) (by simp [show 0 < c.length by omega])
  rw [Nat.zero_mul, Nat.add_zero, show ad.add 0 = ad from rfl] at h0
  have := spot_none h0
  obtain ⟨bk, off, sp⟩ := ad
  simp only at this
  subst this
  exact ⟨bk, off, e⟩
/-- A number of a row that is read, from any world behind. -/
theorem int_cell {w : World} {A : Option Addr} {l : List Int} (h : Kd.C (Kd.int .i64) w A l.length l) (i : Nat) (hi : i < l.length) :
    ∃ bk off, A = some ⟨bk, off, none⟩ ∧ ∀ W, Below w.heap.size w W → W.cell? ⟨bk, off + i, none⟩ = some (.int .i64 (l.getD i 0)) := by
  obtain ⟨bk, off, rfl⟩ := C_addr h (by omega) (by decide)
  obtain ⟨ad, cs, had, hcl, hK, hcell⟩ := Kd.C_get h (0 : Int) (i : Int) (by omega) (by omega)
  obtain rfl := Option.some.inj had
  refine ⟨bk, off, rfl, fun W hb => ?_⟩
  obtain ⟨v, rfl⟩ : ∃ v, cs = [v] := by
    match cs, hcl with
    | [v], _ => exact ⟨v, rfl⟩
  have hv : v = .int .i64 (l.getD (i : Int).toNat 0) := by
    have := hK
    simp [Kd.int, Kd.scalar] at this
    exact this
  have h1 := hcell 0 v rfl
  rw [Addr.add_lit, hv] at h1
  have h2 : w.cell? ⟨bk, off + i, none⟩ = some (.int .i64 (l.getD i 0)) := by
    have e1 : off + ((i : Int).toNat * (Kd.int .i64).sz + 0) = off + i := by
      show off + ((i : Int).toNat * 1 + 0) = off + i
      omega
    rw [e1] at h1
    exact h1
  exact (hb.cell (p := ⟨bk, off + i, none⟩) (Go.block_lt_of_cell h2)).trans h2
end Go.Proofs.Ytepjcfhkbcchmaa
