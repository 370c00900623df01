-- Written by xprint.py (a program of this claim's author) by means of the kit's print. Not trusted: Lean checks it.
import Derived.Test.YtepjcfhkbcchmaaLayIndex
import Derived.Shelf.SlicesQ.IndexFunc
import Derived.Lib.Hide
import Derived.Test.YtepjcfhkbcchmaaXFamx0
namespace Go.Proofs.Ytepjcfhkbcchmaa.XFam
open Go.RowKit Go.Proofs.YtepjcfhkbcchmaaW.PrintWords Go.Proofs.YtepjcfhkbcchmaaW.PrintLast Go.Proofs.YtepjcfhkbcchmaaW.PrintMore
attribute [local go_sem] max2_int min2_int max_two min_two max_three min_three max_four min_four   -- for this text's walks alone
set_option linter.unusedVariables false
set_option linter.unusedSimpArgs false

-- EXTERN family_at
/-! ### family_at: function 13, by hand -/
def ixM (l : List S25) (p : Int) : Int := Lib.idxBy (fun _ y => decide (y.f0 = p)) l z25
def family_at.f (l0 : List S25) (a1 : Int) : Option (Int × Bool) := some (ixM l0 a1, decide (0 ≤ ixM l0 a1))
def encM (x : S25) : List Value := [.int .i64 x.f0, .int .i64 x.f1, .bool x.f2, .int .u32 x.f3]
instance family_at.inh : Inhabited S25 := ⟨z25⟩
set_option maxHeartbeats 1000000 in
theorem family_at.pred (g : Nat) (p : Int) (t : TypeId) (w : World) (hb : w.heap[g]? = some (.cells #[.int .i64 p] t (0, 0))) :
    PredBelow Try.prog 22 #[.pointer (some ⟨g, 0, none⟩)] (fun x => .agg (encM x).toArray) (fun x => decide (x.f0 = p)) w := fun W x hB => by
  have hg : g < w.heap.size := blk_lt hb
  have hbW : W.heap[g]? = some (.cells #[.int .i64 p] t (0, 0)) := (hB.block g hg).trans hb
  have c0 : W.cell? ⟨g, 0, none⟩ = some (.int .i64 p) := (blk_cell hbW 0).trans rfl
  have c1 : (W.alloc (.cells #[.int .i64 x.f0, .int .i64 x.f1, .bool x.f2, .int .u32 x.f3] 25 (0, 0))).cell? ⟨g, 0, none⟩ = some (.int .i64 p) := Lib.cell?_alloc_some _ c0
  have HB := Lib.hid (hB.alloc (by have := hB.size; omega) (.cells #[.int .i64 x.f0, .int .i64 x.f1, .bool x.f2, .int .u32 x.f3] 25 (0, 0)))
  clear hB hb hbW hg c0
  show Calls Try.prog 22 #[.agg #[.int .i64 x.f0, .int .i64 x.f1, .bool x.f2, .int .u32 x.f3], .pointer (some ⟨g, 0, none⟩)] W fun e w' => e = .returned (.bool (decide (x.f0 = p))) ∧ Below w.heap.size w w'
  go_enter Try.func22, Try.ntmps22
  go_wp2
  go_ret
  exact ⟨by have : (x.f0 == p) = decide (x.f0 = p) := by { rw [Bool.eq_iff_iff]; simp }
            simp [this], HB.out⟩
set_option maxHeartbeats 1000000 in
theorem family_at.calls (A0 : Option Addr) (c0 : Nat) (l0 : List S25) (a1 : Int) (r1 : Int) (r2 : Bool) (w : World) (hr0 : Kd.C k25 w A0 l0.length l0) (hc0 : l0.length ≤ c0) (h : family_at.f l0 a1 = some (r1, r2)) :
    Calls Try.prog 13 #[.slice A0 l0.length c0, .int .i64 a1] w fun e w' => e = .returned (.tuple #[.int .i64 r1, .bool r2]) ∧ Below w.heap.size w w' := by
  unfold family_at.f at h
  obtain ⟨rfl, rfl⟩ := Prod.mk.inj (Option.some.inj h)
  have eg : ∀ args w, (callFunc 22 args).run Try.prog w = .ok (.enter 22 args) w := enters_of Try.func22 (by kernel_rfl) rfl
  have hIdx : ∀ (g : Nat) (t : TypeId) (W : World), Below w.heap.size w W → W.heap[g]? = some (.cells #[.int .i64 a1] t (0, 0)) →
      Calls Try.prog 21 #[.slice A0 l0.length c0, .func (.func 22) #[] #[.pointer (some ⟨g, 0, none⟩)]] W fun e w' => e = .returned (.int .i64 (ixM l0 a1)) ∧ Below W.heap.size W w' := by
    intro g t W hW hb
    rcases Nat.eq_zero_or_pos l0.length with h0 | h0
    · have hl : l0 = [] := List.length_eq_zero_iff.1 h0
      subst hl
      clear hr0 hc0 hb eg h hW
      show Calls Try.prog 21 #[.slice A0 0 c0, .func (.func 22) #[] #[.pointer (some ⟨g, 0, none⟩)]] W fun e w' => e = .returned (.int .i64 (-1)) ∧ Below W.heap.size W w'
      go_enter Try.func21, Try.ntmps21
      go_wp2
      refine wp_loop_rounds 1 ?_
      rw [rounds_succ]
      go_wp2
      go_ret
      exact ⟨rfl, Below.refl _ _⟩
    · obtain ⟨ad, rfl, hcell⟩ := hr0.2.2 h0
      have hbig := hr0.2.1
      have hone : ∀ j, j < l0.length → ∀ i v, (encM l0[j]!)[i]? = some v → w.cell? (ad.add (j * 4 + i)) = some v := fun j hj i v hv => by
        obtain ⟨c, _, hK, hc⟩ := hcell j l0[j]! (by simp [hj])
        obtain rfl := k25_open hK
        exact hc i v hv
      have h00 : w.cell? ad = some (.int .i64 l0[0]!.f0) := hone 0 h0 0 _ rfl
      have hsp : ad.spot = none := by
        unfold World.cell? at h00
        split at h00
        · split at h00
          · cases h00
          · rename_i hs; simpa using hs
        · cases h00
      obtain ⟨bk, off, sp⟩ := ad
      subst hsp
      have hlt : bk < w.heap.size := World.block_lt_of_cell? w _ h00
      have hcs : ∀ j, j < l0.length → ∀ i v, (encM l0[j]!)[i]? = some v → W.cell? ⟨bk, off + j * 4 + i, none⟩ = some v := fun j hj i v hv => by
        have := hone j hj i v hv
        rw [Addr.add_lit] at this
        rw [hW.cell (p := ⟨bk, off + j * 4 + i, none⟩) hlt]
        rwa [Nat.add_assoc]
      have hltW : bk < W.heap.size := Nat.lt_of_lt_of_le hlt hW.size
      have hcon := AnyQ.slices_IndexFunc (P := Try.prog) Try.indexMember 4 (fun _ => by kernel_rfl) (fun _ => by kernel_rfl) encM (fun _ => rfl) (fun x => decide (x.f0 = a1)) 22 #[.pointer (some ⟨g, 0, none⟩)] eg bk off l0.length c0 l0 W
        (family_at.pred g a1 t W hb) (Nat.le_refl _) hbig hltW hcs
      rw [List.take_length] at hcon
      exact hcon
  have HI := Lib.hid hIdx
  clear hIdx hr0 hc0 eg h
  generalize ixM l0 a1 = q at *
  go_enter Try.func13, Try.ntmps13
  go_wp2_with fail
  refine (HI.out w.heap.size 3 (w.alloc (.cells #[.int .i64 a1] 3 (0, 0))) ((Below.refl _ w).alloc (Nat.le_refl _) _) (by show (w.heap.push _)[w.heap.size]? = _; exact Array.getElem?_push_size)).mono ?_
  rintro e w1 ⟨rfl, hb1⟩
  have H1 := Lib.hid hb1
  clear hb1
  go_wp2
  go_ret2
  exact ⟨by first | rfl | simp, ((Below.refl _ w).alloc (Nat.le_refl _) _).trans (H1.out.mono (by first | exact Nat.le_refl _ | simp))⟩

end Go.Proofs.Ytepjcfhkbcchmaa.XFam
