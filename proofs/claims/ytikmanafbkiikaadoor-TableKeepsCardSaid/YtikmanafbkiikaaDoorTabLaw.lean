/- A table in a law; layer 7's 'sure', walked. -/
import Derived.Test.YtikmanafbkiikaaDoorTab8
import Derived.Test.YtikmanafbkiikaaDoorLawW
namespace Go.Proofs.YtikmanafbkiikaaDoor
set_option linter.unusedSimpArgs false
set_option linter.unusedVariables false
open Go Go.RowKit Go.Proofs.YtikmanafbkiikaaDoorW.PrintWords Go.Proofs.YtikmanafbkiikaaDoorW.PrintMore Go.Proofs.YtikmanafbkiikaaDoor.RowK

/-- A table that was made behind w. -/
structure TL (w W : World) (pt pf gf pm gm k d : Nat) (rs : List Int) (own : Nat → Option Nat) (ent : Nat → Option Ent3) : Prop where
  ts : TS W pt pf gf pm gm k d rs own ent
  bel : Below w.heap.size w W
  g1 : w.heap.size ≤ gf
  g2 : w.heap.size ≤ gm
  g3 : w.heap.size ≤ pt
  t1 : pt ≠ pf
  t2 : pt ≠ pm
section
variable {w W W' : World} {pt pf gf pm gm k d : Nat} {rs rs' : List Int} {own own' : Nat → Option Nat} {ent ent' : Nat → Option Ent3}
theorem TL.below (h : TL w W pt pf gf pm gm k d rs own ent) (hb : Below W.heap.size W W') : TL w W' pt pf gf pm gm k d rs own ent :=
  ⟨h.ts.below hb, h.bel.trans (hb.mono h.bel.size), h.g1, h.g2, h.g3, h.t1, h.t2⟩
theorem TL.agr (h : TL w W pt pf gf pm gm k d rs own ent) (ht : TS W' pt pf gf pm gm k d rs' own' ent') (ha : Agr (fun b => b ≠ gf ∧ b ≠ gm) W W') : TL w W' pt pf gf pm gm k d rs' own' ent' :=
  ⟨ht, ha.low h.bel h.g1 h.g2, h.g1, h.g2, h.g3, h.t1, h.t2⟩
end
theorem firstZ_new (k : Nat) (hk : 1 ≤ k) : firstZ (List.replicate k 0) = some 0 := by
  obtain ⟨n, rfl⟩ : ∃ n, k = n + 1 := ⟨k - 1, by omega⟩
  rfl
theorem new_apart {w : World} {pf gf pm gm k n : Nat} {rs bs : List Int} (hf : Frm w pf gf k rs) (hm : Mem w pm gm n bs) : pm ≠ gf := fun e => by
  have h1 := hf.row
  rw [← e, hm.cell] at h1
  have h2 := congrArg (fun o => match o with | some (Obj.cells _ t _) => t | _ => 0) h1
  simp at h2
/-- table.New of what is new. -/
theorem tl_new (w w1 w2 : World) (pf gf pm gm : Nat) (k : Nat) (hk : 1 ≤ k) (hf : Frm w1 pf gf k (List.replicate k 0)) (hgf : w.heap.size ≤ gf) (hb1 : Below w.heap.size w w1)
    (hm : Mem w2 pm gm k (List.replicate (k * 256) 0)) (hgm : w1.heap.size ≤ gm) (hb2 : Below w1.heap.size w1 w2) :
    Calls Tryd.prog 31 #[.pointer (some ⟨pf, 0, none⟩), .pointer (some ⟨pm, 0, none⟩)] w2 fun e w' => ∃ pt, e = .returned (.tuple #[.pointer (some ⟨pt, 0, none⟩), .nilIface]) ∧ TL w w' pt pf gf pm gm k 0 ((List.replicate k 0).set 0 1) (fun _ => none) (fun _ => none) ∧ Agr (fun b => b ≠ gf ∧ b ≠ gm) w2 w' ∧ w2.heap.size ≤ pt := by
  have hf2 := hf.below hb2
  have e1 := blk_lt hf.cell
  have e2 := blk_lt hf.row
  have e3 := blk_lt hm.cell
  have e4 := hb1.size
  have e5 := hb2.size
  refine (ts_new w2 pf gf pm gm k _ _ hf2 hm (Byt.zero _) (by omega) (by omega) (new_apart hf2 hm) 0 (firstZ_new k hk)).mono ?_
  rintro e w' ⟨pt, rfl, hpt, ht, ha⟩
  exact ⟨pt, rfl, ⟨ht, ha.low (hb1.trans (hb2.mono e4)) hgf (by omega), hgf, by omega, by omega, by omega, by omega⟩, ha, hpt⟩
theorem one_cell {w W : World} {v0 v1 v2 : Value} {t : TypeId} (hb : Below (w.alloc (.cells #[v0, v1, v2] t (0, 0))).heap.size (w.alloc (.cells #[v0, v1, v2] t (0, 0))) W) : W.cell? ⟨w.heap.size, 0, none⟩ = some v0 :=
  (box3 hb).1.1
theorem pages_one : (pagesE (upd (fun _ => none) 64 (some (3, 3, false)))).length = 1 := by
  unfold pagesE pagesTo
  rw [List.length_map]
  decide +kernel
set_option maxHeartbeats 4000000 in
set_option maxRecDepth 100000 in
theorem tabSure (w : World) : Calls Tryd.prog 42 #[] w fun e w' => e = .returned (.bool true) ∧ Below w.heap.size w w' := by
  go_enter Tryd.func42, Tryd.ntmps42
  go_wp2_with fail
  refine (frNew _ 4 (by decide) (by decide)).mono ?_
  rintro e w1 ⟨pf, gf, rfl, hf1, hg1, hp1, hb1⟩
  have F1 := Lib.hid hf1
  have G1 := Lib.hid hg1
  have B1 := Lib.hid hb1
  clear hf1 hg1 hp1 hb1
  go_wp2_with fail
  refine (new_mem _ 4 (by decide) (by decide)).mono ?_
  rintro e w2 ⟨pm, gm, rfl, hm2, hg2, hb2⟩
  have M2 := Lib.hid hm2
  have G2 := Lib.hid hg2
  have B2 := Lib.hid hb2
  clear hm2 hg2 hb2
  go_wp2_with fail
  refine (tl_new w w1 w2 pf gf pm gm 4 (by decide) F1.out G1.out B1.out M2.out G2.out B2.out).mono ?_
  rintro e w3 ⟨pt, rfl, ht3, _, _⟩
  have T3 := Lib.hid ht3
  clear ht3
  go_wp2_with fail
  refine (ts_set T3.out.ts 64 3 3 false (by decide) (by decide)).mono ?_
  rintro e w4 ⟨rfl, ht4, ha4⟩
  have e1 : stE ((List.replicate 4 0).set 0 1) (fun _ => none) 64 3 3 = none := by decide
  have e2 : stR ((List.replicate 4 0).set 0 1) (fun _ => none) 64 3 3 = [1, 1, 0, 0] := by decide
  have e3 : stO ((List.replicate 4 0).set 0 1) (fun _ => none) 64 3 3 = upd (fun _ => none) 1 (some 1) := by
    unfold stO; rw [if_pos ⟨e1, rfl⟩]; rfl
  have e4 : stT ((List.replicate 4 0).set 0 1) (fun _ => none) (fun _ => none) 64 3 3 false = upd (fun _ => none) 64 (some (3, 3, false)) := by
    unfold stT; rw [if_pos e1]; rfl
  rw [e2, e3, e4] at ht4
  rw [e1, errW_none]
  have T4 := Lib.hid (T3.out.agr ht4 ha4)
  clear ht4 ha4 e1 e2 e3 e4
  go_wp2_with fail
  refine (ts_get T4.out.ts 64).mono ?_
  rintro e w5 ⟨rfl, hb5⟩
  rw [show getT (upd (fun _ => none) 64 (some (3, 3, false))) 64 = some (3, 3, false) from rfl, show pagE 64 = none from rfl, errW_none, val3, Option.isSome_some]
  have T5 := Lib.hid (T4.out.below hb5)
  clear hb5
  go_wp2_with fail
  have hba : Below w5.heap.size w5 (w5.alloc (.cells #[.int .i64 3, .int .u8 3, .bool false] 55 (0, 0))) := (Below.refl _ _).alloc (Nat.le_refl _) _
  have T5' := Lib.hid (T5.out.below hba)
  clear hba
  refine (ts_get T5'.out.ts 65).mono ?_
  rintro e w6 ⟨rfl, hb6⟩
  rw [show getT (upd (fun _ => none) 64 (some (3, 3, false))) 65 = none from rfl, show pagE 65 = none from rfl, errW_none, val3, Option.isSome_none]
  have T6 := Lib.hid (T5'.out.below hb6)
  have c6 := one_cell hb6
  have l6 := (box3 hb6).2.2.1
  clear hb6
  go_wp2_with fail
  have hba : Below w6.heap.size w6 (w6.alloc (.cells #[.int .i64 0, .int .u8 0, .bool false] 55 (0, 0))) := (Below.refl _ _).alloc (Nat.le_refl _) _
  have T7 := Lib.hid (T6.out.below hba)
  clear hba
  refine (ts_frames T7.out.ts).mono ?_
  rintro e w8 ⟨rfl, hb8⟩
  rw [show cnt (upd (fun _ => none) 1 (some 1)) = 1 from by decide]
  have T8 := Lib.hid (T7.out.below hb8)
  clear hb8
  go_wp2_with fail
  refine (ts_pages T8.out.ts).mono ?_
  rintro e w9 ⟨v, rfl, hr9, hb9⟩
  have T9 := Lib.hid (T8.out.below hb9)
  rw [pages_one] at hr9
  obtain ⟨g9, cap9, rfl⟩ := ownsRow_succ hr9
  clear hr9 hb9
  go_wp2_with fail
  refine (frFree w9 pf gf 4 _ T9.out.ts.frm).mono ?_
  rintro e w10 ⟨rfl, hb10⟩
  rw [show (takenTo [1, 1, 0, 0] 4).length = 2 from by decide]
  have T10 := Lib.hid (T9.out.below hb10)
  clear hb10
  go_wp2
  go_ret
  exact ⟨rfl, T10.out.bel⟩
end Go.Proofs.YtikmanafbkiikaaDoor
