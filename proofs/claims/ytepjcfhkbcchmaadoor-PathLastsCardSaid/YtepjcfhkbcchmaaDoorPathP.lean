/- path.parts, walked: the names between slashes. -/
import Derived.Test.YtepjcfhkbcchmaaDoorSplitSeq
import Derived.Shelf.Abstract
import Derived.RangeFuncBox
import Derived.Maps.AppendAt
namespace Go.Proofs.YtepjcfhkbcchmaaDoor
set_option linter.unusedSimpArgs false
set_option linter.unusedVariables false
open Go Go.RowKit Go.Shelf Go.Proofs.YtepjcfhkbcchmaaDoorW.PrintWords Go.Proofs.YtepjcfhkbcchmaaDoor.RowK
attribute [local go_sem] Oper.semAt_some

theorem put_blk {W : World} {l k : Nat} {o o' x : Obj} (hl : W.heap[l]? = some o) (ho : o.isCells = false) (hx : W.heap[k]? = some x) (hc : x.isCells = true) : (W.putObj l o').heap[k]? = some x := by
  have hne : k ≠ l := fun e => by
    subst e
    rw [hl] at hx
    obtain rfl := Option.some.inj hx
    rw [ho] at hc
    cases hc
  exact (World.putObj_heap_other hne).trans hx
theorem Below.putO {B : Nat} {a W : World} (h : Below B a W) {l : Nat} {o o' : Obj} (hl : W.heap[l]? = some o) (hB : B ≤ l) : Below B a (W.putObj l o') := by
  have hz := blk_lt hl
  exact h.trans ⟨rfl, rfl, rfl, by simp [World.putObj], fun k hk => World.putObj_heap_other (by omega)⟩
theorem own_below {W W' : World} {base : Nat} {e : TypeId} {size : Nat} {v : Value} {k : Nat} {xs : List Value} (h : W.ownsRow base e size v k xs) (hb : Below W.heap.size W W') : W'.ownsRow base e size v k xs := by
  refine ⟨h.1, ?_⟩
  rcases h.2 with hn | ⟨g, cap, cur, hv, hg, hc, r⟩
  · exact .inl hn
  · exact .inr ⟨g, cap, cur, hv, hg, (hb.block _ (blk_lt hc)).trans hc, r⟩
theorem own_base {W : World} {base base' : Nat} {e : TypeId} {size : Nat} {v : Value} {k : Nat} {xs : List Value} (h : W.ownsRow base e size v k xs) (hb : base' ≤ base) : W.ownsRow base' e size v k xs := by
  refine ⟨h.1, ?_⟩
  rcases h.2 with hn | ⟨g, cap, cur, hv, hg, r⟩
  · exact .inl hn
  · exact .inr ⟨g, cap, cur, hv, by omega, r⟩
/-- The names between slashes. -/
def partsB (s : ByteArray) : List ByteArray := (piecesB s).filter fun x => decide (x.data.toList ≠ [])
theorem piecesB_len (s : ByteArray) : (piecesB s).length ≤ s.size + 1 := by
  unfold piecesB
  rw [List.length_map, Lib.size_eq]
  generalize s.data.toList = l
  induction l with
  | nil => simp [pieces]
  | cons b r ih =>
    rw [pieces_cons]
    split
    · simp only [List.length_cons]; omega
    · split
      · simp
      · rename_i p q e
        rw [e] at ih
        simp only [List.length_cons] at ih ⊢
        omega
theorem strInfo : (Tryd.prog.info? 9).map (fun i => (i.zero, i.size, i.bytes)) = some (some (.string ByteArray.empty), 1, 16) := by kernel_rfl
/-- The box B holds a slice that owns L, in a block from D on; below B all is as it was. -/
def Outs (w0 : World) (B D : Nat) (W : World) (L : List ByteArray) : Prop :=
  (∃ v, Boxed W B 71 v ∧ W.ownsRow D 9 1 v L.length (L.map Value.string) ∧ (v = .slice none 0 0 ↔ L = [])) ∧ Below B w0 W ∧ B < D ∧ D ≤ W.heap.size
section
variable {w0 W W' : World} {B D : Nat} {L : List ByteArray}
theorem Outs.below (h : Outs w0 B D W L) (hb : Below W.heap.size W W') : Outs w0 B D W' L := by
  obtain ⟨⟨v, h1, h2, h3⟩, h4, h5, h6⟩ := h
  exact ⟨⟨v, (hb.block _ h1.lt).trans h1, own_below h2 hb, h3⟩, h4.trans (hb.mono (by omega)), h5, Nat.le_trans h6 hb.size⟩
theorem Outs.put (h : Outs w0 B D W L) {l : Nat} {o : Obj} (o' : Obj) (hl : W.heap[l]? = some o) (ho : o.isCells = false) (hB : D ≤ l) : Outs w0 B D (W.putObj l o') L := by
  obtain ⟨⟨v, h1, h2, h3⟩, h4, h5, h6⟩ := h
  exact ⟨⟨v, put_blk hl ho h1 rfl, ownsRow_putObj h2 _ hl ho, h3⟩, Below.putO h4 hl (by omega), h5, by simp [World.putObj]; omega⟩
theorem Outs.set (h : Outs w0 B D W L) (b : Nat) (u : Value) (hb1 : B < b) (hb2 : b < D) : Outs w0 B D (W.setCell ⟨b, 0, none⟩ u) L := by
  obtain ⟨⟨v, h1, h2, h3⟩, h4, h5, h6⟩ := h
  refine ⟨⟨v, (Below.heap_setCell W ⟨b, 0, none⟩ u B (by show B ≠ b; omega)).trans h1, ⟨h2.1, ?_⟩, h3⟩, h4.setCell (p := ⟨b, 0, none⟩) (by show B ≤ b; omega) u, h5, by simp [World.setCell]; omega⟩
  rcases h2.2 with e | ⟨g, cap, cur, e1, e2, e3, r⟩
  · exact .inl e
  · exact .inr ⟨g, cap, cur, e1, e2, (Below.heap_setCell W ⟨b, 0, none⟩ u g (by show g ≠ b; omega)).trans e3, r⟩
end
set_option maxHeartbeats 4000000 in
set_option maxRecDepth 100000 in
theorem parts_calls (s : ByteArray) (w : World) (hs : s.size ≤ 1000000000) :
    Calls Tryd.prog 70 #[.string s] w fun e w' => ∃ v, e = .returned v ∧ w'.ownsRow w.heap.size 9 1 v (partsB s).length ((partsB s).map Value.string) ∧ Below w.heap.size w w' := by
  obtain ⟨i0, hi, hz0, hz1, hz2⟩ := info_parts strInfo
  refine (callsIn_wide (n := 5)).1 ?_
  refine callsIn_of_wp_marks Tryd.func70 rfl trivial ?_ rfl
  simp only [Tryd.ntmps70, List.size_toArray, List.length_cons, List.length_nil, Nat.reduceAdd, Nat.reduceSub, Array.replicate_succ, Array.replicate_zero, List.push_toArray, List.append_toArray, List.nil_append, List.cons_append]
  gi_wp2_with fail
  generalize hw1 : w.alloc _ = w1
  have B1 : Below w.heap.size w w1 := by rw [← hw1]; exact (Below.refl _ w).alloc (Nat.le_refl _) _
  have X1 : Boxed w1 w.heap.size 71 (.slice none 0 0) := by rw [← hw1]; exact Boxed.new w _ _
  have Z1 : w1.heap.size = w.heap.size + 1 := by rw [← hw1]; simp
  have HB1 := Lib.hid B1
  have HX1 := Lib.hid X1
  clear hw1 B1 X1
  refine ⟨trivial, ?_⟩
  gi_at_call 97
  refine (callsIn_wide.2 (split_seq s ⟨#[47]⟩ w1)).mono ?_
  rintro e w2 ⟨rfl, hw2⟩
  have Z2 : w2.heap.size = w.heap.size + 4 := by rw [hw2]; simp [Z1]
  have B2 : Below w1.heap.size w1 w2 := by rw [hw2]; exact (((Below.refl _ w1).alloc (Nat.le_refl _) _).alloc (by simp) _).alloc (by simp; omega) _
  have S0 : Sbox w2 w1.heap.size s := by rw [hw2]; exact (Below.heap_alloc _ _ _ (by simp only [World.size_alloc]; omega)).trans (Go.heap_alloc2_old _ _ _)
  have S1 : Sbox w2 (w1.heap.size + 1) ⟨#[47]⟩ := by rw [hw2]; exact (Below.heap_alloc _ _ _ (by simp)).trans (Go.heap_alloc2_new _ _ _)
  have S2 : w2.heap[w1.heap.size + 2]? = some (.cells #[.int .i64 0] 3 (0, 0)) := by
    rw [hw2]
    have h := heap_alloc_new ((w1.alloc (.cells #[.string s] 9 (0, 0))).alloc (.cells #[.string ⟨#[47]⟩] 9 (0, 0))) (.cells #[.int .i64 0] 3 (0, 0))
    simpa using h
  clear hw2
  obtain ⟨bs, hbs⟩ : ∃ b, b = w1.heap.size := ⟨_, rfl⟩
  rw [← hbs] at S0 S1 S2 ⊢
  have HBS := Lib.hid (show bs = w.heap.size + 1 by omega)
  have HS0 := Lib.hid S0
  have HS1 := Lib.hid S1
  have HS2 := Lib.hid S2
  have HB2 := Lib.hid B2
  have O2 : Outs w w.heap.size w2.heap.size w2 (([] : List ByteArray).filter fun x => decide (x.data.toList ≠ [])) :=
    ⟨⟨.slice none 0 0, (HB2.out.block _ HX1.out.lt).trans HX1.out, World.ownsRow_nil _ _ _ _, by simp⟩, HB1.out.trans (HB2.out.mono (by omega)), by omega, Nat.le_refl _⟩
  have HO2 := Lib.hid O2
  clear S0 S1 S2 B2 O2 hbs
  gi_wp2_with fail
  refine eachS_of (n := 5) rfl (by decide) (gf := 146) (lb := #[.pointer (some ⟨bs + 1, 0, none⟩), .pointer (some ⟨bs, 0, none⟩), .pointer (some ⟨bs + 2, 0, none⟩)]) rfl trivial (enters_of Tryd.func146 (by kernel_rfl) rfl) (piecesB s) (split_each 4 (by decide) bs (bs + 1) (bs + 2) (by omega) (by omega) s (by omega)) (fun _ => rfl)
    (fun b hb => by have := HBS.out; rcases hb with rfl | rfl | rfl <;> omega) (fun W' hb => ⟨(hb.block _ (blk_lt HS0.out)).trans HS0.out, (hb.block _ (blk_lt HS1.out)).trans HS1.out, (hb.block _ (blk_lt HS2.out)).trans HS2.out⟩)
    (fun pre W => Outs w w.heap.size w2.heap.size W (pre.filter fun x => decide (x.data.toList ≠ []))) (fun pre W W' h hb => h.below hb) (fun pre W b v hb h => h.set b v (by have := HBS.out; rcases hb with rfl | rfl | rfl <;> omega) (by have := HBS.out; rcases hb with rfl | rfl | rfl <;> omega)) (fun pre W l o o' h hl ho hc => h.put o' ho hc hl) HO2.out
    (fun x => { tmps := #[.string s, undef, .slice none 0 0, .pointer (some ⟨w.heap.size, 0, none⟩), .string x, .string s, .func (.func 146) #[] #[.pointer (some ⟨bs + 1, 0, none⟩), .pointer (some ⟨bs, 0, none⟩), .pointer (some ⟨bs + 2, 0, none⟩)], .string x, undef, undef, undef, undef, undef, undef, undef], defers := [] }) ?_ ?_ ?_
  · intro l x W K hK
    gi_wp2
    simpa [encB] using hK
  · rintro l pre x W hO hWz hp
    have hlen : pre.length ≤ s.size + 1 := by
      have h1 := hp.length_le
      have h2 := piecesB_len s
      rw [List.length_append, List.length_singleton] at h1
      omega
    have OO := Lib.hid hO
    have HF : (pre ++ [x]).filter (fun x => decide (x.data.toList ≠ [])) = pre.filter (fun x => decide (x.data.toList ≠ [])) ++ (if x.data.toList = [] then [] else [x]) := by
      rw [List.filter_append]
      congr 1
      by_cases h : x.data.toList = []
      · rw [if_pos h, List.filter_cons_of_neg (by simpa using h)]; rfl
      · rw [if_neg h, List.filter_cons_of_pos (by simpa using h)]; rfl
    have hfl : (pre.filter (fun x => decide (x.data.toList ≠ []))).length ≤ pre.length := List.length_filter_le _ _
    rw [HF]
    generalize pre.filter (fun x => decide (x.data.toList ≠ [])) = L at *
    clear hO hp HF
    by_cases hx : x.data.toList = []
    · rw [if_pos hx, List.append_nil]
      have he : x.toList.isEmpty = true := by rw [Lib.toList_data, hx]; rfl
      clear hx
      gi_wp2
      exact ⟨⟨Nat.le_refl _, fun _ _ _ h _ => h⟩, fun _ _ => rfl, OO.out⟩
    · rw [if_neg hx]
      have he : x.toList.isEmpty = false := by rw [Lib.toList_data]; cases e : x.data.toList with | nil => exact absurd e hx | cons _ _ => rfl
      clear hx
      obtain ⟨⟨v, hv, hrow, hnil⟩, hB, hD1, hD2⟩ := OO.out
      have hc := hv.cell
      have HB4 := Lib.hid hB
      have HR := Lib.hid hrow
      have HV := Lib.hid hv
      clear hnil hB
      gi_wp2_with (gi_at_builtin; refine wpListIn_append_own _ rfl _ _ 71 rfl w2.heap.size 9 i0 (.string ByteArray.empty) 1 16 Tryd.underlying71 hi hz0 hz1 hz2 rfl (by decide) _ _ _ rfl (hrow.alloc _) ⟨W.heap.size, 0, none⟩ 1 1 [.string x] rfl rfl (cell_one_new _ _ _) (by simp [Value.oneCell']) (by unfold maxLen; omega) (by omega) (by simp; omega) ?_; intro v' w3 hown' hgrow _; obtain ⟨g', cap', rfl⟩ := ownsRow_succ hown'; obtain ⟨hv1, hv2, hr2, hk2, hb2⟩ := hv.appended (by decide) (own_base hrow (Nat.le_of_lt hD1)) (by omega) (Nat.le_refl _) (own_base hown' (Nat.le_of_lt hD1)) hgrow; have hc1 := hv1.cell; have hf1 := hv1.frozen)
      have hne : ∀ b : Nat, b < w2.heap.size → some b ≠ v.ownBlock := fun b hb e => by
        rcases HR.out.2 with ⟨e1, _⟩ | ⟨g, cap, cur, e1, e2, _⟩
        · rw [e1] at e; cases e
        · rw [e1] at e
          have : b = g := Option.some.inj e
          omega
      have hsz := HB4.out.size
      refine ⟨⟨hk2.size, fun q o hq ho hc => hk2.same q o ho hc⟩, fun b hb => ?_, ⟨⟨_, hv2, by simpa using hown'.kept (grownBy_setCell' w3 _ _) (.inr (hv1.not_row (by decide) hown').symm), by simp⟩, HB4.out.trans hb2, hD1, by have := hk2.size; omega⟩⟩
      have hbs := HBS.out
      have hb1 : b < w2.heap.size ∧ w.heap.size < b := by rcases hb with rfl | rfl | rfl <;> omega
      refine (Below.heap_setCell w3 ⟨w.heap.size, 0, none⟩ _ b (by show b ≠ w.heap.size; omega)).trans ((hgrow.block b (by simp; omega) (hne b hb1.1)).trans (Below.heap_alloc _ _ _ (by omega)))
  · rintro W hO hk
    obtain ⟨⟨v, hv, hrow, hnil⟩, hB, hD1, hD2⟩ := hO
    have hc : W.cell? ⟨w.heap.size, 0, none⟩ = some v := hv.cell
    have HO := Lib.hid (And.intro hrow (And.intro hnil hB))
    have HKK := Lib.hid hk
    clear hv hrow hnil hB hk
    gi_wp2
    have hz := blk_lt HKK.out
    refine ⟨by simp, .inl ⟨_, _, rfl, run_takeDeferred HKK.out, ?_⟩⟩
    refine ⟨_, results_tmp rfl _ _ _, ?_⟩
    exact ⟨v, rfl, own_base (ownsRow_putObj HO.out.1 _ HKK.out rfl) (by omega), Below.putO HO.out.2.2 HKK.out (by omega)⟩
end Go.Proofs.YtepjcfhkbcchmaaDoor
