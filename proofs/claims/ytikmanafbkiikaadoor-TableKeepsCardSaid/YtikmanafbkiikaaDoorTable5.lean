/- Tables, walked: Pages. -/
import Derived.Test.YtikmanafbkiikaaDoorTable4
import Derived.RangeFuncBox
import Derived.Maps.AppendAt
namespace Go.Proofs.YtikmanafbkiikaaDoor
set_option linter.unusedSimpArgs false
set_option linter.unusedVariables false
open Go Go.RowKit Go.Shelf Go.Proofs.YtikmanafbkiikaaDoorW.PrintWords Go.Proofs.YtikmanafbkiikaaDoorW.PrintMore Go.Proofs.YtikmanafbkiikaaDoor.RowK
attribute [local go_sem] Oper.semAt_some

/-- The pages that a lower frame n of upper part u has, of the first j. -/
def pagesIn (bs : List Int) (u : Nat) (n : Int) (j : Nat) : List Int := ((List.range j).filter fun i => wd bs n.toNat i != 0).map fun (i : Nat) => (u : Int) * 64 + (i : Int)
theorem pagesIn_succ (bs : List Int) (u : Nat) (n : Int) (j : Nat) : pagesIn bs u n (j + 1) = pagesIn bs u n j ++ (if wd bs n.toNat j = 0 then [] else [(u : Int) * 64 + (j : Int)]) := by
  unfold pagesIn
  rw [List.range_succ, List.filter_append, List.map_append]
  congr 1
  by_cases h : wd bs n.toNat j = 0
  · simp [h]
  · simp [h]
theorem pagesIn_le (bs : List Int) (u : Nat) (n : Int) (j : Nat) : (pagesIn bs u n j).length ≤ j := by
  unfold pagesIn
  rw [List.length_map]
  have := List.length_filter_le (fun i => wd bs n.toNat i != 0) (List.range j)
  rwa [List.length_range] at this
def pagesOf (bs : List Int) (xs : List (Nat × Int)) : List Int := xs.flatMap fun x => pagesIn bs x.1 x.2 64
theorem pagesOf_snoc (bs : List Int) (xs : List (Nat × Int)) (x : Nat × Int) : pagesOf bs (xs ++ [x]) = pagesOf bs xs ++ pagesIn bs x.1 x.2 64 := by
  unfold pagesOf
  rw [List.flatMap_append, List.flatMap_singleton]
theorem pagesOf_le (bs : List Int) : ∀ (xs : List (Nat × Int)), (pagesOf bs xs).length ≤ xs.length * 64
  | [] => by simp [pagesOf]
  | x :: r => by
    have h1 := pagesOf_le bs r
    have h2 := pagesIn_le bs x.1 x.2 64
    have h3 : pagesOf bs (x :: r) = pagesIn bs x.1 x.2 64 ++ pagesOf bs r := by unfold pagesOf; rw [List.flatMap_cons]
    rw [h3, List.length_append, List.length_cons]
    omega
/-- A row that a call has made keeps. -/
theorem own_below {W W' : World} {base : Nat} {e : TypeId} {size : Nat} {v : Value} {k : Nat} {xs : List Value} (h : W.ownsRow base e size v k xs) (hb : Below W.heap.size W W') : W'.ownsRow base e size v k xs := by
  refine ⟨h.1, ?_⟩
  rcases h.2 with hn | ⟨g, cap, cur, hv, hg, hc, r⟩
  · exact .inl hn
  · exact .inr ⟨g, cap, cur, hv, hg, (hb.block _ (blk_lt hc)).trans hc, r⟩
theorem own_base {W : World} {base base' : Nat} {e : TypeId} {size : Nat} {v : Value} {k : Nat} {xs : List Value} (h : W.ownsRow base e size v k xs) (hb : base' ≤ base) : W.ownsRow base' e size v k xs := by
  refine ⟨h.1, ?_⟩
  rcases h.2 with hn | ⟨g, cap, cur, hv, hg, r⟩
  · exact .inl hn
  · exact .inr ⟨g, cap, cur, hv, by omega, r⟩
/-- The box B holds a slice that owns L; below B all is as it was. -/
def Out (w0 : World) (B : Nat) (W : World) (L : List Int) : Prop :=
  (∃ v, Boxed W B 59 v ∧ W.ownsRow B 3 1 v L.length (L.map (Value.int .i64)) ∧ (v = .slice none 0 0 ↔ L = [])) ∧ Below B w0 W
theorem Out.below {w0 W W' : World} {B : Nat} {L : List Int} (h : Out w0 B W L) (hb : Below W.heap.size W W') : Out w0 B W' L := by
  obtain ⟨⟨v, h1, h2, h3⟩, h4⟩ := h
  exact ⟨⟨v, (hb.block _ h1.lt).trans h1, own_below h2 hb, h3⟩, h4.trans (hb.mono (by have := h1.lt; omega))⟩
theorem Out.put {w0 W : World} {B : Nat} {L : List Int} (h : Out w0 B W L) {l : Nat} {o : Obj} (o' : Obj) (hl : W.heap[l]? = some o) (ho : o.isCells = false) (hB : B ≤ l) : Out w0 B (W.putObj l o') L := by
  obtain ⟨⟨v, h1, h2, h3⟩, h4⟩ := h
  exact ⟨⟨v, put_blk hl ho h1 rfl, ownsRow_putObj h2 _ hl ho, h3⟩, Below.putO h4 hl hB⟩
theorem Keeps.below {W W1 W2 : World} (h : KeepsOthers W W1) (hb : Below W1.heap.size W1 W2) : KeepsOthers W W2 :=
  ⟨Nat.le_trans h.1 hb.size, fun k o hk ho => (hb.block _ (blk_lt (h.2 k o hk ho))).trans (h.2 k o hk ho)⟩
/-- Each lower frame is one of the memory's. -/
def Lowk (bs : List Int) (d k : Nat) : Prop := ∀ u, u < 64 → isEnt (wd bs d u) = true → 0 ≤ wd bs d u / 256 ∧ wd bs d u / 256 < k
theorem lowsTo_mem {bs : List Int} {d : Nat} {x : Nat × Int} (h : x ∈ lowsTo bs d 64) : x.1 < 64 ∧ isEnt (wd bs d x.1) = true ∧ x.2 = wd bs d x.1 / 256 := by
  unfold lowsTo at h
  rw [List.mem_map] at h
  obtain ⟨u, hu, rfl⟩ := h
  rw [List.mem_filter, List.mem_range] at hu
  exact ⟨hu.1, hu.2, rfl⟩
set_option maxHeartbeats 4000000 in
set_option maxRecDepth 100000 in
theorem tab_pages (w : World) (pt pf gf pm gm k d : Nat) (rs bs : List Int) (h : Tab w pt pf gf pm gm k rs bs d) (hl : Lows bs d) (hk : Lowk bs d k) :
    Calls Tryd.prog 28 #[.pointer (some ⟨pt, 0, none⟩)] w fun e w' => ∃ v, e = .returned v ∧ w'.ownsRow w.heap.size 3 1 v (pagesOf bs (lowsTo bs d 64)).length ((pagesOf bs (lowsTo bs d 64)).map (Value.int .i64)) ∧ (v = .slice none 0 0 ↔ pagesOf bs (lowsTo bs d 64) = []) ∧ Below w.heap.size w w' := by
  have H := Lib.hid h
  have HL := Lib.hid hl
  have HK := Lib.hid hk
  clear h hl hk
  obtain ⟨i0, hi, hz0, hz1, hz2⟩ := info_parts intInfo
  refine (callsIn_wide (n := 5)).1 ?_
  refine callsIn_of_wp_marks Tryd.func28 rfl trivial ?_ rfl
  simp only [Tryd.ntmps28, List.size_toArray, List.length_cons, List.length_nil, Nat.reduceAdd, Nat.reduceSub, Array.replicate_succ, Array.replicate_zero, List.push_toArray, List.append_toArray, List.nil_append, List.cons_append]
  gi_wp2_with fail
  generalize hw1 : w.alloc _ = w1
  have B1 : Below w.heap.size w w1 := by rw [← hw1]; exact (Below.refl _ w).alloc (Nat.le_refl _) _
  have C1 : w1.cell? ⟨w.heap.size, 0, none⟩ = some (.pointer (some ⟨pt, 0, none⟩)) := by rw [← hw1]; exact (cell_of_row _ _ _ _ _ _ (heap_alloc_new _ _)).trans rfl
  have Z1 : w1.heap.size = w.heap.size + 1 := by rw [← hw1]; simp
  have HC1 := Lib.hid C1
  have T1 := Lib.hid (H.out.below B1)
  have HB1 := Lib.hid B1
  clear hw1 B1 C1
  refine ⟨trivial, ?_⟩
  gi_at_call 67
  refine (callsIn_wide.2 (tab_dead w1 pt pf gf pm gm k d rs bs T1.out)).mono ?_
  rintro e w2 ⟨rfl, rfl⟩
  have c1 : w1.cell? ⟨w.heap.size, 0, none⟩ = some (.pointer (some ⟨pt, 0, none⟩)) := HC1.out
  gi_wp2_with fail
  have B2 : Below (w.heap.size + 1) w1 (w1.alloc (.cells #[.slice none 0 0] 59 (0, 0))) := (Below.refl _ w1).alloc (by omega) _
  have O2 : Out w1 (w.heap.size + 1) (w1.alloc (.cells #[.slice none 0 0] 59 (0, 0))) [] := by
    refine ⟨⟨.slice none 0 0, ?_, World.ownsRow_nil _ _ _ _, by simp⟩, B2⟩
    rw [← Z1]
    exact Boxed.new w1 _ _
  clear c1
  refine each_of (n := 5) rfl (by decide) (gf := 72) (fst := #[.pointer (some ⟨pt, 0, none⟩)]) (lb := #[]) rfl trivial (enters_of Tryd.func72 (by kernel_rfl) rfl) (lowsTo bs d 64) (lowers_each 4 (by decide) pt pf gf pm gm k d rs bs HL.out) (fun _ => rfl)
    (fun pre W => Out w1 (w.heap.size + 1) W (pagesOf bs pre)) ?_ ?_ ?_ ?_
    (fun x => { tmps := #[.pointer (some ⟨pt, 0, none⟩), .pointer (some ⟨w.heap.size, 0, none⟩), .slice none 0 0, .pointer (some ⟨w.heap.size + 1, 0, none⟩), .int .i64 (x.1 : Int), .int .i64 x.2, undef, undef, undef, .pointer (some ⟨pt, 0, none⟩), .bool false, .pointer (some ⟨pt, 0, none⟩), .func (.func 72) #[.pointer (some ⟨pt, 0, none⟩)] #[], .int .i64 (x.1 : Int), .int .i64 x.2, undef, undef, undef, undef, undef, undef, undef, undef, undef, undef, undef, undef, undef, undef, undef, undef, undef, undef, undef, undef, undef, undef, undef, undef, undef], defers := [] }) ?_ ?_ ?_
  · exact fun pre W h => T1.out.below (by rw [Z1]; exact h.2)
  · exact fun pre W W' h hb => h.below hb
  · exact fun pre W l o o' h hl ho hc => h.put o' ho hc (by simp at hl; omega)
  · exact O2
  · intro l x W K hK
    gi_wp2
    simpa [encL] using hK
  · rintro l pre x W hO hp
    have hm := lowsTo_mem (hp.subset (show x ∈ pre ++ [x] by simp))
    have hlen := lowsTo_len hp
    have hk := HK.out x.1 hm.1 hm.2.1
    rw [← hm.2.2] at hk
    have hu64 := hm.1
    obtain ⟨u, n⟩ := x
    obtain ⟨m, rfl⟩ : ∃ m : Nat, n = m := ⟨n.toNat, by simp at hk; omega⟩
    have hmk : m < k := by simp at hk; omega
    have hle := pagesOf_le bs pre
    have OO := Lib.hid hO
    clear hO hk hm hp B2 O2
    simp only at hu64 ⊢
    gi_wp2
    gi_loopw [15] (fun s15 wr => ∃ j : Nat, s15 = .int .i64 (j : Nat) ∧ j ≤ 64 ∧ Aside (Out w1 (w.heap.size + 1) wr (pagesOf bs pre ++ pagesIn bs u m j) ∧ KeepsOthers W wr)) (fun s15 _ => 64 - (intOf s15).toNat)
    case atStart => exact ⟨0, rfl, Nat.zero_le _, by simpa [pagesIn] using OO.out, KeepsOthers.refl _⟩
    case round =>
      obtain ⟨j, rfl, hj, hS⟩ := hrel
      by_cases hj64 : j < 64
      · have hji : (j : Int) < 64 := by omega
        have ct : wr.cell? ⟨w.heap.size, 0, none⟩ = some (.pointer (some ⟨pt, 0, none⟩)) := (hS.out.1.2.cell (by simp)).trans HC1.out
        gi_wp2_with fail
        refine ⟨trivial, ?_⟩
        gi_at_call 70
        refine (CallsIn.inRound l (callsIn_wide.2 (tab_number wr pt pf gf pm gm k d rs bs (T1.out.below (by rw [Z1]; exact hS.out.1.2)) m j hmk hj64))).mono ?_
        rintro e w2 ⟨rfl, hb2⟩
        have O3 := Lib.hid (hS.out.1.below hb2)
        have K3 := Lib.hid (Keeps.below hS.out.2 hb2)
        clear hb2 ct
        by_cases hz : wd bs m j = 0
        · have HZ := Lib.hid hz
          rw [hz]
          clear hz
          gi_wp2
          go_roundw
          case rel => exact ⟨j + 1, by go_num, by omega, by rw [pagesIn_succ, Int.toNat_natCast, HZ.out, if_pos rfl, List.append_nil]; exact O3.out, K3.out⟩
          case measure => simp [intOf]; omega
        · obtain ⟨q, hq⟩ : ∃ q, q = wd bs m j := ⟨_, rfl⟩
          rw [← hq] at hz ⊢
          have HQ := Lib.hid hq
          have HNZ := Lib.hid hz
          obtain ⟨L, hL⟩ : ∃ L, L = pagesOf bs pre ++ pagesIn bs u m j := ⟨_, rfl⟩
          have hL1 : L.length ≤ 64 * 64 + 64 := by
            rw [hL, List.length_append]
            have := pagesIn_le bs u m j
            omega
          have O4 := O3.out
          rw [← hL] at O4
          have HL2 := Lib.hid hL
          obtain ⟨⟨v, hv, hrow, hnil⟩, hB⟩ := O4
          have hc := hv.cell
          have HB4 := Lib.hid hB
          clear hq hL hnil hB
          gi_wp2_with (gi_at_builtin; refine wpListIn_append_own _ rfl _ _ 59 rfl (w.heap.size + 1) 3 i0 (.int .i64 0) 1 8 Tryd.underlying59 hi hz0 hz1 hz2 rfl (by decide) _ _ _ rfl (hrow.alloc _) ⟨w2.heap.size, 0, none⟩ 1 1 [.int .i64 ((u : Int) * 64 + (j : Int))] rfl rfl (cell_one_new _ _ _) (by simp [Value.oneCell']) (by unfold maxLen; omega) (by omega) (by have := hv.lt; simp; omega) ?_; intro v' w3 hown' hgrow _; obtain ⟨g', cap', rfl⟩ := ownsRow_succ hown'; obtain ⟨hv1, hv2, hr2, hk2, hb2⟩ := hv.appended (by decide) hrow (by have := hv.lt; omega) (Nat.le_refl _) hown' hgrow; have hc1 := hv1.cell; have hf1 := hv1.frozen)
          have hpg : pagesOf bs pre ++ pagesIn bs u m (j + 1) = L ++ [(u : Int) * 64 + (j : Int)] := by
            rw [pagesIn_succ, Int.toNat_natCast, ← HQ.out, if_neg HNZ.out, ← List.append_assoc, ← HL2.out]
          refine ⟨⟨j + 1, by go_num, by omega, ⟨⟨⟨_, hv2, ?_, ?_⟩, HB4.out.trans hb2⟩, KeepsOthers.trans K3.out hk2⟩⟩, by simp [intOf]; omega⟩
          · rw [hpg]; simpa using hr2
          · rw [hpg]; simp
      · have hji : ¬ (j : Int) < 64 := by omega
        obtain rfl : j = 64 := by omega
        gi_wp2
        exact ⟨⟨hS.out.2.size, fun q o hq ho hc => hS.out.2.same q o ho hc⟩, by rw [pagesOf_snoc]; exact hS.out.1⟩
  · rintro W hO hk
    obtain ⟨⟨v, hv, hrow, hnil⟩, hB⟩ := hO
    have hc : W.cell? ⟨w.heap.size + 1, 0, none⟩ = some v := hv.cell
    have HO := Lib.hid (And.intro hrow (And.intro hnil hB))
    have HKK := Lib.hid hk
    clear hv hrow hnil hB hk B2 O2
    gi_wp2
    have hz := blk_lt HKK.out
    refine ⟨by simp, .inl ⟨_, _, rfl, run_takeDeferred HKK.out, ?_⟩⟩
    refine ⟨_, results_tmp rfl _ _ _, ?_⟩
    exact ⟨v, rfl, own_base (ownsRow_putObj HO.out.1 _ HKK.out rfl) (by omega), HO.out.2.1, HB1.out.trans ((Below.putO HO.out.2.2 HKK.out (by simp; omega)).mono (by omega))⟩
end Go.Proofs.YtikmanafbkiikaaDoor
