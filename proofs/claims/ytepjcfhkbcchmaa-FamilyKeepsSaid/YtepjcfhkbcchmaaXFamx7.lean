-- Written by xprint.py (a program of this claim's author) by means of the kit's print. Not trusted: Lean checks it.
import Derived.Test.YtepjcfhkbcchmaaSortK
import Derived.Test.YtepjcfhkbcchmaaLaySort
import Derived.Test.YtepjcfhkbcchmaaXFamx0
namespace Go.Proofs.Ytepjcfhkbcchmaa.XFam
open Go.RowKit Go.Proofs.YtepjcfhkbcchmaaW.PrintWords Go.Proofs.YtepjcfhkbcchmaaW.PrintLast Go.Proofs.YtepjcfhkbcchmaaW.PrintMore
attribute [local go_sem] max2_int min2_int max_two min_two max_three min_three max_four min_four   -- for this text's walks alone
set_option linter.unusedVariables false
set_option linter.unusedSimpArgs false

-- EXTERN family_Member_17
/-! ### family_Member_17: function 17, by hand -/
open Go.Sort Go.Shelf
/-- What slices.SortFunc does to regions whose From's are apart and no negative numbers: sorted by From. -/
def srt (l : List S25) : List S25 := l.mergeSort fun x y => decide (x.f0 ≤ y.f0)
def srtOk (l : List S25) : Bool := l.all (fun x => decide (0 ≤ x.f0 ∧ x.f0 ≤ 1000000)) && decide ((l.map (·.f0)).Nodup) && decide (0 < l.length ∧ l.length < 4611686018427387904)
def family_Member_17.f (l0 : List S25) : Option (List S25) := if srtOk l0 = true then some (srt l0) else none
/-- A region that is sorted here: its From is in range. -/
abbrev RB : Type := { x : S25 // 0 ≤ x.f0 ∧ x.f0 ≤ 1000000 }
instance : Inhabited RB := ⟨⟨z25, by decide⟩⟩
def encR (x : S25) : List Value := [.int .i64 x.f0, .int .i64 x.f1, .bool x.f2, .int .u32 x.f3]
def cfR (x y : RB) : Int := x.1.f0 - y.1.f0
theorem ltR (x y : RB) : Go.Proofs.ltOf cfR x y = decide (x.1.f0 < y.1.f0) := by
  unfold Go.Proofs.ltOf cfR
  by_cases h : x.1.f0 < y.1.f0
  · rw [decide_eq_true h, decide_eq_true (by omega)]
  · rw [decide_eq_false h, decide_eq_false (by omega)]
theorem swoR : Go.Sort.SWO (Go.Proofs.ltOf cfR) where
  irrefl x := by rw [ltR]; simp
  trans x y z h1 h2 := by rw [ltR] at *; simp at *; omega
  ntrans x y z h1 h2 := by rw [ltR] at *; simp at *; omega
set_option maxHeartbeats 1000000 in
theorem closureR (x y : RB) (W : World) : Calls Try.prog 18 #[.agg (encR x.1).toArray, .agg (encR y.1).toArray] W fun e w' => e = .returned (.int .i64 (cfR x y)) ∧ ∃ q os', w' = Go.Sort.grow (W.drewN q) os' := by
  have hx := x.2
  have hy := y.2
  unfold cfR
  generalize x.1 = x at *
  generalize y.1 = y at *
  obtain ⟨hx0, hx1⟩ := hx
  obtain ⟨hy0, hy1⟩ := hy
  show Calls Try.prog 18 #[.agg #[.int .i64 x.f0, .int .i64 x.f1, .bool x.f2, .int .u32 x.f3], .agg #[.int .i64 y.f0, .int .i64 y.f1, .bool y.f2, .int .u32 y.f3]] W _
  go_enter Try.func18, Try.ntmps18
  go_wp2
  go_ret
  exact ⟨rfl, 0, _, by rw [Go.Sort.alloc_eq_grow, Go.Sort.alloc_eq_grow, Go.Sort.grow_grow]; rfl⟩
theorem lift_RB : ∀ l : List S25, (∀ x ∈ l, 0 ≤ x.f0 ∧ x.f0 ≤ 1000000) → ∃ d : List RB, d.map (·.1) = l := by
  intro l
  induction l with
  | nil => intro _; exact ⟨[], rfl⟩
  | cons x r ih =>
    intro h
    obtain ⟨d, hd⟩ := ih (fun y hy => h y (List.mem_cons_of_mem _ hy))
    exact ⟨⟨x, h x (List.mem_cons_self ..)⟩ :: d, by rw [List.map_cons, hd]⟩
theorem sorted_pair {d : Array RB} (hs : Go.Sort.SortedIn (Go.Proofs.ltOf cfR) 0 d.size d) : (d.toList.map (·.1)).Pairwise (fun x y => x.f0 ≤ y.f0) := by
  rw [List.pairwise_map, List.pairwise_iff_getElem]
  intro i j hi hj hij
  have h := hs i j (Nat.zero_le _) hij (by simpa using hj)
  rw [ltR] at h
  simp only [decide_eq_false_iff_not, Int.not_lt] at h
  rw [getElem!_pos d i (by simpa using hi), getElem!_pos d j (by simpa using hj)] at h
  simpa using h
theorem srt_unique {l m : List S25} (hn : (l.map (·.f0)).Nodup) (hp : m.Perm l) (hs : m.Pairwise (fun x y => x.f0 ≤ y.f0)) : m = srt l := by
  have hp2 : m.Perm (srt l) := hp.trans (List.mergeSort_perm _ _).symm
  have hs2 : (srt l).Pairwise (fun x y => x.f0 ≤ y.f0) := by
    have := List.pairwise_mergeSort (le := fun x y : S25 => decide (x.f0 ≤ y.f0)) (fun a b c h1 h2 => by simp at *; omega) (fun a b => by simp; omega) l
    exact this.imp (fun h => by simpa using h)
  refine hp2.eq_of_pairwise (fun a b ha hb h1 h2 => ?_) hs hs2
  have hf : a.f0 = b.f0 := by omega
  have hal : a ∈ l := hp.mem_iff.1 ha
  have hbl : b ∈ l := (List.mergeSort_perm _ _).mem_iff.1 hb
  obtain ⟨i, hi, rfl⟩ := List.getElem_of_mem hal
  obtain ⟨j, hj, rfl⟩ := List.getElem_of_mem hbl
  have hpw : ∀ (i j : Nat) (hi : i < l.length) (hj : j < l.length), i < j → l[i].f0 ≠ l[j].f0 := by
    have := hn
    unfold List.Nodup at this
    rw [List.pairwise_map, List.pairwise_iff_getElem] at this
    exact this
  rcases Nat.lt_trichotomy i j with h | h | h
  · exact absurd hf (hpw i j hi hj h)
  · subst h; rfl
  · exact absurd hf.symm (hpw j i hj hi h)
set_option maxHeartbeats 1000000 in
theorem family_Member_17.calls (P0_ : Nat → Prop) (u9000_ : Value) (l0 : List S25) (r : List S25) (w0 w : World) (hB : Below w0.heap.size w0 w) (ho0 : Kd.R k25 25 w w0.heap.size P0_ u9000_ l0) (h : family_Member_17.f l0 = some r) :
    Calls Try.prog 17 #[u9000_, .func (.func 18) #[] #[]] w fun e w' => e = .returned (.tuple #[]) ∧ Kd.R k25 25 w' w0.heap.size (fun k_ => (P0_ k_ ∨ w.heap.size ≤ k_)) u9000_ r ∧ Below w0.heap.size w0 w' ∧ Kept w w' (fun k_ => P0_ k_) := by
  unfold family_Member_17.f at h
  split at h
  case isFalse => cases h
  rename_i hok
  obtain rfl := Option.some.inj h
  simp only [srtOk, Bool.and_eq_true, List.all_eq_true, decide_eq_true_eq] at hok
  obtain ⟨⟨hrange, hnd⟩, hpos, hlen⟩ := hok
  obtain ⟨hP, inner, ⟨hil, hown⟩, hreps⟩ := ho0
  have hsz4 : (k25).sz = 4 := rfl
  have hkE : ∀ x, (encR x).length = (k25).sz := fun _ => rfl
  rcases hown with ⟨rfl, hn0⟩ | ⟨g, cap, cur, rfl, hbase, hb, h1, h2, h3, h4⟩
  · omega
  · have hinner : inner = l0.flatMap encR := SortK.reps_flat hkE (fun x cs hM => k25_openM hM) l0 inner hreps
    obtain ⟨dl, hdl⟩ := lift_RB l0 hrange
    have hd : dl.toArray.toList.map (·.1) = l0 := by simpa using hdl
    have hds : dl.toArray.size = l0.length := by rw [← hdl]; simp
    have hH : HoldsK (fun x : RB => encR x.1) 4 w g 0 dl.toArray := SortK.holds_of (kd := k25) (val := fun x : RB => x.1) hkE hb (by rw [← hinner]; exact h4) dl.toArray hd
    have hblk : g < w.heap.size := (Array.getElem?_eq_some_iff.1 hb).1
    have eg : ∀ args w, (callFunc 18 args).run Try.prog w = .ok (.enter 18 args) w := enters_of Try.func18 (by kernel_rfl) rfl
    have hcon := AnyQ.slices_SortFunc (P := Try.prog) Try.sortMember 4 (fun _ => by kernel_rfl) (fun _ => by kernel_rfl) (fun x : RB => encR x.1) (fun _ => rfl) (fun x v hv => by simp [encR] at hv; rcases hv with rfl | rfl | rfl | rfl <;> rfl) cfR swoR 18 #[] g 0 cap dl.toArray w eg
      (fun m os dk _ x y => closureR x y _) hH hblk (by rw [hds]; exact hlen)
    rw [hds] at hcon
    refine (show Calls Try.prog 17 _ _ _ from hcon).mono ?_
    rintro e w' ⟨rfl, d', n, os, hp, hs, rfl⟩
    have hpl : (d'.toList.map (·.1)).Perm l0 := by
      have := hp.2.2
      rw [← hd]
      refine List.Perm.map _ ?_
      have e1 : (d'.extract 0 l0.length) = d' := by rw [Array.extract_eq_self_of_le]; rw [hp.1, hds]; exact Nat.le_refl _
      have e2 : (dl.toArray.extract 0 l0.length) = dl.toArray := by rw [Array.extract_eq_self_of_le]; rw [hds]; exact Nat.le_refl _
      rwa [e1, e2] at this
    have hd's : d'.size = l0.length := by rw [hp.1, hds]
    have hsrt : d'.toList.map (·.1) = srt l0 := srt_unique hnd hpl (sorted_pair (by rw [hd's]; exact hs))
    have hlen' : (srt l0).length = l0.length := by rw [← hsrt]; simpa using hd's
    have hA := SortK.heap_after (n := n) (os := os) (F := flatK (fun x : RB => encR x.1) 4 d') hb
    have hOut : ∀ i, i < w.heap.size → i ≠ g → (sortWorldK (fun x : RB => encR x.1) 4 w g 0 n d' os).heap[i]? = w.heap[i]? := fun i hi hne => SortK.heap_other hi hne
    have hSize : w.heap.size ≤ (sortWorldK (fun x : RB => encR x.1) 4 w g 0 n d' os).heap.size := size_sortWorldK_c _ _ _ _ _ _ _ _
    have hPg : P0_ g := hP g rfl
    have hge : w0.heap.size ≤ g := hbase
    refine ⟨rfl, ⟨fun k_ hk_ => .inl (hP k_ hk_), (srt l0).flatMap encR, ⟨?_, .inr ⟨g, cap, _, ?_, hbase, hA, ?_, h2, ?_, ?_⟩⟩, ?_⟩, ⟨hB.os, hB.tape, hB.output, Nat.le_trans hB.size hSize, fun i hi => ?_⟩, ⟨hSize, fun i hi hn => hOut i hi (fun e => hn (e ▸ hPg))⟩⟩
    · rw [SortK.flat_len hkE]
    · rw [hlen']
    · rw [hlen']; exact h1
    · simp [Go.Sort.putCells, h3]
    · rw [hlen', ← hd's]
      have := SortK.take_put (kd := k25) (val := fun x : RB => x.1) hkE cur d' (by rw [h3, hd's]; exact Nat.mul_le_mul_right _ h1)
      rw [hsrt] at this
      exact this
    · exact SortK.flat_reps hkE (fun x => k25_mkM _ _ _ x) _
    · exact (hOut i (Nat.lt_of_lt_of_le hi hB.size) (by omega)).trans (hB.block i hi)

end Go.Proofs.Ytepjcfhkbcchmaa.XFam
