-- Written by xprint.py (a program of this claim's author) by means of the kit's print. Not trusted: Lean checks it.
import Derived.Test.YtepjcfhkbcchmaaLayIndex
import Derived.Test.YtepjcfhkbcchmaaRowK
import Derived.Shelf.SlicesQ.IndexFunc
import Derived.Lib.Hide
import Derived.Test.YtepjcfhkbcchmaaXFamx0
import Derived.Test.YtepjcfhkbcchmaaXFamx1
import Derived.Test.YtepjcfhkbcchmaaXFamx2
import Derived.Test.YtepjcfhkbcchmaaXFamx3
import Derived.Test.YtepjcfhkbcchmaaXFamx4
namespace Go.Proofs.Ytepjcfhkbcchmaa.XFam
open Go.RowKit Go.Proofs.YtepjcfhkbcchmaaW.PrintWords Go.Proofs.YtepjcfhkbcchmaaW.PrintLast Go.Proofs.YtepjcfhkbcchmaaW.PrintMore
attribute [local go_sem] max2_int min2_int max_two min_two max_three min_three max_four min_four   -- for this text's walks alone
set_option linter.unusedVariables false
set_option linter.unusedSimpArgs false

-- EXTERN family_Reap
/-! ### family_Reap: function 7, by hand -/
open Go.Proofs.Ytepjcfhkbcchmaa.RowK
theorem idx_spec {α : Type} (eq : α → α → Bool) (x : α) : ∀ (l : List α) (i : Nat), (Lib.idxByFrom eq x l i = -1 ∧ ∀ y ∈ l, eq x y = false) ∨ ∃ a y b, l = a ++ y :: b ∧ Lib.idxByFrom eq x l i = ((i + a.length : Nat) : Int) ∧ eq x y = true ∧ ∀ z ∈ a, eq x z = false
  | [], _ => .inl ⟨rfl, fun _ h => absurd h List.not_mem_nil⟩
  | y :: r, i => by
    by_cases h : eq x y = true
    · exact .inr ⟨[], y, r, rfl, by simp [Lib.idxByFrom, h], h, fun _ h => absurd h List.not_mem_nil⟩
    · have hf : eq x y = false := by simpa using h
      rcases idx_spec eq x r (i + 1) with ⟨e1, e2⟩ | ⟨a, z, b, e1, e2, e3, e4⟩
      · refine .inl ⟨by simp [Lib.idxByFrom, hf, e1], fun z hz => ?_⟩
        rcases List.mem_cons.1 hz with rfl | hz
        · exact hf
        · exact e2 z hz
      · refine .inr ⟨y :: a, z, b, by rw [e1]; rfl, ?_, e3, fun u hu => ?_⟩
        · simp only [Lib.idxByFrom, hf, Bool.false_eq_true, if_false, e2]
          simp; omega
        · rcases List.mem_cons.1 hu with rfl | hu
          · exact hf
          · exact e4 u hu
theorem reap_pred (g : Nat) (p : Int) (t : TypeId) (w : World) (hb : w.heap[g]? = some (.cells #[.int .i64 p] t (0, 0))) :
    PredBelow Try.prog 15 #[.pointer (some ⟨g, 0, none⟩)] (fun x => .agg (encM x).toArray) (fun x => decide (x.f0 = p)) w := fun W x hB => by
  have hg : g < w.heap.size := blk_lt hb
  have hbW : W.heap[g]? = some (.cells #[.int .i64 p] t (0, 0)) := (hB.block g hg).trans hb
  have c0 : W.cell? ⟨g, 0, none⟩ = some (.int .i64 p) := (blk_cell hbW 0).trans rfl
  have c1 : (W.alloc (.cells #[.int .i64 x.f0, .int .i64 x.f1, .bool x.f2, .int .u32 x.f3] 25 (0, 0))).cell? ⟨g, 0, none⟩ = some (.int .i64 p) := Lib.cell?_alloc_some _ c0
  have HB := Lib.hid (hB.alloc (by have := hB.size; omega) (.cells #[.int .i64 x.f0, .int .i64 x.f1, .bool x.f2, .int .u32 x.f3] 25 (0, 0)))
  clear hB hb hbW hg c0
  show Calls Try.prog 15 #[.agg #[.int .i64 x.f0, .int .i64 x.f1, .bool x.f2, .int .u32 x.f3], .pointer (some ⟨g, 0, none⟩)] W fun e w' => e = .returned (.bool (decide (x.f0 = p))) ∧ Below w.heap.size w w'
  go_enter Try.func15, Try.ntmps15
  go_wp2
  go_ret
  exact ⟨by have : (x.f0 == p) = decide (x.f0 = p) := by { rw [Bool.eq_iff_iff]; simp }
            simp [this], HB.out⟩
abbrev Mb := S25
def kpM (p : Int) (x : Mb) : Bool := !decide (x.f0 = p)
theorem cells_of {w : World} {g : Nat} {l : List Mb} {rest : List Value} (h : Row encM 25 w g l rest) (j : Nat) (hj : j < l.length) (i : Nat) (v : Value) (hv : (encM l[j]!)[i]? = some v) : w.cell? ⟨g, 0 + j * 4 + i, none⟩ = some v := by
  have e : l = l.take j ++ l[j]! :: l.drop (j + 1) := by
    rw [getElem!_pos l j hj, ← List.drop_eq_getElem_cons hj, List.take_append_drop]
  rw [e] at h
  have := Row.cell (k := 4) (fun _ => rfl) h i v hv
  rw [List.length_take, Nat.min_eq_left (by omega)] at this
  rwa [Nat.zero_add]
theorem cells_some {w : World} {g : Nat} {u m : List Mb} {rest : List Value} (h : Row encM 25 w g (u ++ m) rest) (j : Nat) (hj : j < m.length * 4) : (w.cell? ⟨g, u.length * 4 + j, none⟩).isSome = true := by
  have hd : j / 4 < m.length := by omega
  have e : m = m.take (j / 4) ++ m[j / 4] :: m.drop (j / 4 + 1) := by
    rw [← List.drop_eq_getElem_cons hd, List.take_append_drop]
  rw [e, ← List.append_assoc] at h
  have hi : j % 4 < (encM m[j / 4]).length := by show j % 4 < 4; omega
  have := Row.cell (k := 4) (fun _ => rfl) h (j % 4) _ (List.getElem?_eq_getElem hi)
  rw [List.length_append, List.length_take, Nat.min_eq_left (by omega), show (u.length + j / 4) * 4 + j % 4 = u.length * 4 + j by omega] at this
  rw [this]; rfl
set_option maxHeartbeats 4000000 in
set_option maxRecDepth 1000000 in
theorem del_calls (gp : Nat) (p : Int) (tp : TypeId) (g cap : Nat) (l : List Mb) (rest : List Value) (w : World) (hpb : w.heap[gp]? = some (.cells #[.int .i64 p] tp (0, 0))) (hne : gp ≠ g)
    (hR : Row encM 25 w g l rest) (hn : 0 < l.length) (hcap : l.length ≤ cap) (hbig : l.length ≤ 4611686018427387904) :
    Calls Try.prog 14 #[.slice (some ⟨g, 0, none⟩) l.length cap, .func (.func 15) #[] #[.pointer (some ⟨gp, 0, none⟩)]] w
      fun e w' => e = .returned (.slice (some ⟨g, 0, none⟩) (l.filter (kpM p)).length cap) ∧ ∃ z : List Mb, (l.filter (kpM p)).length + z.length = l.length ∧ Row encM 25 w' g (l.filter (kpM p) ++ z) rest ∧ Oth w w' g := by
  have eg : ∀ args w, (callFunc 15 args).run Try.prog w = .ok (.enter 15 args) w := enters_of Try.func15 (by kernel_rfl) rfl
  have hI := AnyQ.slices_IndexFunc (P := Try.prog) Try.indexMember 4 (fun _ => by kernel_rfl) (fun _ => by kernel_rfl) encM (fun _ => rfl) (fun x => decide (x.f0 = p)) 15 #[.pointer (some ⟨gp, 0, none⟩)] eg g 0 l.length cap l w
        (reap_pred gp p tp w hpb) (Nat.le_refl _) (by omega) hR.lt (cells_of hR)
  rw [List.take_length] at hI
  rcases idx_spec (fun _ y => decide (y.f0 = p)) default l 0 with ⟨e1, hall⟩ | ⟨a, y, b, e0, e1, ht, hall⟩
  · have e2 : Lib.idxBy (fun _ y => decide (y.f0 = p)) l default = -1 := e1
    rw [e2] at hI
    have hf : l.filter (kpM p) = l := List.filter_eq_self.2 (fun x hx => by have := hall x hx; simp only [kpM, this, Bool.not_false])
    have HR := Lib.hid hR
    have HF := Lib.hid hf
    clear hR hpb e1 e2 hall hf
    go_enter Try.func14, Try.ntmps14
    go_wp2_with fail
    refine hI.mono ?_
    rintro e w' ⟨rfl, hb1⟩
    have HB1 := Lib.hid hb1
    clear hb1
    go_wp2
    go_ret
    rw [HF.out]
    exact ⟨rfl, [], by simp, by rw [List.append_nil]; exact HR.out.other HB1.out, Oth.of_below HB1.out⟩
  · have e2 : Lib.idxBy (fun _ y => decide (y.f0 = p)) l default = (a.length : Int) := by unfold Lib.idxBy; rw [e1]; simp
    rw [e2] at hI
    have hne1 : ((a.length : Int) == -1) = false := beq_eq_false_iff_ne.2 (by omega)
    have hfa : a.filter (kpM p) = a := List.filter_eq_self.2 (fun x hx => by have := hall x hx; simp only [kpM, this, Bool.not_false])
    have hfy : kpM p y = false := by simp only [kpM, ht, Bool.not_true]
    have hfl : l.filter (kpM p) = a ++ b.filter (kpM p) := by rw [e0, List.filter_append, hfa, List.filter_cons, hfy]; simp
    have hlen : l.length = a.length + 1 + b.length := by rw [e0]; simp; omega
    have HPB := Lib.hid hpb
    have HR := Lib.hid hR
    have HE := Lib.hid e0
    have HF := Lib.hid hfl
    have HN := Lib.hid hne
    have HL := Lib.hid hlen
    clear hlen hR hpb e1 e2 hall ht hfa hfy e0 hfl hne
    go_enter Try.func14, Try.ntmps14
    go_wp2_with fail
    refine hI.mono ?_
    rintro e w' ⟨rfl, hb1⟩
    have HB1 := Lib.hid hb1
    clear hb1 hI
    go_wp2_with fail
    go_loopg [5, 6, 7] l.length (fun gg s5 s6 _ wr => ∃ (u m t : List Mb), s5 = .int .i64 (u.length : Nat) ∧ s6 = .int .i64 ((u.length + m.length : Nat) : Int) ∧ t.length ≤ gg ∧
      Aside (Row encM 25 wr g (u ++ (m ++ t)) rest) ∧ Aside (Oth w wr g) ∧ Aside (u.length + (m.length + t.length) = l.length ∧ 0 < m.length ∧ l.filter (kpM p) = u ++ t.filter (kpM p)))
    case atStart =>
      refine ⟨a, [y], b, rfl, ?_, ?_, ?_, ?_, ?_⟩
      · have h_ : l.length = a.length + 1 + b.length := HL.out
        have w_ : wrap64 ((a.length : Int) + 1) = ((a.length + 1 : Nat) : Int) := by unfold wrap64; omega
        rw [w_]
        rfl
      · have h_ : l.length = a.length + 1 + b.length := HL.out
        omega
      · show Row _ _ _ _ _ _
        have := HR.out.other HB1.out
        rw [HE.out] at this
        simpa using this
      · exact Oth.of_below HB1.out
      · exact ⟨by have := HL.out; simp; omega, by simp, HF.out⟩
    case round =>
      obtain ⟨u, m, t, rfl, rfl, hg, HRr, HOr, HIr⟩ := hrel
      cases t with
      | nil =>
        have e1 : u.length + m.length = l.length := by have := HIr.out.1; simpa using this
        have hlt : ¬ ((u.length + m.length : Nat) : Int) < (l.length : Int) := by omega
        have hm0 := HIr.out.2.1
        have hRu : Row encM 25 wr g (u ++ m) rest := by have := HRr.out; simpa using this
        have hcl : ∀ ty, (Builtin.clear_ #[26] ty #[.slice (some ⟨g, u.length * 4, none⟩) (l.length - u.length) (cap - u.length)]).run Try.prog wr = .ok (.tuple #[]) (wr.setCells g (u.length * 4) ((List.replicate (l.length - u.length) z25).flatMap encM)) := fun ty =>
          run_clear_rows (P := Try.prog) (k := 4) (enc := encM) (fun _ => rfl) wr _ _ ty (.agg #[.int .i64 0, .int .i64 0, .bool false, .int .u32 0]) z25 Try.underlying26 (fun _ => by kernel_rfl) (by kernel_rfl) (fun v hv => by simp [encM] at hv; rcases hv with rfl | rfl | rfl | rfl <;> rfl) g (u.length * 4) _ _ (by omega)
            (fun j hj => cells_some hRu j (by rw [← e1] at hj; omega))
            (fun j _ => hRu.frozen _)
        have HW := Lib.hid hRu
        clear hRu
        go_wp2_with fail
        go_ret
        have hfl : l.filter (kpM p) = u := by rw [HIr.out.2.2]; simp
        have hE : u.length + m.length = l.length := by have := HIr.out.1; simpa using this
        rw [hfl]
        refine ⟨rfl, List.replicate (l.length - u.length) z25, by simp; omega, ?_, HOr.out.trans (Oth.put wr g _ _)⟩
        exact HW.out.puts (k := 4) (fun _ => rfl) (by simp; omega)
      | cons x t =>
        have hlt : ((u.length + m.length : Nat) : Int) < (l.length : Int) := by have := HIr.out.1; simp at this; omega
        have hcell : ∀ i v, (encM x)[i]? = some v → wr.cell? ⟨g, (u.length + m.length) * 4 + i, none⟩ = some v := fun i v hi => by
          have h1 := HRr.out
          rw [← List.append_assoc] at h1
          have := Row.cell (k := 4) (fun _ => rfl) h1 i v hi
          rwa [List.length_append] at this
        have q0 : wr.cell? ⟨g, (u.length + m.length) * 4, none⟩ = some (.int .i64 x.f0) := hcell 0 _ rfl
        have q1 : wr.cell? ⟨g, (u.length + m.length) * 4 + 1, none⟩ = some (.int .i64 x.f1) := hcell 1 _ rfl
        have q2 : wr.cell? ⟨g, (u.length + m.length) * 4 + 2, none⟩ = some (.bool x.f2) := hcell 2 _ rfl
        have q3 : wr.cell? ⟨g, (u.length + m.length) * 4 + 3, none⟩ = some (.int .u32 x.f3) := hcell 3 _ rfl
        clear hcell
        have hgp : gp < w.heap.size := blk_lt HPB.out
        have hbx : ∀ o, (wr.alloc o).heap[gp]? = some (.cells #[.int .i64 p] tp (0, 0)) := fun o => by
          rw [Below.heap_alloc _ _ _ (Nat.lt_of_lt_of_le hgp HOr.out.size), HOr.out.block gp hgp HN.out]
          exact HPB.out
        have HX := Lib.hid hbx
        have hcall : ∀ o, Calls Try.prog 15 #[.agg #[.int .i64 x.f0, .int .i64 x.f1, .bool x.f2, .int .u32 x.f3], .pointer (some ⟨gp, 0, none⟩)] (wr.alloc o) fun e w' => e = .returned (.bool (decide (x.f0 = p))) ∧ Below (wr.alloc o).heap.size (wr.alloc o) w' :=
          fun o => reap_pred gp p tp _ (HX.out o) _ x (Below.refl _ _)
        have HC := Lib.hid hcall
        clear hbx hgp hcall
        go_wp2_with fail
        refine (HC.out _).mono ?_
        rintro e w2 ⟨rfl, hb2⟩
        have hw2 : Below wr.heap.size wr w2 := ((Below.refl _ wr).alloc (Nat.le_refl _) _).trans (hb2.mono (by simp))
        have hblk : w2.heap[wr.heap.size]? = some (.cells #[.int .i64 x.f0, .int .i64 x.f1, .bool x.f2, .int .u32 x.f3] 25 (0, 0)) := by
          rw [hb2.block _ (by simp)]
          show (wr.heap.push _)[wr.heap.size]? = _
          exact Array.getElem?_push_size
        have HR2 : Row encM 25 w2 g (u ++ (m ++ x :: t)) rest := HRr.out.other hw2
        have HO2 : Oth w w2 g := HOr.out.trans (Oth.of_below hw2)
        have v0 : w2.cell? ⟨wr.heap.size, 0, none⟩ = some (.int .i64 x.f0) := (blk_cell hblk 0).trans rfl
        have v1 : w2.cell? ⟨wr.heap.size, 1, none⟩ = some (.int .i64 x.f1) := (blk_cell hblk 1).trans rfl
        have v2 : w2.cell? ⟨wr.heap.size, 2, none⟩ = some (.bool x.f2) := (blk_cell hblk 2).trans rfl
        have v3 : w2.cell? ⟨wr.heap.size, 3, none⟩ = some (.int .u32 x.f3) := (blk_cell hblk 3).trans rfl
        obtain ⟨m0, m', hm⟩ : ∃ m0 m', m = m0 :: m' := by
          cases m with
          | nil => exact absurd HIr.out.2.1 (by simp)
          | cons m0 m' => exact ⟨m0, m', rfl⟩
        have hml : m.length = m'.length + 1 := by rw [hm]; rfl
        have HM := Lib.hid hm
        have HML := Lib.hid hml
        have hfz : ∀ j, w2.frozen? ⟨g, j, none⟩ = false := fun j => HR2.frozen j
        have hRm : Row encM 25 w2 g (u ++ m0 :: (m' ++ x :: t)) rest := by rw [hm] at HR2; simpa using HR2
        have s0 : w2.cell? ⟨g, u.length * 4, none⟩ = some (.int .i64 m0.f0) := Row.cell (k := 4) (fun _ => rfl) hRm 0 _ rfl
        have s1 : w2.cell? ⟨g, u.length * 4 + 1, none⟩ = some (.int .i64 m0.f1) := Row.cell (k := 4) (fun _ => rfl) hRm 1 _ rfl
        have s2 : w2.cell? ⟨g, u.length * 4 + 2, none⟩ = some (.bool m0.f2) := Row.cell (k := 4) (fun _ => rfl) hRm 2 _ rfl
        have s3 : w2.cell? ⟨g, u.length * 4 + 3, none⟩ = some (.int .u32 m0.f3) := Row.cell (k := 4) (fun _ => rfl) hRm 3 _ rfl
        have H2 := Lib.hid HR2
        have HR3 := Lib.hid hRm
        have HO3 := Lib.hid HO2
        have hul : (u.length : Int) < (l.length : Int) := by have := HIr.out.1; simp at this; omega
        clear hb2 hw2 hblk HR2 hRm HO2 hm hml q0 q1 q2 q3
        by_cases hq : x.f0 = p
        · have hd : decide (x.f0 = p) = true := decide_eq_true hq
          rw [hd]
          go_wp2_with fail
          go_roundg t.length
          case measure => simp at hg; omega
          case rel =>
            refine ⟨u, m ++ [x], t, rfl, ?_, Nat.le_refl _, ?_, HO3.out, ?_⟩
            · have e_ : ((u.length + (m ++ [x]).length : Nat) : Int) = (u.length : Int) + (m.length : Int) + 1 := by simp; omega
              rw [e_]
            · show Row _ _ _ _ _ _
              have := H2.out
              simpa using this
            · refine ⟨?_, ?_, ?_⟩
              · have := HIr.out.1; simp at this ⊢; omega
              · simp
              · rw [HIr.out.2.2, List.filter_cons, show kpM p x = false by simp [kpM, hd]]; simp
        · have hd : decide (x.f0 = p) = false := decide_eq_false hq
          rw [hd]
          go_wp2_with fail
          go_roundg t.length
          case measure => simp at hg; omega
          case rel =>
            have hput := HR3.out.put (k := 4) (fun _ => rfl) x
            refine ⟨u ++ [x], m' ++ [x], t, ?_, ?_, Nat.le_refl _, ?_, ?_, ?_⟩
            · have e_ : (((u ++ [x]).length : Nat) : Int) = (u.length : Int) + 1 := by simp
              rw [e_]
            · have h_ : m.length = m'.length + 1 := HML.out
              have e_ : (((u ++ [x]).length + (m' ++ [x]).length : Nat) : Int) = (u.length : Int) + (m.length : Int) + 1 := by simp; omega
              rw [e_]
            · show Row _ _ _ _ _ _
              have : u ++ [x] ++ (m' ++ [x] ++ t) = u ++ x :: (m' ++ x :: t) := by simp
              rw [this]
              exact hput
            · exact HO3.out.trans (Oth.put w2 g (u.length * 4) (encM x))
            · have h_ : m.length = m'.length + 1 := HML.out
              refine ⟨?_, ?_, ?_⟩
              · have := HIr.out.1; simp at this ⊢; omega
              · simp
              · rw [HIr.out.2.2, List.filter_cons, show kpM p x = true by simp [kpM, hd]]; simp
def family_Reap.f (k : Nat) (l0 : List S25) (a1 : Int) : Option (List S25 × Option Int) := (family_Find.f k l0 a1).bind fun b => (if b.2.2.2.2.isNone = true then (if b.2.2.1 = true then ((family_Member_12.f l0).bind fun c => some (c.filter (kpM a1), none)) else some ([], some 22)) else some ([], b.2.2.2.2))
theorem family_Reap.mono : ∀ a0 a1 k, LeO (family_Reap.f k a0 a1) (family_Reap.f (k + 1) a0 a1) := by
  intro a0 a1 k
  unfold family_Reap.f
  exact LeO.bind (family_Find.mono _ _ _) (fun _ => LeO.refl _)
/-- A row that a call owns, as a block of parts. -/
theorem own_row {w : World} {base : Nat} {ok : Nat → Prop} {v : Value} {l : List S25} (h : Kd.R k25 25 w base ok v l) (hn : 0 < l.length) :
    ∃ g cap rest, v = .slice (some ⟨g, 0, none⟩) l.length cap ∧ base ≤ g ∧ l.length ≤ cap ∧ ok g ∧ Row encM 25 w g l rest ∧
      ∀ (w' : World) (l' : List S25) (rest' : List Value) (ok' : Nat → Prop), ok' g → rest'.length + l'.length * 4 = rest.length + l.length * 4 → l'.length ≤ l.length → Row encM 25 w' g l' rest' → Kd.R k25 25 w' base ok' (.slice (some ⟨g, 0, none⟩) l'.length cap) l' := by
  obtain ⟨hP, inner, ⟨hil, hown⟩, hreps⟩ := h
  have hkE : ∀ x, (encM x).length = (k25).sz := fun _ => rfl
  rcases hown with ⟨rfl, hn0⟩ | ⟨g, cap, cur, rfl, hbase, hb, h1, h2, h3, h4⟩
  · omega
  · have hinner : inner = l.flatMap encM := SortK.reps_flat hkE (fun x cs hM => k25_openM hM) l inner hreps
    have hcur : cur = (l.flatMap encM ++ cur.toList.drop (l.length * 4)).toArray := by
      have e : cur.toList = l.flatMap encM ++ cur.toList.drop (l.length * 4) := by
        rw [← hinner, ← h4]; exact (List.take_append_drop _ _).symm
      rw [← e]
    have hsz : cur.size = cap * 4 := h3
    refine ⟨g, cap, cur.toList.drop (l.length * 4), rfl, hbase, h1, hP g rfl, ?_, ?_⟩
    · unfold Row
      rw [← hcur]; exact hb
    · intro w' l' rest' ok' hok hlen hle hR
      have hl4 : (l'.flatMap encM).length = l'.length * 4 := SortK.flat_len hkE l'
      refine ⟨fun k_ hk_ => ?_, l'.flatMap encM, ⟨?_, .inr ⟨g, cap, _, rfl, hbase, hR, ?_, h2, ?_, ?_⟩⟩, ?_⟩
      · simp [Value.ownBlock] at hk_; subst hk_; exact hok
      · rw [SortK.flat_len hkE]
      · omega
      · simp only [List.size_toArray, List.length_append, hl4]
        simp only [List.length_drop, Array.length_toList, hsz] at hlen
        show l'.length * 4 + rest'.length = cap * 4
        have : l.length * 4 ≤ cap * 4 := Nat.mul_le_mul_right _ h1
        omega
      · show List.take (l'.length * 4) _ = _
        rw [List.take_append_of_le_length (by rw [hl4]; exact Nat.le_refl _), List.take_of_length_le (by rw [hl4]; exact Nat.le_refl _)]
      · exact SortK.flat_reps hkE (fun x => k25_mkM _ _ _ x) _
theorem find_nil (k : Nat) (l0 : List S25) (a1 b1 b2 : Int) (b3 : Bool) (b4 : Int) (hf : family_Find.f k l0 a1 = some (b1, b2, b3, b4, none)) : 0 < l0.length := by
  rcases Nat.eq_zero_or_pos l0.length with h0 | h0
  · exfalso
    have hl := List.length_eq_zero_iff.1 h0
    subst hl
    unfold family_Find.f family_Check.f at hf
    cases k with
    | zero => simp [family_Check.j0] at hf
    | succ k => simp [family_Check.j0] at hf
  · exact h0
set_option maxHeartbeats 4000000 in
set_option maxRecDepth 100000 in
theorem family_Reap.calls (k : Nat) (A0 : Option Addr) (c0 : Nat) (l0 : List S25) (a1 : Int) (r1 : List S25) (r2 : Option Int) (w : World) (hr0 : Kd.C k25 w A0 l0.length l0) (hc0 : l0.length ≤ c0) (h : family_Reap.f k l0 a1 = some (r1, r2)) :
    Calls Try.prog 7 #[.slice A0 l0.length c0, .int .i64 a1] w fun e w' => ∃ v0_ : Value, e = .returned (.tuple #[v0_, errW r2]) ∧ Kd.R k25 25 w' w.heap.size (fun _ => True) v0_ r1 ∧ Below w.heap.size w w' := by
  unfold family_Reap.f at h
  obtain ⟨⟨b1, b2, b3, b4, b5⟩, hf, h⟩ := Option.bind_eq_some_iff.mp h
  have hF : ∀ W : World, Below w.heap.size w W → Calls Try.prog 6 #[.slice A0 l0.length c0, .int .i64 a1] W fun e w' => e = .returned (.tuple #[.agg #[.int .i64 b1, .int .i64 b2, .bool b3, .int .u32 b4], errW b5]) ∧ Below W.heap.size W w' :=
    fun W hW => family_Find.calls k A0 c0 l0 a1 b1 b2 b3 b4 b5 W (Kd.C_below hr0 hW) hc0 hf
  have hpos : b5 = none → 0 < l0.length := fun hb => by subst hb; exact find_nil k l0 a1 b1 b2 b3 b4 hf
  have HPO := Lib.hid hpos
  have HF := Lib.hid hF
  have HR := Lib.hid hr0
  have HC := Lib.hid hc0
  have HH := Lib.hid h
  clear hF hr0 hc0 hf h hpos
  go_enter Try.func7, Try.ntmps7
  go_wp2_with fail
  refine (HF.out _ ((Below.refl _ w).alloc (Nat.le_refl _) _)).mono ?_
  rintro e w1 ⟨rfl, hb1⟩
  have hB1 : Below w.heap.size w w1 := ((Below.refl _ w).alloc (Nat.le_refl _) _).trans (hb1.mono (by simp))
  have hbx : w1.heap[w.heap.size]? = some (.cells #[.int .i64 a1] 3 (0, 0)) := by
    rw [hb1.block _ (by simp)]
    show (w.heap.push _)[w.heap.size]? = _
    exact Array.getElem?_push_size
  have B1 := Lib.hid hB1
  have BX := Lib.hid hbx
  clear hb1 hB1 hbx
  have H := HH.out
  cases b5 with
  | some er =>
    obtain ⟨rfl, rfl⟩ := Prod.mk.inj (Option.some.inj (show some (([] : List S25), some er) = some (r1, r2) by simpa using H))
    clear H HH
    try simp only [errW_none, errW_some]
    go_wp2
    go_ret2
    exact ⟨_, rfl, Kd.R_nil _ _ _ _ _, B1.out.alloc B1.out.size _⟩
  | none =>
    have HP := Lib.hid (HPO.out rfl)
    clear HPO
    try simp only [errW_none, errW_some]
    cases b3 with
    | false =>
      obtain ⟨rfl, rfl⟩ := Prod.mk.inj (Option.some.inj (show some (([] : List S25), some (22 : Int)) = some (r1, r2) by simpa using H))
      clear H HH
      go_wp2
      go_ret2
      exact ⟨_, rfl, Kd.R_nil _ _ _ _ _, B1.out.alloc B1.out.size _⟩
    | true =>
      obtain ⟨c, hc, hres⟩ := Option.bind_eq_some_iff.mp (show ((family_Member_12.f l0).bind fun c => some (c.filter (kpM a1), (none : Option Int))) = some (r1, r2) by simpa using H)
      obtain ⟨rfl, rfl⟩ := Prod.mk.inj (Option.some.inj hres)
      have hcl : c = l0 ∧ l0.length < 5864062014805 := by
        unfold family_Member_12.f at hc
        split at hc
        · rename_i hlim
          exact ⟨(Option.some.inj hc).symm, hlim⟩
        · cases hc
      obtain ⟨hcl, hlim⟩ := hcl
      have HLIM := Lib.hid hlim
      clear hlim
      have hC : ∀ W : World, Below w.heap.size w W → Calls Try.prog 12 #[.slice A0 l0.length c0] W fun e w' => ∃ v0_ : Value, e = .returned v0_ ∧ Kd.R k25 25 w' W.heap.size (fun _ => True) v0_ l0 ∧ Below W.heap.size W w' :=
        fun W hW => by
          have := family_Member_12.calls A0 c0 l0 c W (Kd.C_below HR.out hW) HC.out hc
          rwa [hcl] at this
      subst hcl
      have HL := Lib.hid hC
      clear H HH hres hc hC HF
      go_wp2_with fail
      refine (HL.out _ (B1.out.alloc B1.out.size _)).mono ?_
      rintro e w3 ⟨v0, rfl, hR3, hb3⟩
      have hlt1 : w.heap.size < w1.heap.size := by
        rcases Nat.lt_or_ge w.heap.size w1.heap.size with q | q
        · exact q
        · have := BX.out; rw [Array.getElem?_eq_none q] at this; cases this
      have hbx3 : w3.heap[w.heap.size]? = some (.cells #[.int .i64 a1] 3 (0, 0)) := by
        rw [hb3.block _ (by simp; omega), Below.heap_alloc _ _ _ hlt1]
        exact BX.out
      have hB3 : Below w.heap.size w w3 := (B1.out.alloc B1.out.size _).trans (hb3.mono (by simp; omega))
      obtain ⟨g, cap, rest, rfl, hbg, hcap, _, hRow, hback⟩ := own_row hR3 HP.out
      have hgw : w.heap.size < g := by
        have : w1.heap.size + 1 ≤ g := by simpa using hbg
        omega
      have hbig : c.length ≤ 4611686018427387904 := by have h_ : c.length < 5864062014805 := HLIM.out; omega
      have hD := del_calls w.heap.size a1 3 g cap c rest w3 hbx3 (by omega) hRow HP.out hcap hbig
      have HD := Lib.hid hD
      have HB3 := Lib.hid hB3
      have HK := Lib.hid hback
      have HG := Lib.hid hgw
      have HW := Lib.hid hRow
      have HS := Lib.hid hbg
      clear hR3 hb3 hlt1 hbx3 hB3 hbg hcap hRow hback hgw hbig hD
      go_wp2_with fail
      refine HD.out.mono ?_
      rintro e w4 ⟨rfl, z, hz, hRow4, hO4⟩
      have HZ := Lib.hid hz
      have H4 := Lib.hid hRow4
      have HO := Lib.hid hO4
      clear hz hRow4 hO4
      go_wp2
      go_ret2
      refine ⟨_, rfl, ?_, HB3.out.trans (HO.out.below (Nat.le_of_lt HG.out) HB3.out.size)⟩
      have hz : (c.filter (kpM a1)).length + z.length = c.length := HZ.out
      have hRr : Row encM 25 w4 g (c.filter (kpM a1)) (z.flatMap encM ++ rest) := by
        have := H4.out
        unfold Row at this ⊢
        rw [this, List.flatMap_append, List.append_assoc]
      have hzl : (z.flatMap encM).length = z.length * 4 := SortK.flat_len (enc := encM) (k := 4) (fun _ => rfl) z
      refine Kd.R_lower (HK.out w4 _ (z.flatMap encM ++ rest) (fun _ => True) trivial (by rw [List.length_append, hzl]; omega) (by omega) hRr) ?_
      have := B1.out.size
      simp
      omega

end Go.Proofs.Ytepjcfhkbcchmaa.XFam
