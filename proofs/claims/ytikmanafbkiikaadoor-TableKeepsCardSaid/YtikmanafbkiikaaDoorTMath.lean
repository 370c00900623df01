/- Tables, in plain words: which frames the upper parts have, which entries the pages have. No program in sight. -/
import Derived.Test.YtikmanafbkiikaaDoorTable6
namespace Go.Proofs.YtikmanafbkiikaaDoor
set_option linter.unusedSimpArgs false
set_option linter.unusedVariables false
open Go Go.RowKit Go.Proofs.YtikmanafbkiikaaDoorW.PrintWords Go.Proofs.YtikmanafbkiikaaDoorW.PrintMore Go.Proofs.YtikmanafbkiikaaDoor.RowK

abbrev Ent3 := Int × Int × Bool
def enc3 : Option Ent3 → Int
  | none => 0
  | some x => entNum x.1 x.2.1 x.2.2
def ok3 (x : Ent3) : Prop := entOk x.1 x.2.1 = true ∧ 0 ≤ x.2.1
def val3 : Option Ent3 → Value
  | none => .agg #[.int .i64 0, .int .u8 0, .bool false]
  | some x => .agg #[.int .i64 x.1, .int .u8 x.2.1, .bool x.2.2]
def upd {α : Type} (g : Nat → α) (i : Nat) (v : α) : Nat → α := fun j => if j = i then v else g j
theorem upd_same {α : Type} (g : Nat → α) (i : Nat) (v : α) : upd g i v i = v := if_pos rfl
theorem upd_other {α : Type} (g : Nat → α) (i : Nat) (v : α) {j : Nat} (h : j ≠ i) : upd g i v j = g j := if_neg h
theorem enc3_facts {o : Option Ent3} (h : ∀ x, o = some x → ok3 x) : isEnt (enc3 o) = o.isSome ∧ entDecV (enc3 o) = val3 o ∧ entDecE (enc3 o) = none ∧ 0 ≤ enc3 o ∧ enc3 o < 4294967296 ∧ (enc3 o = 0 ↔ o = none) := by
  cases o with
  | none => exact ⟨by decide, by unfold entDecV; rw [show isEnt (enc3 none) = false from by decide]; rfl, by decide, by decide, by decide, by simp [enc3]⟩
  | some x =>
    obtain ⟨h1, h2⟩ := h x rfl
    obtain ⟨f, q, c⟩ := x
    obtain ⟨r1, r2, r3, r4, r5, r6⟩ := entNum_range c h1 h2
    simp only [enc3] at *
    refine ⟨r6, ?_, ?_, by omega, by omega, by simp; omega⟩
    · unfold entDecV
      rw [if_pos r6, r3, r4, r5]
      cases c <;> rfl
    · unfold entDecE
      rw [r6, Bool.or_true]
      rfl
/-- The first frame that is free. -/
def firstZ (rs : List Int) : Option Nat := rs.findIdx? (· == 0)
theorem firstZ_some {rs : List Int} {i : Nat} (h : firstZ rs = some i) : rs[i]? = some 0 ∧ ∀ j, j < i → rs[j]? ≠ some 0 := by
  rw [firstZ, List.findIdx?_eq_some_iff_getElem] at h
  obtain ⟨hi, h0, hn⟩ := h
  refine ⟨by rw [List.getElem?_eq_getElem hi]; simpa using h0, fun j hj e => ?_⟩
  have := hn j hj
  rw [List.getElem?_eq_getElem (by omega)] at e
  simp at this
  exact this (Option.some.inj e)
theorem firstZ_none {rs : List Int} (h : firstZ rs = none) : ∀ j : Nat, rs[j]? ≠ some 0 := by
  rw [firstZ, List.findIdx?_eq_none_iff] at h
  intro j e
  have := h 0 (List.mem_of_getElem? e)
  simp at this
set_option maxRecDepth 100000 in
theorem wd_zero (bs : List Int) (i a : Nat) (ha : a < 64) (hl : i * 256 + 256 ≤ bs.length) (Z : List Int) (hZ : Z = List.replicate 256 0) : wd (spl bs (i * 256) Z) i a = 0 := by
  have hlen : Z.length = 256 := by rw [hZ]; exact List.length_replicate
  have key : ∀ j, j < 4 → (seg (spl bs (i * 256) Z) (i * 256 + a * 4) 4).getD j 0 = 0 := fun j hj => by
    rw [List.getD_eq_getElem?_getD, seg_get, if_pos hj, spl_get _ _ _ _ (by omega), if_neg (by omega), if_pos (by omega), hZ, List.getElem?_replicate]
    split <;> rfl
  unfold wd num4
  rw [key 0 (by decide), key 1 (by decide), key 2 (by decide), key 3 (by decide)]
  rfl
set_option maxRecDepth 100000 in
theorem wd_far (bs : List Int) (f a i : Nat) (Z : List Int) (hZ : Z.length = 256) (ha : a < 64) (hn : f ≠ i) (hl : i * 256 + 256 ≤ bs.length) : wd (spl bs (i * 256) Z) f a = wd bs f a := by
  unfold wd
  rw [seg_spl_other _ _ _ _ _ (by omega) (by omega)]
/-- What a table has: own: the frame of each upper part; ent: the entry of each page. -/
structure TI (k : Nat) (rs bs : List Int) (d : Nat) (own : Nat → Option Nat) (ent : Nat → Option Ent3) : Prop where
  len : bs.length = k * 256
  up : ∀ u, u < 64 → wd bs d u = match own u with | none => 0 | some n => (n : Int) * 256 + 129
  fr : ∀ u n, u < 64 → own u = some n → n < k ∧ n ≠ d ∧ rs[n]? = some 1
  inj : ∀ u u' n, u < 64 → u' < 64 → own u = some n → own u' = some n → u = u'
  lo : ∀ u n a, u < 64 → a < 64 → own u = some n → wd bs n a = enc3 (ent (u * 64 + a))
  no : ∀ u a, u < 64 → a < 64 → own u = none → ent (u * 64 + a) = none
  ok : ∀ p, ∀ x, ent p = some x → ok3 x
  rd : rs[d]? = some 1
  dk : d < k
  k1 : k ≤ 1024
theorem get_set (rs : List Int) (i j : Nat) (v : Int) : (rs.set i v)[j]? = if i = j then (if i < rs.length then some v else none) else rs[j]? := by
  rw [List.getElem?_set]
section
variable {k : Nat} {rs bs : List Int} {d : Nat} {own : Nat → Option Nat} {ent : Nat → Option Ent3}
set_option maxRecDepth 100000 in
/-- A new table. -/
theorem TI.new (hl : bs.length = k * 256) (i : Nat) (hr : rs[i]? = some 0) (hk : i < k) (hk1 : k ≤ 1024) (Z : List Int) (hZ : Z = List.replicate 256 0) : TI k (rs.set i 1) (spl bs (i * 256) Z) i (fun _ => none) (fun _ => none) := by
  have hlen : Z.length = 256 := by rw [hZ]; exact List.length_replicate
  have hrl : i < rs.length := (List.getElem?_eq_some_iff.1 hr).1
  refine ⟨by rw [spl_length _ _ _ (by omega)]; exact hl, fun u hu => wd_zero bs i u hu (by omega) Z hZ, fun _ _ _ h => (by cases h), fun _ _ _ _ _ h => (by cases h), fun _ _ _ _ _ h => (by cases h), fun _ _ _ _ _ => rfl, fun _ _ h => (by cases h), ?_, hk, hk1⟩
  rw [get_set, if_pos rfl, if_pos hrl]
/-- A frame is taken by another one. -/
theorem TI.alloc (h : TI k rs bs d own ent) (i : Nat) (hr : rs[i]? = some 0) : TI k (rs.set i 1) bs d own ent := by
  refine ⟨h.len, h.up, fun u n hu ho => ?_, h.inj, h.lo, h.no, h.ok, ?_, h.dk, h.k1⟩
  · obtain ⟨h1, h2, h3⟩ := h.fr u n hu ho
    refine ⟨h1, h2, ?_⟩
    rw [get_set, if_neg (fun e => by subst e; rw [hr] at h3; cases h3)]
    exact h3
  · rw [get_set, if_neg (fun e => by subst e; have := h.rd; rw [hr] at this; cases this)]
    exact h.rd
set_option maxRecDepth 100000 in
/-- An upper part gets a frame. -/
theorem TI.made (h : TI k rs bs d own ent) (u : Nat) (hu : u < 64) (ho : own u = none) (i : Nat) (hr : rs[i]? = some 0) (hik : i < k) (Z : List Int) (hZ : Z = List.replicate 256 0) :
    TI k (rs.set i 1) (spl (spl bs (i * 256) Z) (d * 256 + u * 4) (bytes4 (entNum i 1 false))) d (upd own u (some i)) ent := by
  have hlen : Z.length = 256 := by rw [hZ]; exact List.length_replicate
  have hl := h.len
  have hk1 := h.k1
  have hdk := h.dk
  have hid : i ≠ d := fun e => by subst e; have := h.rd; rw [hr] at this; cases this
  have hl1 : (spl bs (i * 256) Z).length = k * 256 := by rw [spl_length _ _ _ (by omega)]; exact hl
  have hrl : i < rs.length := (List.getElem?_eq_some_iff.1 hr).1
  have h4 : (bytes4 (entNum i 1 false)).length = 4 := rfl
  have hnum : entNum i 1 false = (i : Int) * 256 + 129 := by unfold entNum; simp; omega
  have hni : ∀ u' n, u' < 64 → own u' = some n → n ≠ i := fun u' n hu' ho' e => by
    have := (h.fr u' n hu' ho').2.2
    rw [e, hr] at this
    cases this
  refine ⟨by rw [spl_length _ _ _ (by omega)]; exact hl1, fun u' hu' => ?_, fun u' n hu' ho' => ?_, fun u1 u2 n h1 h2 h3 h4' => ?_, fun u' n a hu' ha ho' => ?_, fun u' a hu' ha ho' => ?_, h.ok, ?_, h.dk, h.k1⟩
  · by_cases e : u' = u
    · subst e
      rw [upd_same, wd_same _ _ _ _ (by omega) (by omega) (by omega), hnum]
    · rw [upd_other _ _ _ e, wd_other _ _ _ _ _ _ hu hu' (.inr e) (by omega), wd_far _ _ _ _ _ hlen hu' (fun e => hid e.symm) (by omega)]
      exact h.up u' hu'
  · by_cases e : u' = u
    · subst e
      rw [upd_same] at ho'
      obtain rfl := Option.some.inj ho'
      refine ⟨hik, hid, ?_⟩
      rw [get_set, if_pos rfl, if_pos hrl]
    · rw [upd_other _ _ _ e] at ho'
      obtain ⟨a1, a2, a3⟩ := h.fr u' n hu' ho'
      refine ⟨a1, a2, ?_⟩
      rw [get_set, if_neg (fun e => hni u' n hu' ho' e.symm)]
      exact a3
  · by_cases e1 : u1 = u
    · by_cases e2 : u2 = u
      · omega
      · rw [e1, upd_same] at h3
        rw [upd_other _ _ _ e2] at h4'
        exact absurd (Option.some.inj h3).symm (hni u2 n h2 h4')
    · by_cases e2 : u2 = u
      · rw [e2, upd_same] at h4'
        rw [upd_other _ _ _ e1] at h3
        exact absurd (Option.some.inj h4').symm (hni u1 n h1 h3)
      · rw [upd_other _ _ _ e1] at h3
        rw [upd_other _ _ _ e2] at h4'
        exact h.inj u1 u2 n h1 h2 h3 h4'
  · by_cases e : u' = u
    · subst e
      rw [upd_same] at ho'
      obtain rfl := Option.some.inj ho'
      rw [wd_other _ _ _ _ _ _ hu ha (.inl hid) (by omega), wd_zero _ _ _ ha (by omega) Z hZ, h.no u' a hu ha ho]
      rfl
    · rw [upd_other _ _ _ e] at ho'
      obtain ⟨a1, a2, a3⟩ := h.fr u' n hu' ho'
      rw [wd_other _ _ _ _ _ _ hu ha (.inl a2) (by omega), wd_far _ _ _ _ _ hlen ha (hni u' n hu' ho') (by omega)]
      exact h.lo u' n a hu' ha ho'
  · by_cases e : u' = u
    · subst e
      rw [upd_same] at ho'
      cases ho'
    · rw [upd_other _ _ _ e] at ho'
      exact h.no u' a hu' ha ho'
  · rw [get_set, if_neg hid]
    exact h.rd
set_option maxRecDepth 100000 in
/-- A page's entry is laid down, or taken away. -/
theorem TI.put (h : TI k rs bs d own ent) (u a n : Nat) (hu : u < 64) (ha : a < 64) (ho : own u = some n) (o : Option Ent3) (hok : ∀ x, o = some x → ok3 x) :
    TI k rs (spl bs (n * 256 + a * 4) (bytes4 (enc3 o))) d own (upd ent (u * 64 + a) o) := by
  have hl := h.len
  have hk1 := h.k1
  obtain ⟨hnk, hnd, hnr⟩ := h.fr u n hu ho
  have h4 : (bytes4 (enc3 o)).length = 4 := rfl
  obtain ⟨_, _, _, e1, e2, _⟩ := enc3_facts hok
  refine ⟨by rw [spl_length _ _ _ (by omega)]; exact hl, fun u' hu' => ?_, h.fr, h.inj, fun u' n' a' hu' ha' ho' => ?_, fun u' a' hu' ha' ho' => ?_, fun p x hx => ?_, h.rd, h.dk, h.k1⟩
  · rw [wd_other _ _ _ _ _ _ ha hu' (.inl (fun e => hnd e.symm)) (by omega)]
    exact h.up u' hu'
  · by_cases e : u' = u
    · subst e
      obtain rfl : n' = n := by rw [ho] at ho'; exact (Option.some.inj ho').symm
      by_cases ea : a' = a
      · subst ea
        rw [upd_same, wd_same _ _ _ _ e1 e2 (by omega)]
      · rw [upd_other _ _ _ (by omega), wd_other _ _ _ _ _ _ ha ha' (.inr ea) (by omega)]
        exact h.lo u' n' a' hu' ha' ho'
    · have hnn : n' ≠ n := fun e' => e (h.inj u' u n hu' hu (e' ▸ ho') ho)
      rw [upd_other _ _ _ (by omega), wd_other _ _ _ _ _ _ ha ha' (.inl hnn) (by omega)]
      exact h.lo u' n' a' hu' ha' ho'
  · rw [upd_other _ _ _ (fun e => by
      have : u' = u := by omega
      rw [this, ho] at ho'
      cases ho')]
    exact h.no u' a' hu' ha' ho'
  · by_cases e : p = u * 64 + a
    · subst e
      rw [upd_same] at hx
      exact hok x hx
    · rw [upd_other _ _ _ e] at hx
      exact h.ok p x hx
theorem TI.isEnt (h : TI k rs bs d own ent) (u : Nat) (hu : u < 64) : isEnt (wd bs d u) = (own u).isSome := by
  rw [h.up u hu]
  cases ho : own u with
  | none => decide
  | some n =>
    have := (h.fr u n hu ho).1
    have hk1 := h.k1
    unfold Go.Proofs.YtikmanafbkiikaaDoor.isEnt
    simp
    omega
theorem TI.lows (h : TI k rs bs d own ent) : Lows bs d := fun u hu => by
  rw [h.isEnt u hu, h.up u hu]
  cases ho : own u with
  | none => exact .inl rfl
  | some n => exact .inr rfl
theorem TI.frame (h : TI k rs bs d own ent) (u n : Nat) (hu : u < 64) (ho : own u = some n) : wd bs d u / 256 = (n : Int) := by
  rw [h.up u hu, ho]
  show ((n : Int) * 256 + 129) / 256 = n
  omega
theorem TI.lowk (h : TI k rs bs d own ent) : Lowk bs d k := fun u hu he => by
  rw [h.isEnt u hu] at he
  obtain ⟨n, ho⟩ := Option.isSome_iff_exists.1 he
  have := (h.fr u n hu ho).1
  rw [h.frame u n hu ho]
  omega
/-- The upper parts that have frames. -/
def ownTo (own : Nat → Option Nat) (j : Nat) : List (Nat × Int) := (List.range j).filterMap fun u => (own u).map fun n => (u, (n : Int))
theorem ownTo_succ (own : Nat → Option Nat) (j : Nat) : ownTo own (j + 1) = ownTo own j ++ (match own j with | none => [] | some n => [(j, (n : Int))]) := by
  unfold ownTo
  rw [List.range_succ, List.filterMap_append]
  congr 1
  cases ho : own j <;> simp [ho]
theorem TI.lowsEq (h : TI k rs bs d own ent) : ∀ j, j ≤ 64 → lowsTo bs d j = ownTo own j
  | 0, _ => rfl
  | j + 1, hj => by
    rw [lowsTo_succ, ownTo_succ, h.lowsEq j (by omega), h.isEnt j (by omega)]
    cases ho : own j with
    | none => rfl
    | some n =>
      rw [h.frame j n (by omega) ho]
      rfl
/-- How many upper parts have frames. -/
def cnt (own : Nat → Option Nat) : Nat := (ownTo own 64).length
theorem cnt_le (own : Nat → Option Nat) : cnt own ≤ 64 := by
  unfold cnt ownTo
  exact Nat.le_trans (List.length_filterMap_le _ _) (by rw [List.length_range]; exact Nat.le_refl _)
theorem ownTo_upd_len (own : Nat → Option Nat) (u i : Nat) (ho : own u = none) : ∀ j, (ownTo (upd own u (some i)) j).length = (ownTo own j).length + if u < j then 1 else 0
  | 0 => rfl
  | j + 1 => by
    rw [ownTo_succ, ownTo_succ, List.length_append, List.length_append, ownTo_upd_len own u i ho j]
    by_cases e : j = u
    · subst e
      rw [upd_same, ho, if_neg (by omega), if_pos (by omega)]
      rfl
    · rw [upd_other _ _ _ e]
      by_cases hj : u < j
      · rw [if_pos hj, if_pos (by omega)]; omega
      · rw [if_neg hj, if_neg (by omega)]; omega
theorem cnt_upd (own : Nat → Option Nat) (u i : Nat) (hu : u < 64) (ho : own u = none) : cnt (upd own u (some i)) = cnt own + 1 := by
  unfold cnt
  rw [ownTo_upd_len own u i ho, if_pos hu]
theorem cnt_none : cnt (fun _ => none) = 0 := by decide
/-- The pages that have entries, below j. -/
def pagesTo (ent : Nat → Option Ent3) (j : Nat) : List Nat := (List.range j).filter fun p => (ent p).isSome
theorem pagesTo_add (ent : Nat → Option Ent3) (i j : Nat) : pagesTo ent (i + j) = pagesTo ent i ++ ((List.range j).filter fun a => (ent (i + a)).isSome).map (i + ·) := by
  unfold pagesTo
  rw [List.range_add, List.filter_append, List.filter_map]
  rfl
set_option maxRecDepth 100000 in
theorem TI.pages (h : TI k rs bs d own ent) : ∀ j, j ≤ 64 → pagesOf bs (lowsTo bs d j) = (pagesTo ent (j * 64)).map fun (p : Nat) => (p : Int)
  | 0, _ => rfl
  | j + 1, hj => by
    rw [lowsTo_succ, show (j + 1) * 64 = j * 64 + 64 by omega, pagesTo_add, h.isEnt j (by omega), List.map_append, ← h.pages j (by omega)]
    cases ho : own j with
    | none =>
      have : (List.range 64).filter (fun a => (ent (j * 64 + a)).isSome) = [] := List.filter_eq_nil_iff.2 (fun a ha => by
        rw [h.no j a (by omega) (List.mem_range.1 ha) ho]; simp)
      rw [this]
      simp
    | some n =>
      rw [if_pos (show (some n).isSome = true from rfl), pagesOf_snoc, h.frame j n (by omega) ho]
      congr 1
      unfold pagesIn
      rw [List.map_map]
      have hf : (List.range 64).filter (fun i => wd bs ((n : Int)).toNat i != 0) = (List.range 64).filter (fun a => (ent (j * 64 + a)).isSome) := List.filter_congr (fun a ha => by
        rw [Int.toNat_natCast, h.lo j n a (by omega) (List.mem_range.1 ha) ho]
        have := (enc3_facts (h.ok (j * 64 + a))).2.2.2.2.2
        cases he : ent (j * 64 + a) with
        | none => rw [he] at this; simp [this]
        | some x => rw [he] at this; simp only [bne, Option.isSome_some]; rw [Bool.not_eq_true', beq_eq_false_iff_ne]; exact fun e => by cases this.1 e)
      rw [hf]
      apply List.map_congr_left
      intro a ha
      show (j : Int) * 64 + (a : Int) = ((j * 64 + a : Nat) : Int)
      omega
end
/-- How many frames are taken. -/
theorem takenTo_set (rs : List Int) (i : Nat) (hr : rs[i]? = some 0) : ∀ j, (takenTo (rs.set i 1) j).length = (takenTo rs j).length + if i < j then 1 else 0
  | 0 => rfl
  | j + 1 => by
    have hrl : i < rs.length := (List.getElem?_eq_some_iff.1 hr).1
    rw [takenTo_succ, takenTo_succ, List.length_append, List.length_append, takenTo_set rs i hr j, get_set]
    by_cases e : i = j
    · subst e
      rw [if_pos rfl, if_pos hrl, hr, if_neg (Nat.lt_irrefl _), if_pos (Nat.lt_succ_self _)]
      simp
    · rw [if_neg e]
      by_cases hj : i < j
      · rw [if_pos hj, if_pos (show i < j + 1 by omega)]; omega
      · rw [if_neg hj, if_neg (show ¬ i < j + 1 by omega)]; omega
theorem takenTo_full (rs : List Int) (hn : ∀ j : Nat, rs[j]? ≠ some 0) (hp : ∀ r ∈ rs, 0 ≤ r) : ∀ j, j ≤ rs.length → (takenTo rs j).length = j
  | 0, _ => rfl
  | j + 1, hj => by
    rw [takenTo_succ, List.length_append, takenTo_full rs hn hp j (by omega), List.getElem?_eq_getElem (by omega), Option.getD_some, if_pos ?_]
    · rfl
    · have h1 := hp _ (List.getElem_mem (show j < rs.length by omega))
      have h2 := hn j
      rw [List.getElem?_eq_getElem (by omega)] at h2
      have : rs[j] ≠ 0 := fun e => h2 (by rw [e])
      omega
theorem takenTo_room (rs : List Int) (i : Nat) (hr : rs[i]? = some 0) : (takenTo rs rs.length).length < rs.length := by
  have hrl : i < rs.length := (List.getElem?_eq_some_iff.1 hr).1
  have h1 := takenTo_set rs i hr rs.length
  have h2 := takenTo_length (rs.set i 1) rs.length
  rw [if_pos hrl] at h1
  omega
theorem takenTo_zero (k : Nat) : ∀ j, takenTo (List.replicate k 0) j = []
  | 0 => rfl
  | j + 1 => by
    rw [takenTo_succ, takenTo_zero k j, List.getElem?_replicate]
    split <;> simp
theorem firstZ_full {rs : List Int} (hp : ∀ r ∈ rs, 0 ≤ r) : firstZ rs = none ↔ (takenTo rs rs.length).length = rs.length := by
  constructor
  · intro h
    exact takenTo_full rs (firstZ_none h) hp _ (Nat.le_refl _)
  · intro h
    cases hz : firstZ rs with
    | none => rfl
    | some i => have := takenTo_room rs i (firstZ_some hz).1; omega
/-- Frames that are taken once at most are given back. -/
def Once (rs : List Int) : Prop := ∀ r ∈ rs, r = 0 ∨ r = 1
theorem Once.set {rs : List Int} (h : Once rs) (i : Nat) : Once (rs.set i 1) := fun r hr => by
  rcases List.mem_or_eq_of_mem_set hr with hr | hr
  · exact h r hr
  · exact .inr hr
theorem unref1_len (rs : List Int) (n : Int) : (unref1 rs n).length = rs.length := by
  unfold unref1
  split
  · exact List.length_set
  · rfl
theorem unref1_get {rs : List Int} (h : Once rs) (n : Int) (j : Nat) : (unref1 rs n)[j]? = if (j : Int) = n then (if j < rs.length then some 0 else none) else rs[j]? := by
  unfold unref1
  by_cases hp : 0 < refsOf rs n
  · obtain ⟨h0, hl⟩ := refsOf_pos hp
    have hr : refsOf rs n = rs[n.toNat] := by unfold refsOf; rw [if_pos h0, List.getElem?_eq_getElem hl, Option.getD_some]
    have h1 : refsOf rs n = 1 := by
      rcases h _ (List.getElem_mem hl) with e | e <;> omega
    rw [if_pos hp, h1, get_set]
    by_cases e : (j : Int) = n
    · rw [if_pos e, if_pos (by omega), if_pos hl, if_pos (by omega)]
      rfl
    · rw [if_neg e, if_neg (by omega)]
  · rw [if_neg hp]
    by_cases e : (j : Int) = n
    · rw [if_pos e]
      by_cases hl : j < rs.length
      · rw [if_pos hl]
        have hr : refsOf rs n = rs[j] := by
          unfold refsOf
          rw [if_pos (by omega), show n.toNat = j by omega, List.getElem?_eq_getElem hl, Option.getD_some]
        rw [List.getElem?_eq_getElem hl]
        rcases h _ (List.getElem_mem hl) with e' | e'
        · rw [e']
        · omega
      · rw [if_neg hl, List.getElem?_eq_none (by omega)]
    · rw [if_neg e]
theorem Once.unref1 {rs : List Int} (h : Once rs) (n : Int) : Once (unref1 rs n) := fun r hr => by
  obtain ⟨j, hj⟩ := List.getElem?_of_mem hr
  rw [unref1_get h] at hj
  split at hj
  · split at hj
    · exact .inl (Option.some.inj hj).symm
    · cases hj
  · exact h r (List.mem_of_getElem? hj)
theorem Once.unrefs : ∀ {rs : List Int} (ns : List Int), Once rs → Once (unrefs rs ns)
  | _, [], h => h
  | _, n :: ns, h => Once.unrefs ns (h.unref1 n)
theorem unrefs_len : ∀ (rs ns : List Int), (unrefs rs ns).length = rs.length
  | _, [] => rfl
  | rs, n :: ns => (unrefs_len (unref1 rs n) ns).trans (unref1_len rs n)
theorem unrefs_get : ∀ (ns : List Int) {rs : List Int} (_ : Once rs) (j : Nat), (unrefs rs ns)[j]? = if (j : Int) ∈ ns then (if j < rs.length then some 0 else none) else rs[j]?
  | [], rs, _, j => by rw [if_neg (by simp)]; rfl
  | n :: ns, rs, h, j => by
    show (Go.Proofs.YtikmanafbkiikaaDoor.unrefs (Go.Proofs.YtikmanafbkiikaaDoor.unref1 rs n) ns)[j]? = _
    rw [unrefs_get ns (h.unref1 n) j, unref1_len, unref1_get h]
    by_cases h1 : (j : Int) ∈ ns
    · rw [if_pos h1, if_pos (show (j : Int) ∈ n :: ns from List.mem_cons_of_mem _ h1)]
    · rw [if_neg h1]
      by_cases h2 : (j : Int) = n
      · rw [if_pos h2, if_pos (show (j : Int) ∈ n :: ns by rw [h2]; exact List.mem_cons_self)]
      · rw [if_neg h2, if_neg (show ¬ (j : Int) ∈ n :: ns by rw [List.mem_cons]; exact fun h => h.elim h2 h1)]
theorem ownTo_mem {own : Nat → Option Nat} {j : Nat} {n : Int} : n ∈ (ownTo own j).map (·.2) ↔ ∃ u m, u < j ∧ own u = some m ∧ n = (m : Int) := by
  unfold ownTo
  rw [List.mem_map]
  constructor
  · rintro ⟨x, hx, rfl⟩
    rw [List.mem_filterMap] at hx
    obtain ⟨u, hu, h⟩ := hx
    cases ho : own u with
    | none => rw [ho] at h; cases h
    | some m =>
      rw [ho] at h
      obtain rfl := Option.some.inj h
      exact ⟨u, m, List.mem_range.1 hu, ho, rfl⟩
  · rintro ⟨u, m, hu, ho, rfl⟩
    exact ⟨(u, (m : Int)), List.mem_filterMap.2 ⟨u, List.mem_range.2 hu, by rw [ho]; rfl⟩, rfl⟩
theorem takenTo_nil (rs : List Int) : ∀ (j : Nat), (∀ i, i < j → rs[i]?.getD 0 = 0) → takenTo rs j = []
  | 0, _ => rfl
  | j + 1, h => by
    rw [takenTo_succ, takenTo_nil rs j (fun i hi => h i (by omega)), h j (by omega), if_neg (by decide)]
    rfl
end Go.Proofs.YtikmanafbkiikaaDoor
