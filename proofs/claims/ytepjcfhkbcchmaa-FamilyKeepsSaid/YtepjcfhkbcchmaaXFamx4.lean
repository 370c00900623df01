-- Written by xprint.py (a program of this claim's author) by means of the kit's print. Not trusted: Lean checks it.
import Derived.WalkSpells
import Derived.Lib.Hide
import Derived.Test.YtepjcfhkbcchmaaXFamx0
namespace Go.Proofs.Ytepjcfhkbcchmaa.XFam
open Go.RowKit Go.Proofs.YtepjcfhkbcchmaaW.PrintWords Go.Proofs.YtepjcfhkbcchmaaW.PrintLast Go.Proofs.YtepjcfhkbcchmaaW.PrintMore
attribute [local go_sem] max2_int min2_int max_two min_two max_three min_three max_four min_four   -- for this text's walks alone
set_option linter.unusedVariables false
set_option linter.unusedSimpArgs false

-- EXTERN family_Member_12
/-! ### family_Member_12: function 12, by hand -/
def family_Member_12.f (l0 : List S25) : Option (List S25) := if l0.length < 5864062014805 then some l0 else none
theorem family_Member_12.chunks {w : World} {A : Option Addr} {n : Nat} {xs : List S25} (h : Kd.C k25 w A n xs) (hn : 0 < n) :
    ∃ ad inner, A = some ad ∧ inner.length = n * (k25).sz ∧ (∀ j u, inner[j]? = some u → w.cell? (ad.add j) = some u) ∧ Reps (k25 |>.K w) (k25).sz xs inner ∧ ∀ u ∈ inner, u.oneCell' = true := by
  obtain ⟨hl, _, hc⟩ := h
  obtain ⟨ad, rfl, hcell⟩ := hc hn
  have key : ∀ (ys : List S25) (o : Nat), (∀ j p, ys[j]? = some p → ∃ c, c.length = (k25).sz ∧ (k25).K w p c ∧ ∀ i u, c[i]? = some u → w.cell? (ad.add ((o + j) * (k25).sz + i)) = some u) →
      ∃ inner, inner.length = ys.length * (k25).sz ∧ (∀ j u, inner[j]? = some u → w.cell? (ad.add (o * (k25).sz + j)) = some u) ∧ Reps ((k25).K w) (k25).sz ys inner ∧ ∀ u ∈ inner, u.oneCell' = true := by
    intro ys
    induction ys with
    | nil => intro o _; exact ⟨[], by simp, fun j u h => by simp at h, Reps.none _ _, fun u h => by simp at h⟩
    | cons y r ih =>
      intro o h
      obtain ⟨c, hcl, hK, hcc⟩ := h 0 y rfl
      obtain ⟨inner, h1, h2, h3, h4⟩ := ih (o + 1) (fun j p hj => by
        obtain ⟨c', a, b, d⟩ := h (j + 1) p (by simpa using hj)
        exact ⟨c', a, b, fun i u hi => by rw [show o + 1 + j = o + (j + 1) by omega]; exact d i u hi⟩)
      refine ⟨c ++ inner, by rw [List.length_append, hcl, h1, List.length_cons, Nat.add_mul, Nat.one_mul, Nat.add_comm], fun j u hj => ?_, ⟨by rw [List.length_append, hcl, h1, List.length_cons, Nat.add_mul, Nat.one_mul, Nat.add_comm], fun j p hj => ?_⟩, fun u hu => ?_⟩
      · by_cases hjc : j < c.length
        · rw [List.getElem?_append_left hjc] at hj
          have := hcc j u hj
          rwa [Nat.add_zero] at this
        · rw [List.getElem?_append_right (by omega)] at hj
          have := h2 _ u hj
          rwa [show (o + 1) * (k25).sz + (j - c.length) = o * (k25).sz + j by rw [Nat.add_mul, Nat.one_mul]; omega] at this
      · cases j with
        | zero =>
          obtain rfl : y = p := by simpa using hj
          rw [Nat.zero_mul, List.drop_zero, List.take_append_of_le_length (by omega), List.take_of_length_le (by omega)]
          exact hK
        | succ j =>
          have := h3.2 j p (by simpa using hj)
          rw [Nat.add_mul, Nat.one_mul, Nat.add_comm, ← List.drop_drop, ← hcl, List.drop_left, hcl]
          exact this
      · rcases List.mem_append.1 hu with hu | hu
        · exact (k25).K_one hK u hu
        · exact h4 u hu
  obtain ⟨inner, h1, h2, h3, h4⟩ := key xs 0 (fun j p hj => by
    obtain ⟨c, a, b, d⟩ := hcell j p hj
    exact ⟨c, a, b, fun i u hi => by rw [Nat.zero_add]; exact d i u hi⟩)
  exact ⟨ad, inner, rfl, by rw [h1, hl], fun j u hj => by have := h2 j u hj; rwa [Nat.zero_mul, Nat.zero_add] at this, h3, h4⟩
set_option maxHeartbeats 1000000 in
theorem family_Member_12.calls (A0 : Option Addr) (c0 : Nat) (l0 : List S25) (r : List S25) (w : World) (hr0 : Kd.C k25 w A0 l0.length l0) (hc0 : l0.length ≤ c0) (h : family_Member_12.f l0 = some r) :
    Calls Try.prog 12 #[.slice A0 l0.length c0] w fun e w' => ∃ v0_ : Value, e = .returned v0_ ∧ Kd.R k25 25 w' w.heap.size (fun _ => True) v0_ r ∧ Below w.heap.size w w' := by
  unfold family_Member_12.f at h
  split at h
  case isFalse => cases h
  rename_i hlim
  obtain rfl := Option.some.inj h
  have q22 : ∀ (w : World) (a : Option Addr) (n c n' c' : Nat), (binOp .eql 26 (.slice a n c) (.slice none n' c')).run Try.prog w = .ok (.bool a.isNone) w := fun w a n c n' c' => Lib.run_eql_slice_nil w _ _ a n c n' c' Try.underlying26
  have u22 : ∀ w, Sem.run Try.prog (underlying 26) w = .ok (TypeDesc.slice 25) w := run_underlying Try.underlying26
  obtain ⟨i0, hi, hz0, hz1, hz2⟩ := info_parts info25
  obtain ⟨n, hn⟩ : ∃ n, n = l0.length := ⟨_, rfl⟩
  have HN := Lib.hid hn
  rw [← hn] at hr0 hc0 hlim
  rw [← hn]
  clear hn h
  cases A0 with
  | none =>
    have h0 : n = 0 := by
      rcases Nat.eq_zero_or_pos n with h0 | h0
      · exact h0
      · obtain ⟨_, e, _⟩ := hr0.2.2 h0; cases e
    subst h0
    have hl : l0 = [] := List.length_eq_zero_iff.1 HN.out.symm
    subst hl
    clear hr0 HN
    go_enter Try.func12, Try.ntmps12
    go_wp2
    go_ret
    exact ⟨_, rfl, Kd.R_nil _ _ _ _ _, Below.refl _ _⟩
  | some ad =>
    obtain ⟨inner, hlen, hcells, hreps, hone⟩ : ∃ inner, inner.length = n * (k25).sz ∧ (∀ j u, inner[j]? = some u → w.cell? (ad.add j) = some u) ∧ Reps ((k25).K w) (k25).sz l0 inner ∧ ∀ u ∈ inner, u.oneCell' = true := by
      rcases Nat.eq_zero_or_pos n with h0 | h0
      · subst h0
        have hl : l0 = [] := List.length_eq_zero_iff.1 HN.out.symm
        subst hl
        exact ⟨[], by simp, fun j u h => by simp at h, Reps.none _ _, fun u h => by simp at h⟩
      · obtain ⟨ad', inner, e, h1, h2, h3, h4⟩ := family_Member_12.chunks hr0 h0
        injection e with e
        subst e
        exact ⟨inner, h1, h2, h3, h4⟩
    have Hc := Aside0.mk hcells
    have Hr := Aside0.mk hreps
    have H1 := Aside0.mk hone
    have HL := Aside0.mk hlen
    clear hcells hreps hone hr0 hlen
    go_enter Try.func12, Try.ntmps12
    go_wp2_with (at_builtin; refine wpList_append_own _ rfl _ _ 26 rfl w.heap.size 25 i0 _ (k25).sz 24 Try.underlying26 hi hz0 hz1 hz2 rfl (by decide) _ _ _ rfl (World.ownsRow_made w #[] 0 (Nat.le_refl _) (Nat.zero_le _) (by simp)) ad n c0 inner rfl ?qc1 ?qc2 ?qc3 ?qc4 ?qc5 ?qc6 ?_)
    case qc1 => exact HL.out
    case qc2 => intro j u hj; exact Lib.cell?_alloc_some _ (Hc.out j u hj)
    case qc3 => exact H1.out
    case qc4 => rw [Nat.zero_add]; unfold maxLen; omega
    case qc5 => rw [Nat.zero_add]; omega
    case qc6 => simp
    intro v' w1 hown hgrow hnil
    have Hb : Below w.heap.size w w1 := ((Below.refl _ w).alloc (Nat.le_refl _) _).grown hgrow (by simp) (by intro k hk; simp [Value.ownBlock] at hk; omega)
    have HO := Aside0.mk hown
    have HB := Aside0.mk Hb
    clear hown hgrow hnil Hb
    go_wp2
    go_ret
    refine ⟨v', rfl, ⟨fun _ _ => trivial, inner, ?_, ?_⟩, HB.out⟩
    · have := HO.out
      rw [← HN.out]
      simpa using this
    · exact Hr.out.imp_ (fun x cs hK => by obtain rfl := k25_open hK; exact k25_mkM _ _ _ x)

end Go.Proofs.Ytepjcfhkbcchmaa.XFam
