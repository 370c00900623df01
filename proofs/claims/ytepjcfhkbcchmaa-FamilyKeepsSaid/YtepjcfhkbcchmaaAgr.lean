/- Worlds that agree on some blocks; rows of structs that stay as long as those blocks stay. No program. -/
import Derived.Test.YtepjcfhkbcchmaaRowK
import Derived.Lib.Hide
namespace Go.Proofs.Ytepjcfhkbcchmaa
set_option linter.unusedSimpArgs false
set_option linter.unusedVariables false
open Go Go.RowKit Go.Proofs.YtepjcfhkbcchmaaW.PrintWords Go.Proofs.Ytepjcfhkbcchmaa.RowK

/-- w' is behind w; the blocks of S are as they were. -/
structure Agr (S : Nat → Prop) (w w' : World) : Prop where
  os : w'.os = w.os
  tape : w'.tape = w.tape
  output : w'.output = w.output
  size : w.heap.size ≤ w'.heap.size
  block : ∀ k, k < w.heap.size → S k → w'.heap[k]? = w.heap[k]?
section
variable {S T : Nat → Prop} {w w1 w2 : World}
theorem Agr.refl (S : Nat → Prop) (w : World) : Agr S w w := ⟨rfl, rfl, rfl, Nat.le_refl _, fun _ _ _ => rfl⟩
theorem Agr.below (h : Below w.heap.size w w1) : Agr S w w1 := ⟨h.os, h.tape, h.output, h.size, fun k hk _ => h.block k hk⟩
theorem Agr.trans (h : Agr S w w1) (k : Agr S w1 w2) : Agr S w w2 :=
  ⟨k.os.trans h.os, k.tape.trans h.tape, k.output.trans h.output, Nat.le_trans h.size k.size, fun i hi hs => (k.block i (Nat.lt_of_lt_of_le hi h.size) hs).trans (h.block i hi hs)⟩
theorem Agr.mono (h : Agr S w w1) (hs : ∀ k, k < w.heap.size → T k → S k) : Agr T w w1 := ⟨h.os, h.tape, h.output, h.size, fun k hk ht => h.block k hk (hs k hk ht)⟩
theorem Agr.set (w : World) (p : Addr) (v : Value) (hp : ¬ S p.block) : Agr S w (w.setCell p v) :=
  ⟨rfl, rfl, rfl, by simp, fun k _ hs => Below.heap_setCell w p v k (fun e => hp (e ▸ hs))⟩
theorem Agr.oth {g : Nat} (h : Oth w w1 g) (hg : ¬ S g) : Agr S w w1 := ⟨h.os, h.tape, h.output, h.size, fun k hk hs => h.block k hk (fun e => hg (e ▸ hs))⟩
theorem Agr.all (h : Agr S w w1) (hs : ∀ k, k < w.heap.size → S k) : Below w.heap.size w w1 := ⟨h.os, h.tape, h.output, h.size, fun k hk => h.block k hk (hs k hk)⟩
/-- From a part of w: what is below a world's size. -/
theorem Agr.old {w0 : World} (h : Agr S w w1) (hb : Below w0.heap.size w0 w) (hs : ∀ k, k < w0.heap.size → S k) : Below w0.heap.size w0 w1 :=
  hb.trans ⟨h.os, h.tape, h.output, h.size, fun k hk => h.block k (Nat.lt_of_lt_of_le hk hb.size) (hs k hk)⟩
end
section
variable {α : Type} {d : Kd α} {S T : Nat → Prop} {w w1 w2 : World} {A : Option Addr} {l : List α}
/-- A row that is read, as long as S stays. -/
def CS (d : Kd α) (S : Nat → Prop) (w : World) (A : Option Addr) (l : List α) : Prop :=
  l.length ≤ 9223372036854775807 ∧ (0 < l.length → ∃ ad, A = some ad) ∧ ∃ inner, inner.length = l.length * d.sz ∧ ∀ W, Agr S w W → (∀ ad, A = some ad → ∀ j u, inner[j]? = some u → W.cell? (ad.add j) = some u) ∧ Reps (d.K W) d.sz l inner
theorem CS.step (h : CS d S w A l) (k : Agr S w w1) : CS d S w1 A l := by
  obtain ⟨h0, h1, inner, h2, h3⟩ := h
  exact ⟨h0, h1, inner, h2, fun W hW => h3 W (k.trans hW)⟩
theorem CS.mono (h : CS d S w A l) (hs : ∀ k, k < w.heap.size → S k → T k) : CS d T w A l := by
  obtain ⟨h0, h1, inner, h2, h3⟩ := h
  exact ⟨h0, h1, inner, h2, fun W hW => h3 W (hW.mono hs)⟩
theorem CS.C (h : CS d S w A l) : Kd.C d w A l.length l := by
  obtain ⟨h0, h1, inner, h2, h3⟩ := h
  obtain ⟨c, r⟩ := h3 w (Agr.refl _ _)
  refine ⟨rfl, h0, fun hn => ?_⟩
  obtain ⟨ad, rfl⟩ := h1 hn
  refine ⟨ad, rfl, fun j p hj => ⟨(inner.drop (j * d.sz)).take d.sz, ?_, r.2 j p hj, fun i u hi => ?_⟩⟩
  · exact d.K_len (r.2 j p hj)
  · rw [List.getElem?_take] at hi
    split at hi
    · rw [List.getElem?_drop] at hi
      exact c ad rfl _ u hi
    · cases hi
theorem C_chunks {n : Nat} (h : d.C w A n l) (hn : 0 < n) :
    ∃ ad inner, A = some ad ∧ inner.length = n * d.sz ∧ (∀ j u, inner[j]? = some u → w.cell? (ad.add j) = some u) ∧ Reps (d.K w) d.sz l inner := by
  obtain ⟨hl, _, hc⟩ := h
  obtain ⟨ad, rfl, hcell⟩ := hc hn
  have key : ∀ (ys : List α) (o : Nat), (∀ j p, ys[j]? = some p → ∃ c, c.length = d.sz ∧ d.K w p c ∧ ∀ i u, c[i]? = some u → w.cell? (ad.add ((o + j) * d.sz + i)) = some u) →
      ∃ inner, inner.length = ys.length * d.sz ∧ (∀ j u, inner[j]? = some u → w.cell? (ad.add (o * d.sz + j)) = some u) ∧ Reps (d.K w) d.sz ys inner := by
    intro ys
    induction ys with
    | nil => intro o _; exact ⟨[], by simp, fun j u h => by simp at h, Reps.none _ _⟩
    | cons y r ih =>
      intro o h
      obtain ⟨c, hcl, hK, hcc⟩ := h 0 y rfl
      obtain ⟨inner, h1, h2, h3⟩ := ih (o + 1) (fun j p hj => by
        obtain ⟨c', a, b, e⟩ := h (j + 1) p (by simpa using hj)
        exact ⟨c', a, b, fun i u hi => by rw [show o + 1 + j = o + (j + 1) by omega]; exact e i u hi⟩)
      refine ⟨c ++ inner, by rw [List.length_append, hcl, h1, List.length_cons, Nat.add_mul, Nat.one_mul, Nat.add_comm], fun j u hj => ?_, ⟨by rw [List.length_append, hcl, h1, List.length_cons, Nat.add_mul, Nat.one_mul, Nat.add_comm], fun j p hj => ?_⟩⟩
      · by_cases hjc : j < c.length
        · rw [List.getElem?_append_left hjc] at hj
          have := hcc j u hj
          rwa [Nat.add_zero] at this
        · rw [List.getElem?_append_right (by omega)] at hj
          have := h2 _ u hj
          rwa [show (o + 1) * d.sz + (j - c.length) = o * d.sz + j by rw [Nat.add_mul, Nat.one_mul]; omega] at this
      · cases j with
        | zero =>
          obtain rfl : y = p := by simpa using hj
          rw [Nat.zero_mul, List.drop_zero, List.take_append_of_le_length (by omega), List.take_of_length_le (by omega)]
          exact hK
        | succ j =>
          have := h3.2 j p (by simpa using hj)
          rw [Nat.add_mul, Nat.one_mul, Nat.add_comm, ← List.drop_drop, ← hcl, List.drop_left, hcl]
          exact this
  obtain ⟨inner, h1, h2, h3⟩ := key l 0 (fun j p hj => by
    obtain ⟨c, a, b, e⟩ := hcell j p hj
    exact ⟨c, a, b, fun i u hi => by rw [Nat.zero_add]; exact e i u hi⟩)
  exact ⟨ad, inner, rfl, by rw [h1, hl], fun j u hj => by have := h2 j u hj; rwa [Nat.zero_mul, Nat.zero_add] at this, h3⟩
/-- What came in. -/
theorem CS.of_C (h : Kd.C d w A l.length l) : CS d (fun _ => True) w A l := by
  have hmx := h.2.1
  rcases Nat.eq_zero_or_pos l.length with h0 | h0
  · have : l = [] := List.length_eq_zero_iff.1 h0
    subst this
    exact ⟨hmx, fun h => absurd h (by simp), [], by simp, fun W _ => ⟨fun _ _ j u h => by simp at h, Reps.none _ _⟩⟩
  · obtain ⟨ad, inner, rfl, h1, h2, h3⟩ := C_chunks h h0
    refine ⟨hmx, fun _ => ⟨ad, rfl⟩, inner, h1, fun W hW => ?_⟩
    have hb := hW.all (fun _ _ => trivial)
    refine ⟨fun ad' h' j u hj => ?_, h3.imp_ fun _ _ hp => d.K_below hb hp⟩
    obtain rfl := Option.some.inj h'
    exact (hb.cell (Go.block_lt_of_cell (h2 j u hj))).trans (h2 j u hj)
theorem CS.nil (d : Kd α) (S : Nat → Prop) (w : World) : CS d S w none [] := ⟨by simp, fun h => absurd h (by simp), [], by simp, fun _ _ => ⟨fun _ _ j u h => by simp at h, Reps.none _ _⟩⟩
/-- What was made from base on. -/
theorem CS.of_R {e base n c : Nat} {ok : Nat → Prop} (h : Kd.R d e w base ok (.slice A n c) l) : CS d (fun k => base ≤ k) w A l := by
  obtain ⟨rfl, _, hC⟩ := Kd.R_reads' h
  have hmv : ∀ W, Agr (fun k => base ≤ k) w W → Kd.R d e W base ok (.slice A l.length c) l := fun W hW =>
    Kd.R_mono (Kd.R_move (Kd.R_bound h) (fun k hk => hW.block k hk.2.2.1 hk.2.1)) (fun _ hk => hk.1)
  obtain ⟨h0, inner, ho, hr⟩ := h
  refine ⟨hC.2.1, fun hn => ?_, inner, ho.1, fun W hW => ?_⟩
  · obtain ⟨ad, e, _⟩ := hC.2.2 hn
    exact ⟨ad, e⟩
  · obtain ⟨_, inner', ho', hr'⟩ := hmv W hW
    have hi : inner' = inner := by
      rcases ho.2 with ⟨e1, e2⟩ | ⟨g, cap, cur, e1, e2, e3, e4, e5, e6, e7⟩
      · have l1 := ho.1; have l2 := ho'.1
        rw [e2, Nat.zero_mul] at l1 l2
        rw [List.length_eq_zero_iff.1 l1, List.length_eq_zero_iff.1 l2]
      · rcases ho'.2 with ⟨f1, f2⟩ | ⟨g', cap', cur', f1, f2, f3, f4, f5, f6, f7⟩
        · rw [f1] at e1; cases e1
        · rw [e1] at f1
          injection f1 with f1 _ _
          injection f1 with f1
          injection f1 with f1 _ _
          subst f1
          have := hW.block g (blk_lt e3) e2
          rw [this, e3] at f3
          injection f3 with f3
          injection f3 with f3 _ _
          subst f3
          rw [← e7, ← f7]
    subst hi
    refine ⟨fun ad hA j u hj => ?_, hr'.imp_ fun _ _ hp => d.K_of_M hp⟩
    rcases ho'.2 with ⟨f1, f2⟩ | ⟨g', cap', cur', f1, f2, f3, f4, f5, f6, f7⟩
    · have l2 := ho'.1
      rw [f2, Nat.zero_mul] at l2
      rw [List.length_eq_zero_iff.1 l2] at hj
      simp at hj
    · subst hA
      injection f1 with f1 _ f1'
      injection f1 with f1
      subst f1
      have hjl : j < l.length * d.sz := by rw [← ho'.1]; exact (List.getElem?_eq_some_iff.1 hj).1
      rw [Addr.add_lit, Nat.zero_add, cell_of_row _ _ _ _ _ _ f3]
      rw [← f7, List.getElem?_take, if_pos hjl] at hj
      simpa using hj
end
end Go.Proofs.Ytepjcfhkbcchmaa
