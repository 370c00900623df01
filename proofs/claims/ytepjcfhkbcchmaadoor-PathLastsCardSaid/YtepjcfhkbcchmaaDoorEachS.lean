/- A range over a closure that keeps state of its own in cells (a captured variable), the loop's body never leaving early: one law. No program. -/
import Derived.RangeFuncWrites
import Derived.Shelf.Abstract
import Derived.Test.YtepjcfhkbcchmaaDoorRowK
namespace Go.Proofs.YtepjcfhkbcchmaaDoor
set_option linter.unusedSimpArgs false
set_option linter.unusedVariables false
open Go Go.RowKit Go.Shelf

section
variable {F : Fence} {n : Nat} {P : Program} {α : Type}
/-- What a round's body comes to: it goes on; what is no cells lies as it lay; the iterator's own blocks, too. -/
def onPostS (B : Nat) (own : Nat → Prop) (I : World → Prop) (W : World) : Exit → Act → World → Prop
  | .normal, _, W' => (W.heap.size ≤ W'.heap.size ∧ ∀ k o, B ≤ k → W.heap[k]? = some o → o.isCells = false → W'.heap[k]? = some o) ∧ (∀ b, own b → W'.heap[b]? = W.heap[b]?) ∧ I W'
  | _, _, _ => False
/-- What an iterator owes that goes over xs, whatever is asked of it in between; own: the blocks that it writes. -/
def EachS (F : Fence) (n : Nat) (P : Program) (gf : FuncId) (lb : Array Value) (encs : α → Array Value) (xs : List α) (own : Nat → Prop) (T : World → Prop) : Prop :=
  ∀ (l : Nat) (J : List α → World → Prop) (W1 : World), (∀ pre W W', J pre W → Below W.heap.size W W' → J pre W') → (∀ pre W b v, own b → J pre W → J pre (W.setCell ⟨b, 0, none⟩ v)) →
    (∀ pre x W, J pre W → pre ++ [x] <+: xs → YieldAt F (n - 1) P l (encs x) W fun e W' => e = .returned (.bool true) ∧ J (pre ++ [x]) W' ∧ ∀ b, own b → W'.heap[b]? = W.heap[b]?) → J [] W1 → T W1 →
    CallsIn F n P gf (#[.func (.yield l) #[] #[]] ++ lb) W1 fun e W' => (∃ v, e = .returned v) ∧ J xs W'
theorem eachS_of {g : Operand} {ps : Array Tmp} {assign body : Code} {Q : Exit → Act → World → Prop} {a : Act} {w : World} (hro : F.round = none) (h1 : 1 ≤ n) {gf : FuncId} {lb : Array Value} (hg : a.eval g = .func (.func gf) #[] lb) (hFg : F.fn gf)
    (eg : ∀ args w, (callFunc gf args).run P w = .ok (.enter gf args) w) {encs : α → Array Value} (xs : List α) {own : Nat → Prop} {T : World → Prop} (hseq : EachS F (n - 1) P gf lb encs xs own T) (hps : ∀ x, (encs x).size = ps.size)
    (hown : ∀ b, own b → b < w.heap.size) (hT : ∀ W', Below w.heap.size w W' → T W')
    (I : List α → World → Prop) (hI : ∀ pre W W', I pre W → Below W.heap.size W W' → I pre W') (hS : ∀ pre W b v, own b → I pre W → I pre (W.setCell ⟨b, 0, none⟩ v))
    (hP : ∀ pre W l o o', I pre W → w.heap.size ≤ l → W.heap[l]? = some o → o.isCells = false → I pre (W.putObj l o')) (h0 : I [] w) (a₁ : α → Act)
    (hassign : ∀ (l : Nat) (x : α) (W : World) (K : Act → World → Prop), K (a₁ x) W → assign.wpIn (F.inRound l) (n - 1 - 1) P (Exit.then K (fun _ _ _ => False)) { tmps := (ps.zip (encs x)).foldl (fun t (p, v) => t.setIfInBounds p v) a.tmps, defers := [] } W)
    (hbody : ∀ (l : Nat) (pre : List α) (x : α) (W : World), I pre W → w.heap.size ≤ W.heap.size → pre ++ [x] <+: xs → body.wpIn (F.inRound l) (n - 1 - 1) P (onPostS w.heap.size own (I (pre ++ [x])) W) (a₁ x) W)
    (hdone : ∀ (W : World), I xs W → W.heap[w.heap.size]? = some (.deferred (some [])) → Q .normal { a with defers := { target := .collected w.heap.size, args := #[] } :: a.defers } W) :
    (Code.rangeFunc g ps assign body).wpIn F n P Q a w := by
  refine wpIn_rangeFunc ?_
  intro fn hfn
  rw [hro]
  let rec_ : LoopState → Loop := fun st => { state := st, pending := none, fn, tmps := a.tmps, params := ps, assign, body, defers := w.heap.size }
  obtain ⟨W1, hW1⟩ : ∃ W1, (w.alloc (.deferred (some []))).alloc (.loop (rec_ .ready)) = W1 := ⟨_, rfl⟩
  have hL1 : W1.heap[w.heap.size + 1]? = some (.loop (rec_ .ready)) := by rw [← hW1]; exact Go.heap_alloc2_new _ _ _
  have hK1 : W1.heap[w.heap.size]? = some (.deferred (some [])) := by rw [← hW1]; exact Go.heap_alloc2_old _ _ _
  have hB1 : Below w.heap.size w W1 := by rw [← hW1]; exact ((Below.refl _ w).alloc (Nat.le_refl _) _).alloc (by simp) _
  have hI1 : I [] W1 := hI [] w W1 h0 hB1
  refine ⟨w.heap.size + 1, [{ target := .collected w.heap.size, args := #[] }], W1, { target := .fn (.func gf) lb, args := #[.func (.yield (w.heap.size + 1)) #[] #[]] }, W1, gf,
    #[.func (.yield (w.heap.size + 1)) #[] #[]] ++ lb, W1, ?_, ?_, ?_, ?_, fun _ => h1, ?_⟩
  · rw [← hW1]; exact run_enterLoop_outer _ _ _ _ _
  · simp only [resolve, hg]
    simp [go_sem]
  · intro f' hf'; simp [Target.leads] at hf'; subst hf'; exact hFg
  · simp [invoke, go_sem, eg]
  · refine (hseq (w.heap.size + 1) (fun pre W => I pre W ∧ W.heap[w.heap.size + 1]? = some (.loop (rec_ .ready)) ∧ W.heap[w.heap.size]? = some (.deferred (some []))) W1
      (fun pre W W' hj hb => ⟨hI pre W W' hj.1 hb, (hb.block _ (Array.getElem?_eq_some_iff.1 hj.2.1).1).trans hj.2.1, (hb.block _ (Array.getElem?_eq_some_iff.1 hj.2.2).1).trans hj.2.2⟩)
      (fun pre W b v hb hj => ⟨hS pre W b v hb hj.1, (Below.heap_setCell W ⟨b, 0, none⟩ v _ (fun e => by have := hown b hb; simp at e; omega)).trans hj.2.1, (Below.heap_setCell W ⟨b, 0, none⟩ v _ (fun e => by have := hown b hb; simp at e; omega)).trans hj.2.2⟩) ?_ ⟨hI1, hL1, hK1⟩ (hT W1 hB1)).mono ?_
    · rintro pre x W ⟨hi, hl, hk⟩ hpre
      have hlt : w.heap.size + 1 < W.heap.size := (Array.getElem?_eq_some_iff.1 hl).1
      have hy := run_yield (P := P) (args := encs x) hl (hps x)
      refine ⟨fn, _, assign, body, hy, roundIn_of_wpIn hfn (hassign _ x W _ ⟨_, run_beginRound hl rfl, ?_⟩)⟩
      have hl2 : (W.putObj (w.heap.size + 1) (.loop (rec_ .busy))).heap[w.heap.size + 1]? = some (.loop (rec_ .busy)) := World.putObj_heap_same hlt
      have hk2 : (W.putObj (w.heap.size + 1) (.loop (rec_ .busy))).heap[w.heap.size]? = some (.deferred (some [])) := (World.putObj_heap_other (by omega)).trans hk
      refine wpIn_mono (hbody _ pre x _ (hP pre W _ _ _ hi (by omega) hl rfl) (by simp [World.putObj]; omega) hpre) ?_
      rintro e a3 W3 hp
      cases e with
      | normal =>
        obtain ⟨⟨hs3, hk3⟩, ho3, hi3⟩ := hp
        have hl3 := hk3 _ _ (by omega) hl2 rfl
        have hr := run_endRound (P := P) none hl3
        refine ⟨_, _, hr, rfl, ⟨hP _ W3 _ _ _ hi3 (by omega) hl3 rfl, World.putObj_heap_same (Array.getElem?_eq_some_iff.1 hl3).1, (World.putObj_heap_other (by omega)).trans (hk3 _ _ (Nat.le_refl _) hk2 rfl)⟩, fun b hb => ?_⟩
        have := hown b hb
        rw [World.putObj_heap_other (by omega), ho3 b hb, World.putObj_heap_other (by omega)]
      | ret => exact hp.elim
      | exit id => exact hp.elim
      | goto t => exact hp.elim
      | panic ch => exact hp.elim
      | outgrown => exact hp.elim
    · rintro e W2 ⟨⟨v, rfl⟩, hi, hl, hk⟩
      have hr := run_endLoop (P := P) hl (by simp [rec_])
      exact ⟨none, _, hr, hdone _ (hP _ W2 _ _ _ hi (by omega) hl rfl) ((World.putObj_heap_other (by omega)).trans hk)⟩
end
end Go.Proofs.YtepjcfhkbcchmaaDoor
