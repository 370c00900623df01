/- strings.SplitSeq at a slash, walked: the pieces, one by one. -/
import Derived.Test.YtepjcfhkbcchmaaDoorEachS
import Derived.Test.YtepjcfhkbcchmaaDoorLayPath
import Derived.Shelf.Strings.Search3
import Derived.RangeFuncNested
import Derived.RangeFuncBound
import Derived.RangeFuncCalls
import Derived.RangeFuncLeaves
import Derived.Shelf.RegionOpen
import Derived.OwnWalkIn
import Derived.TacticsInMore
import Derived.LoopNIn
import Derived.LoopIn
import Derived.Lib.Hide
namespace Go.Proofs.YtepjcfhkbcchmaaDoor
set_option linter.unusedSimpArgs false
set_option linter.unusedVariables false
open Go Go.RowKit Go.Shelf Go.Proofs.YtepjcfhkbcchmaaDoorW.PrintWords Go.Proofs.YtepjcfhkbcchmaaDoor.RowK
attribute [local go_sem] Oper.semAt_some

theorem strIndex (s : ByteArray) (c : UInt8) (w : World) : Calls Tryd.prog 147 #[.string s, .string ⟨#[c]⟩] w fun e w' => e = .returned (.int .i64 (Lib.indexByte s.data.toList c)) ∧ w' = w := Any.strings_Index_one Tryd.strIndex s c w
/-- What stands between the bytes c. -/
def pieces (c : UInt8) : List UInt8 → List (List UInt8)
  | [] => [[]]
  | b :: r => if b = c then [] :: pieces c r else match pieces c r with
    | [] => [[b]]
    | p :: q => (b :: p) :: q
theorem pieces_ne (c : UInt8) : ∀ l, pieces c l ≠ []
  | [] => by simp [pieces]
  | b :: r => by
    unfold pieces
    split
    · simp
    · split <;> simp
theorem pieces_cons (c b : UInt8) (r : List UInt8) : pieces c (b :: r) = if b = c then [] :: pieces c r else match pieces c r with | [] => [[b]] | p :: q => (b :: p) :: q := rfl
theorem index_cons (b c : UInt8) (l : List UInt8) : Lib.indexByte (b :: l) c = if b == c then 0 else if Lib.indexByte l c == -1 then -1 else Lib.indexByte l c + 1 := rfl
theorem pieces_index (c : UInt8) : ∀ l, (Lib.indexByte l c = -1 ∧ pieces c l = [l]) ∨ ∃ i : Nat, Lib.indexByte l c = (i : Int) ∧ i < l.length ∧ pieces c l = l.take i :: pieces c (l.drop (i + 1))
  | [] => .inl ⟨rfl, rfl⟩
  | b :: r => by
    rw [index_cons, pieces_cons]
    by_cases h : b = c
    · right
      refine ⟨0, ?_, by simp, ?_⟩
      · rw [if_pos (by simpa using h)]; rfl
      · rw [if_pos h]; rfl
    · have hb : ¬ (b == c) = true := by simpa using h
      rw [if_neg hb, if_neg h]
      rcases pieces_index c r with ⟨h1, h2⟩ | ⟨i, h1, h2, h3⟩
      · left
        rw [h1, h2]
        exact ⟨by decide, rfl⟩
      · right
        refine ⟨i + 1, ?_, by simp only [List.length_cons]; omega, ?_⟩
        · rw [h1, if_neg (by first | (simp; done) | (simp; omega))]
          first | rfl | omega
        · rw [h3]
          rfl
def piecesB (s : ByteArray) : List ByteArray := (pieces 47 s.data.toList).map fun l => ⟨l.toArray⟩
theorem cutB (s : ByteArray) (i : Nat) : s.extract 0 i = ⟨(s.data.toList.take i).toArray⟩ := by
  obtain ⟨⟨l⟩⟩ := s
  rw [ByteArray.extract_mk]
  simp
theorem tailB (s : ByteArray) (i : Nat) : s.extract i s.size = ⟨(s.data.toList.drop i).toArray⟩ := by
  obtain ⟨⟨l⟩⟩ := s
  rw [ByteArray.extract_mk, Lib.size_eq]
  simp
  exact List.take_of_length_le (by rw [List.length_drop]; exact Nat.le_refl _)
theorem piecesB_index (s : ByteArray) : (Lib.indexByte s.data.toList 47 = -1 ∧ piecesB s = [s]) ∨ ∃ i : Nat, Lib.indexByte s.data.toList 47 = (i : Int) ∧ i < s.size ∧ piecesB s = s.extract 0 i :: piecesB (s.extract (i + 1) s.size) := by
  unfold piecesB
  rcases pieces_index 47 s.data.toList with ⟨h1, h2⟩ | ⟨i, h1, h2, h3⟩
  · left
    rw [h2]
    exact ⟨h1, rfl⟩
  · right
    refine ⟨i, h1, by rw [Lib.size_eq]; exact h2, ?_⟩
    rw [h3, cutB, tailB]
    rfl
def szAt (W : World) (b : Nat) : Nat := match W.cell? ⟨b, 0, none⟩ with | some (.string s) => s.size | _ => 0
theorem szAt_of {W : World} {b : Nat} {s : ByteArray} (h : W.heap[b]? = some (.cells #[.string s] 9 (0, 0))) : szAt W b = s.size := by
  unfold szAt
  rw [cell_of_row _ _ _ _ _ _ h]
  rfl
def Sbox (W : World) (b : Nat) (s : ByteArray) : Prop := W.heap[b]? = some (.cells #[.string s] 9 (0, 0))
def encB (x : ByteArray) : Array Value := #[.string x]
set_option maxHeartbeats 4000000 in
set_option maxRecDepth 100000 in
theorem split_each (n : Nat) (hn : 2 ≤ n) (bs bp b0 : Nat) (h1 : bs ≠ bp) (h2 : bs ≠ b0) (s : ByteArray) (hs : s.size ≤ 4611686018427387904) :
    EachS Fence.wide n Tryd.prog 146 #[.pointer (some ⟨bp, 0, none⟩), .pointer (some ⟨bs, 0, none⟩), .pointer (some ⟨b0, 0, none⟩)] encB (piecesB s) (fun b => b = bs ∨ b = bp ∨ b = b0)
      (fun W => Sbox W bs s ∧ Sbox W bp ⟨#[47]⟩ ∧ W.heap[b0]? = some (.cells #[.int .i64 0] 3 (0, 0))) := by
  intro l J W1 hJb hJs hY h0 hT
  have hn1 : 1 ≤ n := by omega
  obtain ⟨T1, T2, T3⟩ := hT
  have c2 : W1.cell? ⟨bp, 0, none⟩ = some (.string ⟨#[47]⟩) := (cell_of_row _ _ _ _ _ _ T2).trans rfl
  have HY := Lib.hid hY
  have HB := Lib.hid hJb
  have HS := Lib.hid hJs
  have HT := Lib.hid (And.intro T1 (And.intro T2 T3))
  have H0 := Lib.hid h0
  clear hJb hJs hY h0 T1 T2 T3
  refine callsIn_of_wp Tryd.func146 rfl trivial ?_ rfl
  simp only [Tryd.ntmps146, List.size_toArray, List.length_cons, List.length_nil, Nat.reduceAdd, Nat.reduceSub, Array.replicate_succ, Array.replicate_zero, List.push_toArray, List.append_toArray, List.nil_append, List.cons_append]
  gi_wp2
  gi_loopw [7] (fun s7 wr => ∃ (pre : List ByteArray) (rest : ByteArray), Aside (piecesB s = pre ++ piecesB rest ∧ rest.size ≤ s.size ∧ Sbox wr bs rest ∧ Sbox wr bp ⟨#[47]⟩ ∧ wr.heap[b0]? = some (.cells #[.int .i64 0] 3 (0, 0)) ∧ J pre wr)) (fun _ wr => szAt wr bs)
  case atStart => exact ⟨[], s, rfl, Nat.le_refl _, HT.out.1, HT.out.2.1, HT.out.2.2, H0.out⟩
  case round =>
    obtain ⟨pre, rest, R⟩ := hrel
    clear c2
    have c1 : wr.cell? ⟨bs, 0, none⟩ = some (.string rest) := (cell_of_row _ _ _ _ _ _ R.out.2.2.1).trans rfl
    have c2 : wr.cell? ⟨bp, 0, none⟩ = some (.string ⟨#[47]⟩) := (cell_of_row _ _ _ _ _ _ R.out.2.2.2.1).trans rfl
    have c3 : wr.cell? ⟨b0, 0, none⟩ = some (.int .i64 0) := (cell_of_row _ _ _ _ _ _ R.out.2.2.2.2.1).trans rfl
    rcases piecesB_index rest with ⟨hix, hp⟩ | ⟨i, hix, hi, hp⟩
    · have HP := Lib.hid hp
      clear hp
      have hpre : pre ++ [rest] = piecesB s := by rw [R.out.1, HP.out]
      obtain ⟨fn, tmps, assign, body, hy, hR⟩ := HY.out pre rest wr R.out.2.2.2.2.2 (by rw [hpre]; exact List.prefix_refl _)
      simp only [encB] at hy
      have HPRE := Lib.hid hpre
      clear hpre
      gi_wp2_with fail
      refine ⟨trivial, ?_⟩
      gi_at_call 147
      refine (callsIn_wide.2 (strIndex rest 47 wr)).mono ?_
      rintro e w2 ⟨rfl, rfl⟩
      rw [hix]
      gi_wp2
      refine hR.mono ?_
      rintro e W3 ⟨rfl, hJ3, _⟩
      rw [HPRE.out] at hJ3
      have J3 := Lib.hid hJ3
      clear hJ3
      gi_wp2
      go_end0
      exact ⟨⟨_, rfl⟩, J3.out⟩
    · have HP := Lib.hid hp
      clear hp
      have hpre : (pre ++ [rest.extract 0 i]) ++ piecesB (rest.extract (i + 1) rest.size) = piecesB s := by rw [R.out.1, HP.out, List.append_assoc]; rfl
      obtain ⟨fn, tmps, assign, body, hy, hR⟩ := HY.out pre (rest.extract 0 i) wr R.out.2.2.2.2.2 (by rw [← hpre]; exact List.prefix_append _ _)
      simp only [encB] at hy
      have HPRE := Lib.hid hpre
      have hsz : (rest.extract (i + 1) rest.size).size + 1 ≤ rest.size := by rw [ByteArray.size_extract]; omega
      have HSZ := Lib.hid hsz
      have d0 : ¬ ((i : Int) < 0) := by omega
      have d1 : (i : Int) ≤ (rest.size : Int) := by omega
      have d2 : (0 : Int) ≤ (i : Int) + 1 := by omega
      have d3 : (i : Int) + 1 ≤ (rest.size : Int) := by omega
      have hrs := R.out.2.1
      clear hpre hsz
      gi_wp2_with fail
      refine ⟨trivial, ?_⟩
      gi_at_call 147
      refine (callsIn_wide.2 (strIndex rest 47 wr)).mono ?_
      rintro e w2 ⟨rfl, rfl⟩
      rw [hix]
      gi_wp2
      refine hR.mono ?_
      rintro e W3 ⟨rfl, hJ3, hK3⟩
      have J3 := Lib.hid hJ3
      have B1 := Lib.hid (show Sbox W3 bs rest from (hK3 bs (.inl rfl)).trans R.out.2.2.1)
      have B2 := Lib.hid (show Sbox W3 bp ⟨#[47]⟩ from (hK3 bp (.inr (.inl rfl))).trans R.out.2.2.2.1)
      have B3 := Lib.hid (show W3.heap[b0]? = some (.cells #[.int .i64 0] 3 (0, 0)) from (hK3 b0 (.inr (.inr rfl))).trans R.out.2.2.2.2.1)
      clear hJ3 hK3 c1 c2 c3
      have c1 : W3.cell? ⟨bs, 0, none⟩ = some (.string rest) := (cell_of_row _ _ _ _ _ _ B1.out).trans rfl
      have c2 : W3.cell? ⟨bp, 0, none⟩ = some (.string ⟨#[47]⟩) := (cell_of_row _ _ _ _ _ _ B2.out).trans rfl
      have f1 : W3.frozen? ⟨bs, 0, none⟩ = false := frozen_of_row _ _ _ _ _ B1.out
      gi_wp2
      refine ⟨⟨pre ++ [rest.extract 0 i], rest.extract (i + 1) rest.size, HPRE.out.symm, by have := HSZ.out; omega, (heap_setCell_same _ _ _ _ _ _ B1.out).trans rfl, (Below.heap_setCell _ ⟨bs, 0, none⟩ _ bp (fun e => h1 e.symm)).trans B2.out, (Below.heap_setCell _ ⟨bs, 0, none⟩ _ b0 (fun e => h2 e.symm)).trans B3.out, HS.out _ _ bs _ (.inl rfl) J3.out⟩, ?_⟩
      rw [szAt_of ((heap_setCell_same _ _ _ _ _ _ B1.out).trans rfl), szAt_of R.out.2.2.1]
      have := HSZ.out
      omega
set_option maxHeartbeats 1000000 in
set_option maxRecDepth 100000 in
theorem split_seq (s sep : ByteArray) (w : World) :
    Calls Tryd.prog 97 #[.string s, .string sep] w fun e w' => e = .returned (.func (.func 146) #[] #[.pointer (some ⟨w.heap.size + 1, 0, none⟩), .pointer (some ⟨w.heap.size, 0, none⟩), .pointer (some ⟨w.heap.size + 2, 0, none⟩)])
      ∧ w' = ((w.alloc (.cells #[.string s] 9 (0, 0))).alloc (.cells #[.string sep] 9 (0, 0))).alloc (.cells #[.int .i64 0] 3 (0, 0)) := by
  go_enter Tryd.func97, Tryd.ntmps97
  go_wp2
  go_ret
  exact ⟨rfl, rfl⟩
end Go.Proofs.YtepjcfhkbcchmaaDoor
