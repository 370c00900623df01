/- Paths, in plain words: names between slashes. No program in sight. -/
import Derived.Test.YtepjcfhkbcchmaaDoorPathP
import Derived.Test.YtepjcfhkbcchmaaDoorStrL
namespace Go.Proofs.YtepjcfhkbcchmaaDoor.PathM
set_option linter.unusedSimpArgs false
set_option linter.unusedVariables false
open Go Go.RowKit Go.Proofs.YtepjcfhkbcchmaaDoor

abbrev lst (s : ByteArray) : List UInt8 := s.data.toList
def mkB (l : List UInt8) : ByteArray := ⟨l.toArray⟩
theorem lst_mk (l : List UInt8) : lst (mkB l) = l := rfl
theorem mk_lst (s : ByteArray) : mkB (lst s) = s := by obtain ⟨⟨l⟩⟩ := s; rfl
theorem mk_inj {a b : List UInt8} (h : mkB a = mkB b) : a = b := congrArg lst h
theorem lst_inj {a b : ByteArray} (h : lst a = lst b) : a = b := by rw [← mk_lst a, h, mk_lst]
theorem tl (s : ByteArray) : s.toList = lst s := Lib.toList_data s
theorem sz (s : ByteArray) : s.size = (lst s).length := Lib.size_eq s
theorem mk_app (a b : List UInt8) : mkB a ++ mkB b = mkB (a ++ b) := by
  apply lst_inj
  simp [mkB]
theorem lst_app (a b : ByteArray) : lst (a ++ b) = lst a ++ lst b := by simp
def fine : List UInt8 := [97, 98, 99, 100, 101, 102, 103, 104, 105, 106, 107, 108, 109, 110, 111, 112, 113, 114, 115, 116, 117, 118, 119, 120, 121, 122, 48, 49, 50, 51, 52, 53, 54, 55, 56, 57, 46, 95, 45]
def okI (n : Nat) : Bool := decide (97 ≤ n ∧ n ≤ 122) || decide (48 ≤ n ∧ n ≤ 57) || decide (n = 46) || decide (n = 95) || decide (n = 45)
set_option maxRecDepth 100000 in
theorem fine_fin : ∀ n : Fin 256, fine.contains (UInt8.ofNat n.val) = okI n.val := by decide +kernel
theorem fine_ok (c : UInt8) : fine.contains c = okI c.toNat := by
  have := fine_fin ⟨c.toNat, c.toNat_lt⟩
  simpa using this
/-- What is wrong with a name. -/
def chkN (l : List UInt8) : Option Int := if l = [] then some 2 else if 16 < l.length then some 36 else if (l.all fun c => fine.contains c) = true then none else some 22
def chkL (ns : List (List UInt8)) : Option Int := if 8 < ns.length then some 90 else ns.findSome? chkN
theorem chkN_ne (l : List UInt8) : chkN l ≠ some 0 := by
  unfold chkN
  split
  · decide
  · split
    · decide
    · split <;> decide
theorem chkN_none {l : List UInt8} (h : chkN l = none) : l ≠ [] ∧ l.length ≤ 16 ∧ ∀ c ∈ l, c ≠ 47 := by
  unfold chkN at h
  split at h
  · cases h
  · rename_i h1
    split at h
    · cases h
    · rename_i h2
      split at h
      · rename_i h3
        refine ⟨h1, by omega, fun c hc e => ?_⟩
        have := List.all_eq_true.1 h3 c hc
        rw [e] at this
        exact absurd this (by decide)
      · cases h
theorem chkL_none {ns : List (List UInt8)} : chkL ns = none ↔ ns.length ≤ 8 ∧ ∀ n ∈ ns, chkN n = none := by
  unfold chkL
  by_cases h : 8 < ns.length
  · rw [if_pos h]
    exact ⟨fun e => (by cases e), fun e => (by omega)⟩
  · rw [if_neg h, List.findSome?_eq_none_iff]
    exact ⟨fun e => ⟨by omega, e⟩, fun e => e.2⟩
def names (l : List UInt8) : List (List UInt8) := (pieces 47 l).filter fun x => decide (x ≠ [])
theorem partsB_eq (s : ByteArray) : partsB s = (names (lst s)).map mkB := by
  unfold partsB piecesB names
  rw [List.filter_map]
  rfl
theorem pieces_app (c : UInt8) (b : List UInt8) : ∀ a, pieces c (a ++ c :: b) = pieces c a ++ pieces c b
  | [] => by rw [List.nil_append, pieces_cons, if_pos rfl]; rfl
  | x :: a => by
    rw [List.cons_append, pieces_cons, pieces_cons, pieces_app c b a]
    by_cases h : x = c
    · rw [if_pos h, if_pos h]
      rfl
    · rw [if_neg h, if_neg h]
      cases e : pieces c a with
      | nil => exact absurd e (pieces_ne c a)
      | cons p q => rfl
theorem pieces_none (c : UInt8) : ∀ l, (∀ x ∈ l, x ≠ c) → pieces c l = [l]
  | [], _ => rfl
  | x :: l, h => by
    rw [pieces_cons, if_neg (h x List.mem_cons_self), pieces_none c l (fun y hy => h y (List.mem_cons_of_mem _ hy))]
theorem pieces_no (c : UInt8) : ∀ l, ∀ x ∈ pieces c l, ∀ y ∈ x, y ≠ c
  | [], x, hx, y, hy => by
    rw [show pieces c [] = [[]] from rfl, List.mem_singleton] at hx
    rw [hx] at hy
    cases hy
  | b :: l, x, hx, y, hy => by
    rw [pieces_cons] at hx
    by_cases h : b = c
    · rw [if_pos h] at hx
      rcases List.mem_cons.1 hx with rfl | m
      · cases hy
      · exact pieces_no c l x m y hy
    · rw [if_neg h] at hx
      have ih := pieces_no c l
      cases e : pieces c l with
      | nil => exact absurd e (pieces_ne c l)
      | cons p q =>
        rw [e] at hx ih
        rcases List.mem_cons.1 hx with rfl | m
        · rcases List.mem_cons.1 hy with rfl | m'
          · exact h
          · exact ih p List.mem_cons_self y m'
        · exact ih x (List.mem_cons_of_mem _ m) y hy
theorem names_app (a b : List UInt8) : names (a ++ 47 :: b) = names a ++ names b := by unfold names; rw [pieces_app, List.filter_append]
theorem names_nil : names [] = [] := rfl
theorem names_slash (r : List UInt8) : names (47 :: r) = names r := names_app [] r
theorem names_end (a : List UInt8) : names (a ++ [47]) = names a := by rw [names_app, names_nil, List.append_nil]
theorem names_word {l : List UInt8} (h : ∀ x ∈ l, x ≠ 47) (hn : l ≠ []) : names l = [l] := by
  unfold names
  rw [pieces_none 47 l h, List.filter_cons_of_pos (by simpa using hn), List.filter_nil]
theorem names_slashes (n : Nat) : names (List.replicate n 47) = [] := by
  induction n with
  | zero => rfl
  | succ n ih => rw [List.replicate_succ, names_slash, ih]
theorem names_ends (a : List UInt8) : ∀ n, names (a ++ List.replicate n 47) = names a
  | 0 => by rw [List.replicate_zero, List.append_nil]
  | n + 1 => by rw [List.replicate_succ, names_app, names_slashes, List.append_nil]
theorem names_mem {l : List UInt8} {x : List UInt8} (h : x ∈ names l) : x ≠ [] ∧ ∀ c ∈ x, c ≠ 47 := by
  unfold names at h
  obtain ⟨h1, h2⟩ := List.mem_filter.1 h
  exact ⟨of_decide_eq_true h2, pieces_no 47 l x h1⟩
theorem names_len (l : List UInt8) : (names l).length ≤ l.length + 1 := by
  have h := piecesB_len (mkB l)
  unfold piecesB at h
  rw [List.length_map, sz, lst_mk] at h
  exact Nat.le_trans (List.length_filter_le _ _) h
/-- Where each name begins. -/
def offs : List UInt8 → Nat → Bool → List Nat
  | [], _, _ => []
  | c :: r, i, inn => if c = 47 then offs r (i + 1) false else if inn = true then offs r (i + 1) true else i :: offs r (i + 1) true
theorem offs_cons (c : UInt8) (r : List UInt8) (i : Nat) (inn : Bool) : offs (c :: r) i inn = if c = 47 then offs r (i + 1) false else if inn = true then offs r (i + 1) true else i :: offs r (i + 1) true := rfl
theorem offs_app (b : List UInt8) : ∀ (a : List UInt8) (i : Nat) (f : Bool), offs (a ++ 47 :: b) i f = offs a i f ++ offs b (i + a.length + 1) false
  | [], i, f => by rw [List.nil_append, offs_cons, if_pos rfl]; rfl
  | x :: a, i, f => by
    rw [List.cons_append, offs_cons, offs_cons]
    have e : i + (x :: a).length + 1 = i + 1 + a.length + 1 := by rw [List.length_cons]; omega
    rw [e]
    by_cases h : x = 47
    · rw [if_pos h, if_pos h, offs_app b a]
    · rw [if_neg h, if_neg h]
      cases f with
      | true => rw [if_pos rfl, if_pos rfl, offs_app b a]
      | false => rw [if_neg (by decide), if_neg (by decide), offs_app b a, List.cons_append]
theorem offs_in : ∀ (l : List UInt8) (i : Nat), (∀ x ∈ l, x ≠ 47) → offs l i true = []
  | [], _, _ => rfl
  | x :: l, i, h => by rw [offs, if_neg (h x List.mem_cons_self), if_pos rfl, offs_in l (i + 1) (fun y hy => h y (List.mem_cons_of_mem _ hy))]
theorem offs_word {l : List UInt8} (h : ∀ x ∈ l, x ≠ 47) (hn : l ≠ []) (i : Nat) : offs l i false = [i] := by
  cases l with
  | nil => exact absurd rfl hn
  | cons x l => rw [offs, if_neg (h x List.mem_cons_self), if_neg (by decide), offs_in l _ (fun y hy => h y (List.mem_cons_of_mem _ hy))]
theorem offs_slashes : ∀ (n i : Nat), offs (List.replicate n 47) i false = []
  | 0, _ => rfl
  | n + 1, i => by rw [List.replicate_succ, offs, if_pos rfl, offs_slashes n]
theorem offs_len : ∀ (l : List UInt8) (i : Nat), (offs l i false).length = (names l).length ∧ ∀ p q, pieces 47 l = p :: q → (offs l i true).length = (q.filter fun x => decide (x ≠ [])).length
  | [], i => ⟨rfl, fun p q h => by
    rw [show pieces 47 [] = [[]] from rfl] at h
    rw [← (List.cons.inj h).2]
    rfl⟩
  | c :: r, i => by
    obtain ⟨h1, h2⟩ := offs_len r (i + 1)
    by_cases h : c = 47
    · subst h
      refine ⟨?_, fun p q hp => ?_⟩
      · rw [names_slash, offs, if_pos rfl, h1]
      · rw [pieces_cons, if_pos rfl] at hp
        rw [offs, if_pos rfl, h1, ← (List.cons.inj hp).2]
        rfl
    · cases e : pieces 47 r with
      | nil => exact absurd e (pieces_ne 47 r)
      | cons p q =>
        have h3 := h2 p q e
        have e2 : pieces 47 (c :: r) = (c :: p) :: q := by rw [pieces_cons, if_neg h, e]
        refine ⟨?_, fun p' q' hp => ?_⟩
        · rw [offs, if_neg h, if_neg (by decide), List.length_cons, h3]
          unfold names
          rw [e2, List.filter_cons_of_pos (by simp), List.length_cons]
        · rw [e2] at hp
          rw [offs, if_neg h, if_pos rfl, h3, (List.cons.inj hp).2]
/-- A path's last name, what stands ahead of it, the slashes behind it. -/
theorem cut_last {l : List UInt8} (h : names l ≠ []) : ∃ pre nm n, l = pre ++ nm ++ List.replicate n 47 ∧ nm ≠ [] ∧ (∀ c ∈ nm, c ≠ 47) ∧ (pre = [] ∨ ∃ p, pre = p ++ [47]) := by
  obtain ⟨t, n, rfl, ht⟩ : ∃ t n, l = t ++ List.replicate n 47 ∧ ∀ c, t.getLast? = some c → c ≠ 47 := by
    clear h
    have key : ∀ m : List UInt8, ∃ t n, m.reverse = t ++ List.replicate n 47 ∧ ∀ c, t.getLast? = some c → c ≠ 47 := by
      intro m
      induction m with
      | nil => exact ⟨[], 0, rfl, fun c h => (by cases h)⟩
      | cons x m ih =>
        by_cases hx : x = 47
        · obtain ⟨t, n, e, ht⟩ := ih
          refine ⟨t, n + 1, ?_, ht⟩
          rw [List.reverse_cons, e, hx, List.append_assoc, ← List.replicate_succ']
        · refine ⟨m.reverse ++ [x], 0, by rw [List.reverse_cons, List.replicate_zero, List.append_nil], fun c hc => ?_⟩
          rw [List.getLast?_append] at hc
          have : x = c := by simpa using hc
          rw [← this]; exact hx
    have := key l.reverse
    rwa [List.reverse_reverse] at this
  rw [names_ends] at h
  obtain ⟨pre, nm, rfl, hnm, hpre⟩ : ∃ pre nm, t = pre ++ nm ∧ (∀ c ∈ nm, c ≠ 47) ∧ (pre = [] ∨ ∃ p, pre = p ++ [47]) := by
    clear h ht
    have key : ∀ m : List UInt8, ∃ pre nm, m.reverse = pre ++ nm ∧ (∀ c ∈ nm, c ≠ 47) ∧ (pre = [] ∨ ∃ p, pre = p ++ [47]) := by
      intro m
      induction m with
      | nil => exact ⟨[], [], rfl, fun c h => (by cases h), .inl rfl⟩
      | cons x m ih =>
        by_cases hx : x = 47
        · exact ⟨m.reverse ++ [x], [], by rw [List.reverse_cons, List.append_nil], fun c h => (by cases h), .inr ⟨m.reverse, by rw [hx]⟩⟩
        · obtain ⟨pre, nm, e, hnm, hpre⟩ := ih
          refine ⟨pre, nm ++ [x], by rw [List.reverse_cons, e, List.append_assoc], fun c hc => ?_, hpre⟩
          rcases List.mem_append.1 hc with m' | m'
          · exact hnm c m'
          · rw [List.mem_singleton.1 m']; exact hx
    have := key t.reverse
    rwa [List.reverse_reverse] at this
  refine ⟨pre, nm, n, rfl, fun e => ?_, hnm, hpre⟩
  subst e
  rw [List.append_nil] at h ht
  rcases hpre with rfl | ⟨p, rfl⟩
  · exact h names_nil
  · exact ht 47 (by simp) rfl
theorem names_cut (pre nm : List UInt8) (n : Nat) (h1 : nm ≠ []) (h2 : ∀ c ∈ nm, c ≠ 47) (h3 : pre = [] ∨ ∃ p, pre = p ++ [47]) : names (pre ++ nm ++ List.replicate n 47) = names pre ++ [nm] := by
  rw [names_ends]
  rcases h3 with rfl | ⟨p, rfl⟩
  · rw [List.nil_append, names_word h2 h1]; rfl
  · rw [List.append_assoc, show [47] ++ nm = 47 :: nm from rfl, names_app, names_word h2 h1, names_end]
theorem offs_ends (a : List UInt8) (i : Nat) : ∀ n, offs (a ++ List.replicate n 47) i false = offs a i false
  | 0 => by rw [List.replicate_zero, List.append_nil]
  | n + 1 => by rw [List.replicate_succ, offs_app, offs_slashes, List.append_nil]
theorem offs_cut (pre nm : List UInt8) (n : Nat) (h1 : nm ≠ []) (h2 : ∀ c ∈ nm, c ≠ 47) (h3 : pre = [] ∨ ∃ p, pre = p ++ [47]) : offs (pre ++ nm ++ List.replicate n 47) 0 false = offs pre 0 false ++ [pre.length] := by
  rw [offs_ends]
  rcases h3 with rfl | ⟨p, rfl⟩
  · rw [List.nil_append, offs_word h2 h1]; rfl
  · rw [List.append_assoc, show [47] ++ nm = 47 :: nm from rfl, offs_app, offs_word h2 h1, offs_app, List.length_append]
    simp [offs]
theorem rtrim_cut (pre nm : List UInt8) (n : Nat) (h1 : nm ≠ []) (h2 : ∀ c ∈ nm, c ≠ 47) : Lib.trimRightS (pre ++ nm ++ List.replicate n 47) [47] = pre ++ nm := by
  unfold Lib.trimRightS
  rw [List.reverse_append, List.reverse_replicate]
  have e : ∀ n, List.dropWhile (fun c : UInt8 => [47].contains c) (List.replicate n 47 ++ (pre ++ nm).reverse) = (pre ++ nm).reverse := by
    intro n
    induction n with
    | zero =>
      rw [List.replicate_zero, List.nil_append, List.reverse_append]
      cases hr : nm.reverse with
      | nil => exact absurd (List.reverse_eq_nil_iff.1 hr) h1
      | cons x r =>
        have hx : x ≠ 47 := h2 x (List.mem_reverse.1 (by rw [hr]; exact List.mem_cons_self))
        rw [List.cons_append, List.dropWhile_cons_of_neg (by simpa using hx)]
    | succ n ih => rw [List.replicate_succ, List.cons_append, List.dropWhile_cons_of_pos (by decide)]; exact ih
  rw [e n, List.reverse_reverse]
theorem suffix_cut (pre nm : List UInt8) : Lib.trimSuffix (pre ++ nm) nm = pre := by
  unfold Lib.trimSuffix Lib.hasSuffix
  rw [if_pos (List.isSuffixOf_iff_suffix.2 (List.suffix_append _ _)), List.length_append, Nat.add_sub_cancel, List.take_left]
/-- Names laid behind each other. -/
theorem join_cons (x : List UInt8) : ∀ r : List (List UInt8), Lib.join (x :: r) [47] = x ++ (r.map (47 :: ·)).flatten
  | [] => by rw [Lib.join_one]; simp
  | y :: r => by
    have : Lib.join (x :: y :: r) [47] = x ++ [47] ++ Lib.join (y :: r) [47] := by simp [Lib.join, List.intercalate, List.intersperse]
    rw [this, join_cons y r]
    simp
theorem tail_names : ∀ r : List (List UInt8), (∀ n ∈ r, n ≠ [] ∧ ∀ c ∈ n, c ≠ 47) → ∀ a, names (a ++ (r.map (47 :: ·)).flatten) = names a ++ r
  | [], _, a => by simp
  | y :: r, h, a => by
    rw [List.map_cons, List.flatten_cons, List.cons_append, names_app, tail_names r (fun n hn => h n (List.mem_cons_of_mem _ hn)) y, names_word (h y List.mem_cons_self).2 (h y List.mem_cons_self).1]
    rfl
theorem join_names (ns : List (List UInt8)) (h : ∀ n ∈ ns, n ≠ [] ∧ ∀ c ∈ n, c ≠ 47) : names (47 :: Lib.join ns [47]) = ns := by
  rw [names_slash]
  cases ns with
  | nil => rfl
  | cons x r =>
    rw [join_cons, tail_names r (fun n hn => h n (List.mem_cons_of_mem _ hn)), names_word (h x List.mem_cons_self).2 (h x List.mem_cons_self).1]
    rfl
theorem join_len : ∀ ns : List (List UInt8), (∀ n ∈ ns, n.length ≤ 16) → (Lib.join ns [47]).length ≤ ns.length * 17
  | [], _ => by simp [Lib.join_nil]
  | [x], h => by
    rw [Lib.join_one]
    have := h x List.mem_cons_self
    simp; omega
  | x :: y :: r, h => by
    have e : Lib.join (x :: y :: r) [47] = x ++ [47] ++ Lib.join (y :: r) [47] := by simp [Lib.join, List.intercalate, List.intersperse]
    have h1 := h x List.mem_cons_self
    have h2 := join_len (y :: r) (fun n hn => h n (List.mem_cons_of_mem _ hn))
    rw [e]
    simp only [List.length_append, List.length_cons, List.length_nil] at h2 ⊢
    omega
end Go.Proofs.YtepjcfhkbcchmaaDoor.PathM
