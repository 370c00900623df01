/- Paths: what the functions of the program and of the document answer. No program in sight. -/
import Derived.Test.YtepjcfhkbcchmaaDoorPathM
import Derived.Test.YtepjcfhkbcchmaaDoorXPathx
namespace Go.Proofs.YtepjcfhkbcchmaaDoor.PathM
set_option linter.unusedSimpArgs false
set_option linter.unusedVariables false
open Go Go.RowKit Go.Proofs.YtepjcfhkbcchmaaDoor Go.Proofs.YtepjcfhkbcchmaaDoor.XPath Go.Proofs.YtepjcfhkbcchmaaDoorW.PrintWords

theorem w1 {j : Nat} (h : j ≤ 1000000000) : wrap64 ((j : Int) + 1) = ((j + 1 : Nat) : Int) := by unfold wrap64; omega
theorem wm {j : Nat} (h : j ≤ 1000000000) (h1 : 1 ≤ j) : wrap64 ((j : Int) - 1) = ((j - 1 : Nat) : Int) := by unfold wrap64; omega
theorem dw_nil (p : UInt8 → Bool) : ∀ l : List UInt8, l.dropWhile p = [] ↔ l.all p = true
  | [] => by simp
  | c :: r => by
    cases h : p c with
    | true => rw [List.dropWhile_cons_of_pos h, dw_nil p r, List.all_cons, h, Bool.true_and]
    | false => rw [List.dropWhile_cons_of_neg (by rw [h]; decide), List.all_cons, h, Bool.false_and]; simp
theorem n47 {c : UInt8} (h : c ≠ 47) : ¬ ((c.toNat : Int) = 47) := fun e => h (UInt8.toNat_inj.1 (show c.toNat = 47 by omega))
theorem Check_ev (s : ByteArray) : path_Check.f s = some (chkN (lst s)) := by
  unfold path_Check.f chkN strings_TrimLeft.f
  rw [tl, sz]
  by_cases h : lst s = []
  · rw [if_pos h, if_pos h]
  · rw [if_neg h, if_neg h]
    by_cases h2 : 16 < (lst s).length
    · rw [if_pos (by omega), if_pos h2]
    · rw [if_neg (by omega), if_neg h2, if_pos (by decide), Option.bind_some, tl]
      have e : (lst (mkB (Lib.trimLeftS (lst s) fine)) = []) ↔ ((lst s).all fun c => fine.contains c) = true := by
        rw [lst_mk]
        unfold Lib.trimLeftS
        rw [dw_nil]
      by_cases h3 : ((lst s).all fun c => fine.contains c) = true
      · rw [if_pos h3]
        exact if_pos (e.2 h3)
      · rw [if_neg h3]
        exact if_neg (fun a => h3 (e.1 a))
theorem bt_lst (s : ByteArray) (i : Nat) (h : i < (lst s).length) : bt s (i : Int) = (((lst s)[i]).toNat : Int) := by
  unfold bt
  rw [Int.toNat_natCast]
  rw [dif_pos (by rw [sz]; exact h)]
  rfl
theorem rdB (l : List ByteArray) {j : Nat} (h : j < l.length) : rdOf ByteArray.empty l (j : Int) = l[j] := by
  unfold rdOf
  rw [Int.toNat_natCast, List.getD_eq_getElem?_getD, List.getElem?_eq_getElem h]
  rfl
theorem refCheck_l0 (s : ByteArray) (hs : (lst s).length ≤ 1000000) : ∀ (d i k : Nat), i + d = (lst s).length → d < k → halterref16_Check.l0 k s (i : Int) = some (if (((lst s).drop i).all fun c => fine.contains c) = true then 0 else 22)
  | 0, i, k, hi, hk => by
    obtain ⟨n, rfl⟩ : ∃ n, k = n + 1 := ⟨k - 1, by omega⟩
    rw [halterref16_Check.l0, if_neg (by rw [sz]; omega), List.drop_eq_nil_of_le (by omega)]
    rfl
  | d + 1, i, k, hi, hk => by
    obtain ⟨n, rfl⟩ : ∃ n, k = n + 1 := ⟨k - 1, by omega⟩
    have hil : i < (lst s).length := by omega
    have ih := refCheck_l0 s hs d (i + 1) n (by omega) (by omega)
    rw [halterref16_Check.l0, if_pos (by rw [sz]; omega), if_pos (by omega), bt_lst s i hil, w1 (by omega), ih, List.drop_eq_getElem_cons hil, List.all_cons, fine_ok]
    generalize ((lst s)[i]).toNat = c
    generalize ((lst s).drop (i + 1)).all (fun c => fine.contains c) = q
    unfold okI
    by_cases a1 : 97 ≤ c ∧ c ≤ 122
    · rw [if_pos (by omega), if_pos (by omega), decide_eq_true a1]
      simp
    · rw [decide_eq_false a1]
      have tailE : (if (48 : Int) ≤ (c : Int) then if (c : Int) ≤ 57 then some (if q = true then (0 : Int) else 22) else if (c : Int) = 46 then some (if q = true then 0 else 22) else if (c : Int) = 95 then some (if q = true then 0 else 22) else if (c : Int) = 45 then some (if q = true then 0 else 22) else some 22
          else if (c : Int) = 46 then some (if q = true then 0 else 22) else if (c : Int) = 95 then some (if q = true then 0 else 22) else if (c : Int) = 45 then some (if q = true then 0 else 22) else some 22)
          = some (if (((((false || decide (48 ≤ c ∧ c ≤ 57)) || decide (c = 46)) || decide (c = 95)) || decide (c = 45)) && q) = true then 0 else 22) := by
        have rest : (if (c : Int) = 46 then some (if q = true then (0 : Int) else 22) else if (c : Int) = 95 then some (if q = true then 0 else 22) else if (c : Int) = 45 then some (if q = true then 0 else 22) else some 22)
            = some (if ((((false || decide (c = 46)) || decide (c = 95)) || decide (c = 45)) && q) = true then 0 else 22) := by
          by_cases b1 : c = 46
          · rw [if_pos (by omega), decide_eq_true b1]; simp
          · rw [if_neg (by omega), decide_eq_false b1]
            by_cases b2 : c = 95
            · rw [if_pos (by omega), decide_eq_true b2]; simp
            · rw [if_neg (by omega), decide_eq_false b2]
              by_cases b3 : c = 45
              · rw [if_pos (by omega), decide_eq_true b3]; simp
              · rw [if_neg (by omega), decide_eq_false b3]; simp
        by_cases b0 : 48 ≤ c ∧ c ≤ 57
        · rw [if_pos (by omega), if_pos (by omega), decide_eq_true b0]; simp
        · rw [decide_eq_false b0, Bool.or_false]
          by_cases b4 : (48 : Int) ≤ (c : Int)
          · rw [if_pos b4, if_neg (by omega)]; exact rest
          · rw [if_neg b4]; exact rest
      by_cases a2 : (97 : Int) ≤ (c : Int)
      · rw [if_pos a2, if_neg (by omega)]
        exact tailE
      · rw [if_neg a2]
        exact tailE
theorem refCheck_ev (s : ByteArray) (k : Nat) (hk : 17 < k) : halterref16_Check.f k s = some ((chkN (lst s)).getD 0) := by
  unfold halterref16_Check.f chkN
  rw [tl, sz]
  by_cases h : lst s = []
  · rw [if_pos h, if_pos h]; rfl
  · rw [if_neg h, if_neg h]
    by_cases h2 : 16 < (lst s).length
    · rw [if_pos (by omega), if_pos h2]; rfl
    · rw [if_neg (by omega), if_neg h2]
      have := refCheck_l0 s (by omega) (lst s).length 0 k (Nat.zero_add _) (by omega)
      rw [List.drop_zero] at this
      refine this.trans ?_
      split <;> rfl
theorem check_l0 (l : List ByteArray) (hl : l.length ≤ 1000) : ∀ (d j k : Nat), j + d = l.length → d < k → path_check.l0 k l (l.length : Int) (j : Int) = some (((l.drop j).map lst).findSome? chkN)
  | 0, j, k, hj, hk => by
    obtain ⟨n, rfl⟩ : ∃ n, k = n + 1 := ⟨k - 1, by omega⟩
    rw [path_check.l0, if_neg (by omega), List.drop_eq_nil_of_le (by omega)]
    rfl
  | d + 1, j, k, hj, hk => by
    obtain ⟨n, rfl⟩ : ∃ n, k = n + 1 := ⟨k - 1, by omega⟩
    have hjl : j < l.length := by omega
    rw [path_check.l0, if_pos (by omega), if_pos (by omega), if_pos (by omega), rdB l hjl, Check_ev, Option.bind_some, w1 (by omega), check_l0 l hl d (j + 1) n (by omega) (by omega), List.drop_eq_getElem_cons hjl, List.map_cons, List.findSome?_cons]
    cases e : chkN (lst l[j]) with
    | none => rfl
    | some z => rfl
theorem check_ev (l : List ByteArray) (k : Nat) (hk : 10 < k) : path_check.f k l = some (chkL (l.map lst)) := by
  unfold path_check.f chkL
  rw [List.length_map]
  by_cases h : 8 < l.length
  · rw [if_pos (by omega), if_pos h]
  · rw [if_neg (by omega), if_neg h]
    exact check_l0 l (by omega) l.length 0 k (Nat.zero_add _) (by omega)
theorem checked_l0 (l : List ByteArray) (hl : l.length ≤ 1000) : ∀ (d j k : Nat), j + d = l.length → d + 18 < k → halterref16_checked.l0 k l (j : Int) = some ((((l.drop j).map lst).findSome? chkN).getD 0)
  | 0, j, k, hj, hk => by
    obtain ⟨n, rfl⟩ : ∃ n, k = n + 1 := ⟨k - 1, by omega⟩
    rw [halterref16_checked.l0, if_neg (by omega), List.drop_eq_nil_of_le (by omega)]
    rfl
  | d + 1, j, k, hj, hk => by
    obtain ⟨n, rfl⟩ : ∃ n, k = n + 1 := ⟨k - 1, by omega⟩
    have hjl : j < l.length := by omega
    rw [halterref16_checked.l0, if_pos (by omega), if_pos (by omega), rdB l hjl, refCheck_ev _ n (by omega), Option.bind_some, w1 (by omega), checked_l0 l hl d (j + 1) n (by omega) (by omega), List.drop_eq_getElem_cons hjl, List.map_cons, List.findSome?_cons]
    cases e : chkN (lst l[j]) with
    | none => rw [if_pos (show (none : Option Int).getD 0 = 0 from rfl)]
    | some z =>
      have : z ≠ 0 := fun hz => chkN_ne (lst l[j]) (by rw [e, hz])
      rw [if_neg (show ¬ (some z).getD 0 = 0 from this)]
theorem checked_ev (l : List ByteArray) (k : Nat) (hk : 30 < k) : halterref16_checked.f k l = some ((chkL (l.map lst)).getD 0) := by
  unfold halterref16_checked.f chkL
  rw [List.length_map]
  by_cases h : 8 < l.length
  · rw [if_pos (by omega), if_pos h]; rfl
  · rw [if_neg (by omega), if_neg h]
    exact checked_l0 l (by omega) l.length 0 k (Nat.zero_add _) (by omega)
theorem chkL_ne (ns : List (List UInt8)) : chkL ns ≠ some 0 := by
  unfold chkL
  split
  · decide
  · intro h
    obtain ⟨x, _, e⟩ := List.exists_of_findSome?_eq_some h
    exact chkN_ne x e
theorem map_lst_mk (ns : List (List UInt8)) : (ns.map mkB).map lst = ns := by rw [List.map_map]; exact List.map_id ns
/-- A path's names; is it from the root; what is wrong with it. -/
def splitA (l : List UInt8) : List (List UInt8) × Bool × Option Int := if l = [] then ([], false, some 2) else match chkL (names l) with | none => (names l, l.head? == some 47, none) | some e => ([], false, some e)
theorem hasPrefix_ev (s : ByteArray) : strings_HasPrefix.f s ⟨#[47]⟩ = some ((lst s).head? == some 47) := by
  unfold strings_HasPrefix.f stringslite_HasPrefix.f
  rw [sz, show (⟨#[47]⟩ : ByteArray).size = 1 from rfl]
  cases h : lst s with
  | nil => rw [if_neg (by simp)]; rfl
  | cons c r =>
    rw [if_pos (by rw [List.length_cons]; omega), if_pos (by decide), if_pos (by rw [List.length_cons]; omega)]
    have e : (s.extract 0 1).toList = [c] := by
      rw [tl, cutB]
      show List.take 1 (lst s) = [c]
      rw [h]; rfl
    rw [Option.bind_some]
    show some ((s.extract 0 1).toList == (⟨#[47]⟩ : ByteArray).toList) = _
    rw [e, tl]
    show some ([c] == [47]) = some (some c == some 47)
    congr 1
    by_cases hc : c = 47 <;> simp [hc]
theorem Split_ev (s : ByteArray) (hs : s.size ≤ 1000000) (k : Nat) (hk : 10 < k) : path_Split.f k s = some ((splitA (lst s)).1.map mkB, (splitA (lst s)).2.1, (splitA (lst s)).2.2) := by
  unfold path_Split.f splitA path_parts.f
  rw [tl]
  by_cases h : lst s = []
  · rw [if_pos h, if_pos h]; rfl
  · rw [if_neg h, if_neg h, if_pos (by omega), Option.bind_some, partsB_eq, check_ev _ k hk, map_lst_mk, Option.bind_some, hasPrefix_ev, Option.bind_some]
    cases chkL (names (lst s)) with
    | none => rfl
    | some e => rfl
theorem dropGet {l : List UInt8} {i : Nat} (h : i < l.length) : l.drop i = l[i] :: l.drop (i + 1) := List.drop_eq_getElem_cons h
theorem seg_no (l : List UInt8) (a i : Nat) (hi : i ≤ l.length) (h : ∀ j, a ≤ j → ∀ hj : j < l.length, j < i → l[j] ≠ 47) : ∀ x ∈ (l.drop a).take (i - a), x ≠ 47 := by
  intro x hx
  obtain ⟨j, hj, e⟩ := List.getElem_of_mem hx
  rw [List.length_take, List.length_drop] at hj
  rw [List.getElem_take, List.getElem_drop] at e
  rw [← e]
  exact h (a + j) (by omega) (by omega) (by omega)
theorem seg_ext (s : ByteArray) (a i : Nat) : s.extract a i = mkB (((lst s).drop a).take (i - a)) := by
  obtain ⟨⟨l⟩⟩ := s
  rw [ByteArray.extract_mk]
  simp [mkB]
theorem parts_l (s : ByteArray) (hs : (lst s).length ≤ 1000000) : ∀ (d i k : Nat) (out : List ByteArray) (ats : List Int), i + d = (lst s).length → 2 * d + 3 < k → out.length ≤ i → ats.length ≤ i →
    halterref16_parts.l0 k s out ats (i : Int) = some (out ++ (names ((lst s).drop i)).map mkB, ats ++ (offs ((lst s).drop i) i false).map fun n : Nat => (n : Int)) ∧
    ∀ a, a < (lst s).length → a ≤ i → (∀ j, a ≤ j → ∀ hj : j < (lst s).length, j < i → (lst s)[j] ≠ 47) → (i = a → ∀ hj : a < (lst s).length, (lst s)[a] ≠ 47) →
      halterref16_parts.l1 k s out ats (i : Int) (a : Int) = some (out ++ (names ((lst s).drop a)).map mkB, ats ++ (offs ((lst s).drop a) a false).map fun n : Nat => (n : Int))
  | 0, i, k, out, ats, hi, hk, ho, ha => by
    obtain ⟨n, rfl⟩ : ∃ n, k = n + 3 := ⟨k - 3, by omega⟩
    have hsz := sz s
    constructor
    · rw [halterref16_parts.l0, if_neg (by omega), List.drop_eq_nil_of_le (by omega), names_nil]
      simp [offs]
    · intro a hal hai hno hfirst
      have hai' : a < i := by omega
      have hnm : ∀ x ∈ (lst s).drop a, x ≠ 47 := by
        have := seg_no (lst s) a i (by omega) hno
        rwa [List.take_of_length_le (by rw [List.length_drop]; omega)] at this
      have hne : (lst s).drop a ≠ [] := fun e => by have := congrArg List.length e; rw [List.length_drop] at this; simp at this; omega
      rw [halterref16_parts.l1, if_neg (by omega), if_pos (by omega), if_pos (by omega), if_pos (by omega), if_pos (by omega), if_pos (by omega), w1 (by omega), halterref16_parts.l0, if_neg (by omega), Int.toNat_natCast, Int.toNat_natCast, seg_ext, List.take_of_length_le (by rw [List.length_drop]; omega), names_word hnm hne, offs_word hnm hne]
      rfl
  | d + 1, i, k, out, ats, hi, hk, ho, ha => by
    obtain ⟨n, rfl⟩ : ∃ n, k = n + 2 := ⟨k - 2, by omega⟩
    have hsz := sz s
    have hil : i < (lst s).length := by omega
    have key : ∀ (m : Nat), 2 * d + 4 < m → ∀ a, a < (lst s).length → a ≤ i → (∀ j, a ≤ j → ∀ hj : j < (lst s).length, j < i → (lst s)[j] ≠ 47) → (i = a → ∀ hj : a < (lst s).length, (lst s)[a] ≠ 47) →
      halterref16_parts.l1 m s out ats (i : Int) (a : Int) = some (out ++ (names ((lst s).drop a)).map mkB, ats ++ (offs ((lst s).drop a) a false).map fun n : Nat => (n : Int)) := by
      intro m hm a hal hai hno hfirst
      obtain ⟨m, rfl⟩ : ∃ q, m = q + 1 := ⟨m - 1, by omega⟩
      rw [halterref16_parts.l1, if_pos (by omega), if_pos (by omega), bt_lst s i hil]
      by_cases h47 : (lst s)[i] = 47
      · have hai' : a < i := by
          rcases Nat.lt_or_ge a i with h | h
          · exact h
          · obtain rfl : i = a := by omega
            exact absurd h47 (hfirst rfl hil)
        have e : (lst s).drop a = ((lst s).drop a).take (i - a) ++ 47 :: (lst s).drop (i + 1) := by
          have h1 := (List.take_append_drop (i - a) ((lst s).drop a)).symm
          rw [List.drop_drop, show a + (i - a) = i by omega, dropGet hil, h47] at h1
          exact h1
        have hnm := seg_no (lst s) a i (by omega) hno
        have hlen : (((lst s).drop a).take (i - a)).length = i - a := by rw [List.length_take, List.length_drop]; omega
        have hne : ((lst s).drop a).take (i - a) ≠ [] := fun e => by have := congrArg List.length e; rw [hlen] at this; simp at this; omega
        have ih := (parts_l s hs d (i + 1) m (out ++ [s.extract (a : Int).toNat (i : Int).toNat]) (ats ++ [(a : Int)]) (by omega) (by omega) (by rw [List.length_append]; simp; omega) (by rw [List.length_append]; simp; omega)).1
        rw [if_pos (by rw [h47]; rfl), if_pos (by omega), if_pos (by omega), if_pos (by omega), if_pos (by omega), if_pos (by omega), w1 (by omega), ih, Int.toNat_natCast, Int.toNat_natCast, seg_ext]
        have e1 : names ((lst s).drop a) = (((lst s).drop a).take (i - a)) :: names ((lst s).drop (i + 1)) := by
          rw [e, names_app, ← e, names_word hnm hne]; rfl
        have e2 : offs ((lst s).drop a) a false = a :: offs ((lst s).drop (i + 1)) (i + 1) false := by
          rw [e, offs_app, offs_word hnm hne, hlen, show a + (i - a) + 1 = i + 1 by omega]; rfl
        rw [e1, e2, List.map_cons, List.map_cons, List.append_assoc, List.append_assoc]
        rfl
      · have hn47 : ¬ (((lst s)[i]).toNat : Int) = 47 := n47 h47
        rw [if_neg hn47, w1 (by omega)]
        exact (parts_l s hs d (i + 1) m out ats (by omega) (by omega) (by omega) (by omega)).2 a hal (by omega) (fun j h1 h2 h3 => by
          by_cases hji : j = i
          · subst hji; exact h47
          · exact hno j h1 h2 (by omega)) (fun e => by omega)
    refine ⟨?_, fun a => key (n + 2) (by omega) a⟩
    rw [halterref16_parts.l0, if_pos (by omega), if_pos (by omega), bt_lst s i hil]
    by_cases h47 : (lst s)[i] = 47
    · rw [if_pos (by rw [h47]; rfl), w1 (by omega), (parts_l s hs d (i + 1) (n + 1) out ats (by omega) (by omega) (by omega) (by omega)).1, dropGet hil, h47, names_slash, offs_cons, if_pos rfl]
    · have hn47 : ¬ (((lst s)[i]).toNat : Int) = 47 := n47 h47
      rw [if_neg hn47]
      exact key (n + 1) (by omega) i hil (Nat.le_refl _) (fun j h1 h2 h3 => by omega) (fun _ _ => h47)
theorem parts_ev (s : ByteArray) (hs : (lst s).length ≤ 1000000) (k : Nat) (hk : 2 * (lst s).length + 3 < k) : halterref16_parts.f k s = some ((names (lst s)).map mkB, (offs (lst s) 0 false).map fun n : Nat => (n : Int)) := by
  have := (parts_l s hs (lst s).length 0 k [] [] (Nat.zero_add _) hk (Nat.le_refl _) (Nat.le_refl _)).1
  rw [List.drop_zero] at this
  exact this
theorem refSplit_ev (s : ByteArray) (hs : (lst s).length ≤ 1000000) (k : Nat) (hk : 2 * (lst s).length + 31 < k) : halterref16_Split.f k s = some ((splitA (lst s)).1.map mkB, (splitA (lst s)).2.1, (splitA (lst s)).2.2.getD 0) := by
  unfold halterref16_Split.f splitA
  rw [tl]
  by_cases h : lst s = []
  · rw [if_pos h, if_pos h]; rfl
  · rw [if_neg h, if_neg h, parts_ev s hs k (by omega), Option.bind_some, checked_ev _ k (by omega), map_lst_mk, Option.bind_some]
    cases e : chkL (names (lst s)) with
    | none =>
      have hp : 0 < (lst s).length := List.length_pos_iff.2 h
      rw [if_pos (show (none : Option Int).getD 0 = 0 from rfl), if_pos (by rw [sz]; omega)]
      have hb : bt s 0 = (((lst s)[0]).toNat : Int) := bt_lst s 0 hp
      have hh : (lst s).head? = some (lst s)[0] := by rw [List.head?_eq_getElem?, List.getElem?_eq_getElem hp]
      rw [hb, hh]
      congr 3
      by_cases hc : (lst s)[0] = 47
      · rw [hc]; rfl
      · have h2 : ¬ (((lst s)[0]).toNat : Int) = 47 := n47 hc
        rw [beq_false_of_ne h2, beq_false_of_ne (fun e => hc (Option.some.inj e))]
    | some z =>
      have hz : z ≠ 0 := fun hz => chkL_ne (names (lst s)) (by rw [e, hz])
      rw [if_neg (show ¬ ((some z).getD 0 = 0) from hz)]
      rfl
/-- A path's last name, and what stands ahead of it. -/
def isDot (n : List UInt8) : Bool := n == [46] || n == [46, 46]
structure Cut (l pre nm : List UInt8) (n : Nat) : Prop where
  eq : l = pre ++ nm ++ List.replicate n 47
  ne : nm ≠ []
  no : ∀ c ∈ nm, c ≠ 47
  ed : pre = [] ∨ ∃ p, pre = p ++ [47]
theorem Cut.names {l pre nm : List UInt8} {n : Nat} (h : Cut l pre nm n) : names l = PathM.names pre ++ [nm] := by rw [h.eq]; exact names_cut pre nm n h.ne h.no h.ed
theorem Cut.offs {l pre nm : List UInt8} {n : Nat} (h : Cut l pre nm n) : offs l 0 false = PathM.offs pre 0 false ++ [pre.length] := by rw [h.eq]; exact offs_cut pre nm n h.ne h.no h.ed
theorem Cut.le {l pre nm : List UInt8} {n : Nat} (h : Cut l pre nm n) : pre.length + nm.length ≤ l.length := by rw [h.eq]; simp only [List.length_append]; omega
theorem cut_of {l : List UInt8} (h : names l ≠ []) : ∃ pre nm n, Cut l pre nm n := by
  obtain ⟨pre, nm, n, a, b, c, d⟩ := cut_last h
  exact ⟨pre, nm, n, a, b, c, d⟩
theorem last_rd (xs : List ByteArray) (y : ByteArray) (h : xs.length ≤ 1000000000) : rdOf ByteArray.empty (xs ++ [y]) (wrap64 (((xs ++ [y]).length : Int) - 1)) = y := by
  have e : wrap64 (((xs ++ [y]).length : Int) - 1) = ((xs.length : Nat) : Int) := by
    rw [List.length_append, List.length_singleton]
    unfold wrap64
    omega
  rw [e, rdB _ (by rw [List.length_append]; simp), List.getElem_append_right (Nat.le_refl _)]
  simp
theorem last_ri (xs : List Int) (y : Int) (n : Nat) (hn : n = xs.length + 1) (h : n ≤ 1000000000) : rd (xs ++ [y]) (wrap64 ((n : Int) - 1)) = y := by
  have e : wrap64 ((n : Int) - 1) = ((xs.length : Nat) : Int) := by
    unfold wrap64
    omega
  rw [e]
  unfold rd
  rw [Int.toNat_natCast, List.getD_eq_getElem?_getD, List.getElem?_append_right (Nat.le_refl _)]
  simp
theorem trimR_ev (s : ByteArray) (hs : (lst s).length ≤ 1000000) : strings_TrimRight.f s ⟨#[47]⟩ = some (mkB (Lib.trimRightS (lst s) [47])) := by
  unfold strings_TrimRight.f
  have hsz := sz s
  rw [if_pos ⟨by omega, by decide, by decide⟩]
  rfl
theorem trimS_ev (a b : List UInt8) (h : a.length + b.length ≤ 1000000) : strings_TrimSuffix.f (mkB (a ++ b)) (mkB b) = some (mkB a) := by
  have h1 : (mkB (a ++ b)).size = a.length + b.length := by rw [sz, lst_mk, List.length_append]
  have h2 : (mkB b).size = b.length := by rw [sz, lst_mk]
  have e : wrap64 (((mkB (a ++ b)).size : Int) - ((mkB b).size : Int)) = ((a.length : Nat) : Int) := by
    rw [h1, h2]
    unfold wrap64
    omega
  have e1 : ((mkB (a ++ b)).extract a.length (mkB (a ++ b)).size).toList = b := by
    rw [tl, tailB]
    show List.drop a.length (a ++ b) = b
    exact List.drop_left
  have e2 : (mkB (a ++ b)).extract 0 a.length = mkB a := by
    rw [cutB]
    show mkB (List.take a.length (a ++ b)) = mkB a
    rw [List.take_left]
  unfold strings_TrimSuffix.f stringslite_TrimSuffix.f stringslite_HasSuffix.f
  rw [e, if_pos (show ((mkB (a ++ b)).size : Int) ≥ ((mkB b).size : Int) by omega), if_pos (show (0 : Int) ≤ ((a.length : Nat) : Int) by omega), if_pos (show ((a.length : Nat) : Int) ≤ ((mkB (a ++ b)).size : Int) by omega), Int.toNat_natCast, e1, e2, tl]
  rw [show (b == lst (mkB b)) = true from beq_self_eq_true _, Option.bind_some, if_pos rfl, if_pos (by omega), if_pos (by omega)]
  rfl
def upOf (l : List UInt8) : List UInt8 := Lib.trimSuffix (Lib.trimRightS l [47]) ((names l).getLast?.getD [])
def lastA (l : List UInt8) : List UInt8 × List UInt8 × Option Int := match (splitA l).2.2 with
  | some e => ([], [], some e)
  | none => match (names l).getLast? with
    | none => ([], [], some 22)
    | some n => if isDot n = true then ([], [], some 22) else (n, upOf l, none)
theorem Cut.last {l pre nm : List UInt8} {n : Nat} (h : Cut l pre nm n) : (PathM.names l).getLast? = some nm := by rw [h.names]; simp
theorem Cut.up {l pre nm : List UInt8} {n : Nat} (h : Cut l pre nm n) : upOf l = pre := by
  unfold upOf
  rw [h.last, Option.getD_some, h.eq, rtrim_cut pre nm n h.ne h.no, suffix_cut]
theorem split_none {l : List UInt8} (h : (splitA l).2.2 = none) : l ≠ [] ∧ chkL (names l) = none ∧ splitA l = (names l, l.head? == some 47, none) := by
  unfold splitA at h ⊢
  by_cases h0 : l = []
  · rw [if_pos h0] at h; cases h
  · rw [if_neg h0] at h ⊢
    cases e : chkL (names l) with
    | none => exact ⟨h0, rfl, rfl⟩
    | some z => rw [e] at h; cases h
theorem split_some {l : List UInt8} {z : Int} (h : (splitA l).2.2 = some z) : splitA l = ([], false, some z) := by
  unfold splitA at h ⊢
  by_cases h0 : l = []
  · rw [if_pos h0] at h ⊢
    rw [show z = 2 from (Option.some.inj h).symm]
  · rw [if_neg h0] at h ⊢
    cases e : chkL (names l) with
    | none => rw [e] at h; cases h
    | some y => rw [e] at h; simp only at h ⊢; rw [h]
theorem Last_ev (s : ByteArray) (hs : (lst s).length ≤ 1000000) (k : Nat) (hk : 12 < k) : path_Last.f k s = some (mkB (lastA (lst s)).1, mkB (lastA (lst s)).2.1, (lastA (lst s)).2.2) := by
  obtain ⟨n, rfl⟩ : ∃ n, k = n + 1 := ⟨k - 1, by omega⟩
  unfold path_Last.f lastA
  rw [Split_ev s (by rw [sz]; exact hs) (n + 1) (by omega), Option.bind_some]
  have jt : ∀ x, path_Last.j0 (n + 1) s x true = some (⟨#[]⟩, ⟨#[]⟩, some 22) := fun x => by rw [path_Last.j0, if_pos rfl]
  cases e : (splitA (lst s)).2.2 with
  | some z => rw [split_some e]; rfl
  | none =>
    obtain ⟨h0, hc, he⟩ := split_none e
    rw [he]
    simp only
    rw [if_pos (show (none : Option Int).isNone = true from rfl), List.length_map]
    by_cases hn : names (lst s) = []
    · rw [hn, if_pos (show (([] : List (List UInt8)).length : Int) = 0 from rfl)]
      exact jt _
    · obtain ⟨pre, nm, m, C⟩ := cut_of hn
      have hl := C.le
      have hnl := names_len pre
      have hup := C.up
      rw [C.last]
      simp only
      rw [hup, C.names, List.map_append, List.map_singleton]
      have hlen : (PathM.names pre ++ [nm]).length = ((PathM.names pre).map mkB ++ [mkB nm]).length := by rw [List.length_append, List.length_append, List.length_map]; rfl
      have hL : ((PathM.names pre).map mkB ++ [mkB nm]).length = (PathM.names pre).length + 1 := by rw [List.length_append, List.length_map]; rfl
      have hw : wrap64 ((((PathM.names pre).map mkB ++ [mkB nm]).length : Int) - 1) = (((PathM.names pre).length : Nat) : Int) := by rw [hL]; unfold wrap64; omega
      have hrd := last_rd ((PathM.names pre).map mkB) (mkB nm) (by rw [List.length_map]; omega)
      have jf : ∀ b, b = false → path_Last.j0 (n + 1) s ((PathM.names pre).map mkB ++ [mkB nm]) b = some (mkB nm, mkB pre, none) := fun b hb => by
        rw [path_Last.j0, hb, if_neg (by decide), if_pos (by rw [hw]; omega), if_pos (by rw [hw, hL]; omega), trimR_ev s hs, Option.bind_some, hrd]
        rw [show Lib.trimRightS (lst s) [47] = pre ++ nm by rw [C.eq]; exact rtrim_cut pre nm m C.ne C.no, trimS_ev pre nm (by omega), Option.bind_some]
      rw [hlen, if_neg (by rw [hL]; omega), if_pos (by rw [hw]; omega), if_pos (by rw [hw, hL]; omega), hrd, tl, lst_mk]
      unfold isDot
      by_cases d1 : nm = [46]
      · rw [if_pos d1, jt, if_pos (by rw [d1]; decide)]
        rfl
      · rw [if_neg d1]
        by_cases d2 : nm = [46, 46]
        · rw [d2, show (([46, 46] : List UInt8) == [46, 46]) = true by decide, jt, if_pos (by decide)]
          rfl
        · rw [jf _ (by simpa using d2), if_neg (by simp [d1, d2])]
theorem refLast_ev (s : ByteArray) (hs : (lst s).length ≤ 1000000) (k : Nat) (hk : 2 * (lst s).length + 31 < k) : halterref16_Last.f k s = some (mkB (lastA (lst s)).1, mkB (lastA (lst s)).2.1, (lastA (lst s)).2.2.getD 0) := by
  unfold halterref16_Last.f lastA
  rw [refSplit_ev s hs k hk, Option.bind_some]
  cases e : (splitA (lst s)).2.2 with
  | some z =>
    rw [split_some e]
    simp only
    have hz : z ≠ 0 := fun hz => by
      have h1 := e
      unfold splitA at h1
      split at h1
      · rw [hz] at h1; exact absurd h1 (by decide)
      · split at h1
        · cases h1
        · rename_i y hy
          rw [show y = z from Option.some.inj h1, hz] at hy
          exact chkL_ne _ hy
    rw [if_neg (show ¬ (some z).getD 0 = 0 from hz)]
    rfl
  | none =>
    obtain ⟨h0, hc, he⟩ := split_none e
    rw [he]
    simp only
    rw [if_pos (show (none : Option Int).getD 0 = 0 from rfl), List.length_map]
    by_cases hn : names (lst s) = []
    · rw [hn, if_pos (show wrap64 ((([] : List (List UInt8)).length : Int) - 1) < 0 by unfold wrap64; decide)]
      rfl
    · obtain ⟨pre, nm, m, C⟩ := cut_of hn
      have hl := C.le
      have hnl := names_len pre
      have hup := C.up
      have hof := (offs_len pre 0).1
      rw [parts_ev s hs k (by omega), C.last, Option.bind_some]
      simp only
      rw [hup, C.names, C.offs, List.map_append, List.map_singleton, List.map_append, List.map_singleton]
      have hlen : (PathM.names pre ++ [nm]).length = ((PathM.names pre).map mkB ++ [mkB nm]).length := by rw [List.length_append, List.length_append, List.length_map]; rfl
      have hL : ((PathM.names pre).map mkB ++ [mkB nm]).length = (PathM.names pre).length + 1 := by rw [List.length_append, List.length_map]; rfl
      have hw : wrap64 ((((PathM.names pre).map mkB ++ [mkB nm]).length : Int) - 1) = (((PathM.names pre).length : Nat) : Int) := by rw [hL]; unfold wrap64; omega
      have hrd := last_rd ((PathM.names pre).map mkB) (mkB nm) (by rw [List.length_map]; omega)
      have hri := last_ri ((PathM.offs pre 0 false).map fun n : Nat => (n : Int)) ((pre.length : Nat) : Int) (((PathM.names pre).map mkB ++ [mkB nm]).length) (by rw [hL, List.length_map, hof]) (by rw [hL]; omega)
      have hoL : ((PathM.offs pre 0 false).map (fun n : Nat => (n : Int)) ++ [((pre.length : Nat) : Int)]).length = (PathM.names pre).length + 1 := by rw [List.length_append, List.length_map, hof]; rfl
      have hsz := sz s
      have hex : s.extract 0 pre.length = mkB pre := by
        rw [cutB]
        show mkB (List.take pre.length (lst s)) = mkB pre
        rw [C.eq, List.append_assoc, List.take_left]
      rw [hlen, if_neg (by rw [hw]; omega), if_pos (by rw [hw]; omega), if_pos (by rw [hw, hL]; omega), hrd, tl, lst_mk]
      unfold isDot
      by_cases d1 : nm = [46]
      · rw [if_pos d1, if_pos (by rw [d1]; decide)]
        rfl
      · rw [if_neg d1]
        by_cases d2 : nm = [46, 46]
        · rw [if_pos d2, if_pos (by rw [d2]; decide)]
          rfl
        · rw [if_neg d2, if_pos (by rw [hw, hoL]; omega), hri, if_pos (by omega), if_pos (by omega), Int.toNat_natCast, hex, if_neg (by simp [d1, d2])]
          rfl
def joinA (ns : List (List UInt8)) : List UInt8 × Option Int := match chkL ns with | none => (47 :: Lib.join ns [47], none) | some e => ([], some e)
theorem all_lst (l : List ByteArray) : l = (l.map lst).map mkB := by
  rw [List.map_map]
  have : (mkB ∘ lst) = id := by funext x; exact mk_lst x
  rw [this, List.map_id]
theorem Join_ev (l : List ByteArray) (k : Nat) (hk : 10 < k) : path_Join.f k l = some (mkB (joinA (l.map lst)).1, (joinA (l.map lst)).2) := by
  unfold path_Join.f joinA strings_Join.f
  rw [check_ev l k hk, Option.bind_some]
  cases e : chkL (l.map lst) with
  | some z => rfl
  | none =>
    obtain ⟨h1, h2⟩ := chkL_none.1 e
    have h3 := join_len (l.map lst) (fun n hn => (chkN_none (h2 n hn)).2.1)
    rw [List.length_map] at h1
    rw [List.length_map] at h3
    rw [if_pos (show (none : Option Int).isNone = true from rfl), if_pos ⟨by show (Lib.join (l.map lst) [47]).length ≤ _; omega, by omega⟩, Option.bind_some]
    have hs : (mkB (Lib.join (l.map lst) [47])).size = (Lib.join (l.map lst) [47]).length := by rw [sz, lst_mk]
    show (if 1 + (mkB (Lib.join (l.map lst) [47])).size ≤ 9223372036854775807 then some (mkB [47] ++ mkB (Lib.join (l.map lst) [47]), none) else none) = _
    rw [if_pos (by omega), mk_app]
    rfl
theorem refJoin_l0 (l : List ByteArray) (hl : l.length ≤ 8) (hb : ∀ x ∈ l, (lst x).length ≤ 16) : ∀ (d j k : Nat) (s : List UInt8), j + d = l.length → 1 ≤ j → d < k → s.length ≤ j * 17 + 1 →
    halterref16_Join.l0 k l (mkB s) (j : Int) = some (mkB (s ++ (((l.drop j).map lst).map (47 :: ·)).flatten), 0)
  | 0, j, k, s, hj, h1, hk, hs => by
    obtain ⟨n, rfl⟩ : ∃ n, k = n + 1 := ⟨k - 1, by omega⟩
    rw [halterref16_Join.l0, if_neg (by omega), List.drop_eq_nil_of_le (by omega)]
    simp
  | d + 1, j, k, s, hj, h1, hk, hs => by
    obtain ⟨n, rfl⟩ : ∃ n, k = n + 1 := ⟨k - 1, by omega⟩
    have hjl : j < l.length := by omega
    have hx := hb l[j] (List.getElem_mem hjl)
    have z1 : (mkB s).size = s.length := by rw [sz, lst_mk]
    have z2 : (mkB s ++ (⟨#[47]⟩ : ByteArray)) = mkB (s ++ [47]) := mk_app s [47]
    have z3 : (mkB (s ++ [47])).size = s.length + 1 := by rw [sz, lst_mk, List.length_append]; rfl
    have z4 : (l[j]).size = (lst l[j]).length := sz _
    have z5 : mkB (s ++ [47]) ++ l[j] = mkB (s ++ [47] ++ lst l[j]) := by
      have := mk_app (s ++ [47]) (lst l[j])
      rwa [mk_lst] at this
    rw [halterref16_Join.l0, if_pos (by omega), if_pos (by omega), if_pos (by omega), if_pos (by omega), rdB l hjl, z2, if_pos (by omega), z5, w1 (by omega), refJoin_l0 l hl hb d (j + 1) n _ (by omega) (by omega) (by omega) (by simp only [List.length_append, List.length_cons, List.length_nil]; omega), List.drop_eq_getElem_cons hjl, List.map_cons, List.map_cons, List.flatten_cons]
    simp
theorem refJoin_ev (l : List ByteArray) (k : Nat) (hk : 30 < k) : halterref16_Join.f k l = some (mkB (joinA (l.map lst)).1, (joinA (l.map lst)).2.getD 0) := by
  unfold halterref16_Join.f joinA
  rw [checked_ev l k hk, Option.bind_some]
  cases e : chkL (l.map lst) with
  | some z =>
    have hz : z ≠ 0 := fun hz => chkL_ne _ (by rw [e, hz])
    rw [if_neg (show ¬ (some z).getD 0 = 0 from hz)]
    rfl
  | none =>
    obtain ⟨h1, h2⟩ := chkL_none.1 e
    rw [List.length_map] at h1
    have hb : ∀ x ∈ l, (lst x).length ≤ 16 := fun x hx => (chkN_none (h2 _ (List.mem_map_of_mem hx))).2.1
    rw [if_pos (show (none : Option Int).getD 0 = 0 from rfl)]
    obtain ⟨n, rfl⟩ : ∃ n, k = n + 1 := ⟨k - 1, by omega⟩
    cases l with
    | nil =>
      rw [halterref16_Join.l0, if_neg (by decide)]
      rfl
    | cons x r =>
      have hx := hb x List.mem_cons_self
      have z4 : x.size = (lst x).length := sz _
      have z5 : (⟨#[47]⟩ : ByteArray) ++ x = mkB ([47] ++ lst x) := by
        have := mk_app [47] (lst x)
        rwa [mk_lst] at this
      have z6 : (⟨#[47]⟩ : ByteArray).size = 1 := rfl
      have r0 : rdOf ByteArray.empty (x :: r) 0 = x := rfl
      rw [halterref16_Join.l0, if_pos (by rw [List.length_cons]; omega), if_neg (by decide), if_pos (by decide), r0, if_pos (by omega), z5]
      have := refJoin_l0 (x :: r) h1 hb r.length 1 n ([47] ++ lst x) (by rw [List.length_cons]; omega) (Nat.le_refl _) (by rw [List.length_cons] at h1; omega) (by simp only [List.length_append, List.length_cons, List.length_nil]; omega)
      rw [show wrap64 ((0 : Int) + 1) = ((1 : Nat) : Int) by unfold wrap64; decide]
      refine this.trans ?_
      rw [List.map_cons, join_cons]
      rfl
theorem texts_l0 (a : List ByteArray) (hl : a.length ≤ 1000000) : ∀ (d j k : Nat), j + d = a.length → d < k → halterlaw16_texts.l0 k a a (j : Int) = some true
  | 0, j, k, hj, hk => by
    obtain ⟨n, rfl⟩ : ∃ n, k = n + 1 := ⟨k - 1, by omega⟩
    rw [halterlaw16_texts.l0, if_neg (by omega)]
  | d + 1, j, k, hj, hk => by
    obtain ⟨n, rfl⟩ : ∃ n, k = n + 1 := ⟨k - 1, by omega⟩
    rw [halterlaw16_texts.l0, if_pos (by omega), if_pos (by omega), if_pos (by omega), if_pos rfl, w1 (by omega), texts_l0 a hl d (j + 1) n (by omega) (by omega)]
theorem texts_yes (a : List ByteArray) (hl : a.length ≤ 1000000) : halterlaw16_texts.f (a.length + 1) a a = some true := by
  unfold halterlaw16_texts.f
  rw [if_pos rfl]
  exact texts_l0 a hl a.length 0 _ (Nat.zero_add _) (Nat.lt_succ_self _)
end Go.Proofs.YtepjcfhkbcchmaaDoor.PathM
