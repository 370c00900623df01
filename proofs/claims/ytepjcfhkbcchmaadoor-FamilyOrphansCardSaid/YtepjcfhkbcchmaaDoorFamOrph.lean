/- Families: what FamilyOrphans compares. No program in sight. -/
import Derived.Test.YtepjcfhkbcchmaaDoorFamSure
namespace Go.Proofs.YtepjcfhkbcchmaaDoor.FamEv
set_option linter.unusedSimpArgs false
set_option linter.unusedVariables false
open Go Go.RowKit Go.Proofs.YtepjcfhkbcchmaaDoor Go.Proofs.YtepjcfhkbcchmaaDoor.XFam

abbrev RM := S68
def gv (x : RM) : M := ⟨x.f0, x.f1, x.f2, x.f3⟩
theorem w64b {j : Nat} (h : j ≤ 5864062014805) : wrap64 ((j : Int) + 1) = ((j + 1 : Nat) : Int) := by unfold wrap64; omega
theorem give_l0 (l : List RM) (hl : l.length < 5864062014805) : ∀ (d j k : Nat) (out : List M), j + d = l.length → d < k → out.length = j → halterlaw24_give.l0 k l out (j : Int) = some (out ++ (l.drop j).map gv)
  | 0, j, k, out, hj, hk, ho => by
    obtain ⟨n, rfl⟩ : ∃ n, k = n + 1 := ⟨k - 1, by omega⟩
    rw [halterlaw24_give.l0, if_neg (by omega), List.drop_eq_nil_of_le (by omega)]
    simp
  | d + 1, j, k, out, hj, hk, ho => by
    obtain ⟨n, rfl⟩ : ∃ n, k = n + 1 := ⟨k - 1, by omega⟩
    have hjl : j < l.length := by omega
    have hrd : rd_T68 l (j : Int) = l[j] := by unfold rd_T68; rw [Int.toNat_natCast, List.getD_eq_getElem?_getD, List.getElem?_eq_getElem hjl]; rfl
    rw [halterlaw24_give.l0, if_pos (by omega), if_pos (by omega), if_pos (by omega), hrd, w64b (by omega), give_l0 l hl d (j + 1) n _ (by omega) (by omega) (by rw [List.length_append]; simp; omega), List.drop_eq_getElem_cons hjl, List.map_cons, List.append_assoc]
    rfl
theorem give_ev (l : List RM) (hl : l.length < 5864062014805) : halterlaw24_give.f (l.length + 1) l = some (l.map gv) := by
  have := give_l0 l hl l.length 0 (l.length + 1) [] (Nat.zero_add _) (by omega) rfl
  rw [List.drop_zero, List.nil_append] at this
  exact this
theorem check_any (l : List M) (hl : l.length ≤ 16) : family_Check.f 100 l = some (if chkP l = true then none else some 22) := check_ev l (by omega) 100 (by omega)
section
variable {l : List M} {p : Int}
theorem Ok.self (h : Ok l) (hp : p ≠ 1) {x : M} (hx : fnd l p = some x) : x.f1 ≠ p := fun e => by
  have h1 := h.led x (fnd_mem hx).1 (by rw [(fnd_mem hx).2]; exact hp)
  rw [(fnd_mem hx).2, led_self hx e hp] at h1
  cases h1
theorem kids_mem (h : Ok l) {x : M} (hx : x ∈ l) : x.f0 ∈ kidsP l p ↔ (x.f1 = p ∧ x.f0 ≠ 1) := by
  unfold kidsP
  rw [List.mem_map]
  constructor
  · rintro ⟨y, hy, e⟩
    obtain ⟨h1, h2⟩ := List.mem_filter.1 hy
    obtain rfl := sorted_eq h.base.srt h1 hx e
    simpa using h2
  · rintro ⟨h1, h2⟩
    exact ⟨x, List.mem_filter.2 ⟨hx, by simp [h1, h2]⟩, rfl⟩
theorem pid_pos (h : Ok l) (ha : aliveP l p = true) : 1 ≤ p := by
  obtain ⟨x, hx, _⟩ := alive_some ha
  obtain ⟨h1, h2⟩ := fnd_mem hx
  rw [← h2]
  exact (h.base.rng x h1).1
theorem want_ok (h : Ok l) (hp : p ≠ 1) (ha : aliveP l p = true) {x : M} (hx : x ∈ l) : (if x.f0 ∈ kidsP l p then 1 else x.f1) = (exM p 9 x).f1 := by
  rw [exM_f1]
  by_cases e1 : x.f0 = p
  · have := h.self hp (fnd_eq h.base.srt hx e1)
    rw [if_pos e1, if_neg (fun hm => this ((kids_mem h hx).1 hm).1)]
  · rw [if_neg e1]
    by_cases e2 : x.f1 = p
    · have h1 : x.f0 ≠ 1 := fun e => by
        have := sorted_eq h.base.srt hx h.base.one e
        rw [this] at e2
        have h2 := pid_pos h ha
        have : oneM.f1 = 0 := rfl
        omega
      rw [if_pos e2, if_pos ((kids_mem h hx).2 ⟨e2, h1⟩)]
    · rw [if_neg e2, if_neg (fun hm => e2 ((kids_mem h hx).1 hm).1)]
theorem gone_alive (h : Ok l) (ha : aliveP l p = true) : aliveP (l.map (exM p 9)) p = false := by
  obtain ⟨x, hx, _⟩ := alive_some ha
  unfold aliveP
  rw [fnd_map, hx]
  simp only [Option.map_some]
  unfold exM
  rw [if_pos (fnd_mem hx).2]
  rfl
theorem gone_kids (h : Ok l) (hp : p ≠ 1) : kidsP (l.map (exM p 9)) p = [] := by
  unfold kidsP
  rw [List.map_eq_nil_iff, List.filter_eq_nil_iff]
  intro y hy
  obtain ⟨x, hx, rfl⟩ := List.mem_map.1 hy
  rw [exM_f1]
  simp only [Bool.and_eq_true, decide_eq_true_eq, not_and]
  intro e _
  split at e
  · rename_i e1
    exact h.self hp (fnd_eq h.base.srt hx e1) e
  · split at e
    · exact hp e.symm
    · rename_i e2; exact e2 e
theorem take_mem (K : List Int) (v : Int) (j : Nat) (hj : j < K.length) : (v ∈ K.take (j + 1)) ↔ (v ∈ K.take j ∨ K.getD j 0 = v) := by
  rw [List.take_add_one, List.mem_append, List.getElem?_eq_getElem hj, Option.toList_some, List.mem_singleton, List.getD_eq_getElem?_getD, List.getElem?_eq_getElem hj, Option.getD_some]
  exact ⟨fun h => h.imp id Eq.symm, fun h => h.imp id Eq.symm⟩
end
end Go.Proofs.YtepjcfhkbcchmaaDoor.FamEv
