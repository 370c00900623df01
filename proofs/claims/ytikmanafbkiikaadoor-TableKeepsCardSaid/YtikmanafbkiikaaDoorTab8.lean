/- Tables, walked: what is done to one, told in plain words. -/
import Derived.Test.YtikmanafbkiikaaDoorTMath
namespace Go.Proofs.YtikmanafbkiikaaDoor
set_option linter.unusedSimpArgs false
set_option linter.unusedVariables false
open Go Go.RowKit Go.Proofs.YtikmanafbkiikaaDoorW.PrintWords Go.Proofs.YtikmanafbkiikaaDoorW.PrintMore Go.Proofs.YtikmanafbkiikaaDoor.RowK

/-- A table, in plain words. -/
def TS (w : World) (pt pf gf pm gm k d : Nat) (rs : List Int) (own : Nat → Option Nat) (ent : Nat → Option Ent3) : Prop :=
  ∃ bs, Tab w pt pf gf pm gm k rs bs d ∧ TI k rs bs d own ent
def stE (rs : List Int) (own : Nat → Option Nat) (p f q : Int) : Option Int := if (0 ≤ p ∧ p < 4096) ∧ entOk f q = true then (if own (p / 64).toNat = none ∧ firstZ rs = none then some 12 else none) else some 22
def stR (rs : List Int) (own : Nat → Option Nat) (p f q : Int) : List Int := if stE rs own p f q = none ∧ own (p / 64).toNat = none then (match firstZ rs with | some i => rs.set i 1 | none => rs) else rs
def stO (rs : List Int) (own : Nat → Option Nat) (p f q : Int) : Nat → Option Nat := if stE rs own p f q = none ∧ own (p / 64).toNat = none then upd own (p / 64).toNat (firstZ rs) else own
def stT (rs : List Int) (own : Nat → Option Nat) (ent : Nat → Option Ent3) (p f q : Int) (c : Bool) : Nat → Option Ent3 := if stE rs own p f q = none then upd ent p.toNat (some (f, q, c)) else ent
def pagE (p : Int) : Option Int := if 0 ≤ p ∧ p < 4096 then none else some 22
def clrT (ent : Nat → Option Ent3) (p : Int) : Nat → Option Ent3 := if 0 ≤ p ∧ p < 4096 then upd ent p.toNat none else ent
def getT (ent : Nat → Option Ent3) (p : Int) : Option Ent3 := if 0 ≤ p ∧ p < 4096 then ent p.toNat else none
section
variable {w w' : World} {pt pf gf pm gm k d : Nat} {rs : List Int} {own : Nat → Option Nat} {ent : Nat → Option Ent3}
theorem TS.below (h : TS w pt pf gf pm gm k d rs own ent) (hb : Below w.heap.size w w') : TS w' pt pf gf pm gm k d rs own ent := by
  obtain ⟨bs, h1, h2⟩ := h
  exact ⟨bs, h1.below hb, h2⟩
theorem TS.frm (h : TS w pt pf gf pm gm k d rs own ent) : Frm w pf gf k rs := by
  obtain ⟨bs, h1, h2⟩ := h
  exact h1.frm
theorem TS.alloc (h : TS w pt pf gf pm gm k d rs own ent) (i : Nat) (hr : rs[i]? = some 0) (hf : Frm w' pf gf k (rs.set i 1)) (ho : Oth w w' gf) : TS w' pt pf gf pm gm k d (rs.set i 1) own ent := by
  obtain ⟨bs, h1, h2⟩ := h
  exact ⟨bs, h1.took hf ho, h2.alloc i hr⟩
theorem ts_set (h : TS w pt pf gf pm gm k d rs own ent) (p f q : Int) (c : Bool) (hq0 : 0 ≤ q) (hq1 : q < 256) :
    Calls Tryd.prog 26 #[.pointer (some ⟨pt, 0, none⟩), .int .i64 p, .agg #[.int .i64 f, .int .u8 q, .bool c]] w fun e w' => e = .returned (errW (stE rs own p f q)) ∧ TS w' pt pf gf pm gm k d (stR rs own p f q) (stO rs own p f q) (stT rs own ent p f q c) ∧ Agr (fun b => b ≠ gf ∧ b ≠ gm) w w' := by
  obtain ⟨bs, ht, hi⟩ := h
  by_cases hp : (0 ≤ p ∧ p < 4096) ∧ entOk f q = true
  · obtain ⟨⟨hp0, hp1⟩, hok⟩ := hp
    obtain ⟨u, hu⟩ : ∃ u : Nat, p / 64 = (u : Int) := ⟨(p / 64).toNat, by omega⟩
    obtain ⟨a, ha⟩ : ∃ a : Nat, p % 64 = (a : Int) := ⟨(p % 64).toNat, by omega⟩
    have hu64 : u < 64 := by omega
    have ha64 : a < 64 := by omega
    have hpn : p.toNat = u * 64 + a := by omega
    have hun : (p / 64).toNat = u := by omega
    have hk3 : ∀ x, some (f, q, c) = some x → ok3 x := fun x hx => by
      obtain rfl := Option.some.inj hx
      exact ⟨hok, hq0⟩
    cases ho : own u with
    | some n =>
      have e1 : stE rs own p f q = none := by unfold stE; rw [if_pos ⟨⟨hp0, hp1⟩, hok⟩, if_neg (by rw [hun, ho]; rintro ⟨x, _⟩; cases x)]
      have e2 : stR rs own p f q = rs := by unfold stR; rw [if_neg (by rw [hun, ho]; rintro ⟨_, x⟩; cases x)]
      have e3 : stO rs own p f q = own := by unfold stO; rw [if_neg (by rw [hun, ho]; rintro ⟨_, x⟩; cases x)]
      have e4 : stT rs own ent p f q c = upd ent (u * 64 + a) (some (f, q, c)) := by unfold stT; rw [if_pos e1, hpn]
      have hnk := (hi.fr u n hu64 ho).1
      rw [e1, e2, e3, e4]
      refine (tab_set_of w pt pf gf pm gm k d rs bs rs bs ht p u a n f q c hp0 hp1 hu ha hq0 hq1 hok hnk (fun W hW => ?_)).mono ?_
      · refine (tab_made_is W pt pf gf pm gm k d rs bs (ht.below hW) u hu64 (by rw [hi.isEnt u hu64, ho]; rfl)).mono ?_
        rintro e w' ⟨rfl, hb⟩
        exact ⟨by rw [hi.frame u n hu64 ho], (ht.below hW).below hb, Agr.below hb⟩
      · rintro e w' ⟨rfl, ht', ha'⟩
        exact ⟨rfl, ⟨_, ht', hi.put u a n hu64 ha64 ho (some (f, q, c)) hk3⟩, ha'⟩
    | none =>
      cases hz : firstZ rs with
      | none =>
        have e1 : stE rs own p f q = some 12 := by unfold stE; rw [if_pos ⟨⟨hp0, hp1⟩, hok⟩, if_pos ⟨by rw [hun, ho], hz⟩]
        have e2 : stR rs own p f q = rs := by unfold stR; rw [if_neg (by rw [e1]; rintro ⟨x, _⟩; cases x)]
        have e3 : stO rs own p f q = own := by unfold stO; rw [if_neg (by rw [e1]; rintro ⟨x, _⟩; cases x)]
        have e4 : stT rs own ent p f q c = ent := by unfold stT; rw [if_neg (by rw [e1]; intro x; cases x)]
        rw [e1, e2, e3, e4]
        refine (tab_set_full w pt pf gf pm gm k d rs bs ht p u f q c hp0 hp1 hu hq0 hq1 hok (by rw [hi.up u hu64, ho]) (fun j _ => firstZ_none hz j)).mono ?_
        rintro e w' ⟨rfl, hb⟩
        exact ⟨rfl, ⟨bs, ht.below hb, hi⟩, Agr.below hb⟩
      | some i =>
        obtain ⟨hr, hn⟩ := firstZ_some hz
        have hik : i < k := by rw [← ht.frm.len]; exact (List.getElem?_eq_some_iff.1 hr).1
        have e1 : stE rs own p f q = none := by unfold stE; rw [if_pos ⟨⟨hp0, hp1⟩, hok⟩, if_neg (by rw [hz]; rintro ⟨_, x⟩; cases x)]
        have e2 : stR rs own p f q = rs.set i 1 := by unfold stR; rw [if_pos ⟨e1, by rw [hun, ho]⟩, hz]
        have e3 : stO rs own p f q = upd own u (some i) := by unfold stO; rw [if_pos ⟨e1, by rw [hun, ho]⟩, hz, hun]
        have e4 : stT rs own ent p f q c = upd ent (u * 64 + a) (some (f, q, c)) := by unfold stT; rw [if_pos e1, hpn]
        rw [e1, e2, e3, e4]
        refine (tab_set_of w pt pf gf pm gm k d rs bs _ _ ht p u a i f q c hp0 hp1 hu ha hq0 hq1 hok hik (fun W hW => tab_made_new W pt pf gf pm gm k d rs bs (ht.below hW) u hu64 (by rw [hi.up u hu64, ho]) i hr hn)).mono ?_
        rintro e w' ⟨rfl, ht', ha'⟩
        exact ⟨rfl, ⟨_, ht', (hi.made u hu64 ho i hr hik _ rfl).put u a i hu64 ha64 (upd_same _ _ _) (some (f, q, c)) hk3⟩, ha'⟩
  · have e1 : stE rs own p f q = some 22 := by unfold stE; rw [if_neg hp]
    have e2 : stR rs own p f q = rs := by unfold stR; rw [if_neg (by rw [e1]; rintro ⟨x, _⟩; cases x)]
    have e3 : stO rs own p f q = own := by unfold stO; rw [if_neg (by rw [e1]; rintro ⟨x, _⟩; cases x)]
    have e4 : stT rs own ent p f q c = ent := by unfold stT; rw [if_neg (by rw [e1]; intro x; cases x)]
    rw [e1, e2, e3, e4]
    refine (tab_set_bad w pt pf gf pm gm k d rs bs ht p f q c hq0 hq1 hp).mono ?_
    rintro e w' ⟨rfl, hb⟩
    exact ⟨rfl, ⟨bs, ht.below hb, hi⟩, Agr.below hb⟩
theorem ts_clear (h : TS w pt pf gf pm gm k d rs own ent) (p : Int) :
    Calls Tryd.prog 27 #[.pointer (some ⟨pt, 0, none⟩), .int .i64 p] w fun e w' => e = .returned (errW (pagE p)) ∧ TS w' pt pf gf pm gm k d rs own (clrT ent p) ∧ Agr (fun b => b ≠ gf ∧ b ≠ gm) w w' := by
  obtain ⟨bs, ht, hi⟩ := h
  unfold pagE clrT
  by_cases hp : 0 ≤ p ∧ p < 4096
  · obtain ⟨hp0, hp1⟩ := hp
    rw [if_pos ⟨hp0, hp1⟩, if_pos ⟨hp0, hp1⟩]
    obtain ⟨u, hu⟩ : ∃ u : Nat, p / 64 = (u : Int) := ⟨(p / 64).toNat, by omega⟩
    obtain ⟨a, ha⟩ : ∃ a : Nat, p % 64 = (a : Int) := ⟨(p % 64).toNat, by omega⟩
    have hu64 : u < 64 := by omega
    have ha64 : a < 64 := by omega
    have hpn : p.toNat = u * 64 + a := by omega
    rw [hpn]
    cases ho : own u with
    | some n =>
      have hnk := (hi.fr u n hu64 ho).1
      refine (tab_clear_is w pt pf gf pm gm k d rs bs ht p u a n hp0 hp1 hu ha (by rw [hi.isEnt u hu64, ho]; rfl) (hi.frame u n hu64 ho) hnk).mono ?_
      rintro e w' ⟨rfl, ht', ha'⟩
      exact ⟨rfl, ⟨_, ht', hi.put u a n hu64 ha64 ho none (fun _ h => by cases h)⟩, ha'⟩
    | none =>
      refine (tab_clear_none w pt pf gf pm gm k d rs bs ht p u hp0 hp1 hu (by rw [hi.up u hu64, ho])).mono ?_
      rintro e w' ⟨rfl, hb⟩
      have he : upd ent (u * 64 + a) none = ent := by
        funext j
        by_cases e : j = u * 64 + a
        · subst e
          rw [upd_same, hi.no u a hu64 ha64 ho]
        · rw [upd_other _ _ _ e]
      rw [he]
      exact ⟨rfl, ⟨bs, ht.below hb, hi⟩, Agr.below hb⟩
  · rw [if_neg hp, if_neg hp]
    refine (tab_clear_bad w pt pf gf pm gm k d rs bs ht p hp).mono ?_
    rintro e w' ⟨rfl, rfl⟩
    exact ⟨rfl, ⟨bs, ht, hi⟩, Agr.refl _ _⟩
theorem ts_get (h : TS w pt pf gf pm gm k d rs own ent) (p : Int) :
    Calls Tryd.prog 23 #[.pointer (some ⟨pt, 0, none⟩), .int .i64 p] w fun e w' => e = .returned (.tuple #[val3 (getT ent p), .bool (getT ent p).isSome, errW (pagE p)]) ∧ Below w.heap.size w w' := by
  obtain ⟨bs, ht, hi⟩ := h
  unfold pagE getT
  by_cases hp : 0 ≤ p ∧ p < 4096
  · obtain ⟨hp0, hp1⟩ := hp
    rw [if_pos ⟨hp0, hp1⟩, if_pos ⟨hp0, hp1⟩]
    obtain ⟨u, hu⟩ : ∃ u : Nat, p / 64 = (u : Int) := ⟨(p / 64).toNat, by omega⟩
    obtain ⟨a, ha⟩ : ∃ a : Nat, p % 64 = (a : Int) := ⟨(p % 64).toNat, by omega⟩
    have hu64 : u < 64 := by omega
    have ha64 : a < 64 := by omega
    have hpn : p.toNat = u * 64 + a := by omega
    rw [hpn]
    cases ho : own u with
    | some n =>
      have hnk := (hi.fr u n hu64 ho).1
      refine (tab_get_is w pt pf gf pm gm k d rs bs ht p u a n hp0 hp1 hu ha (by rw [hi.isEnt u hu64, ho]; rfl) (hi.frame u n hu64 ho) hnk).mono ?_
      rintro e w' ⟨rfl, hb⟩
      obtain ⟨f1, f2, f3, _⟩ := enc3_facts (hi.ok (u * 64 + a))
      rw [hi.lo u n a hu64 ha64 ho, f1, f2, f3]
      exact ⟨rfl, hb⟩
    | none =>
      refine (tab_get_none w pt pf gf pm gm k d rs bs ht p u hp0 hp1 hu (by rw [hi.up u hu64, ho])).mono ?_
      rintro e w' ⟨rfl, hb⟩
      rw [hi.no u a hu64 ha64 ho]
      exact ⟨rfl, hb⟩
  · rw [if_neg hp, if_neg hp]
    refine (tab_get_bad w pt pf gf pm gm k d rs bs ht p hp).mono ?_
    rintro e w' ⟨rfl, hb⟩
    exact ⟨rfl, hb⟩
theorem ts_frames (h : TS w pt pf gf pm gm k d rs own ent) :
    Calls Tryd.prog 29 #[.pointer (some ⟨pt, 0, none⟩)] w fun e w' => e = .returned (.int .i64 (1 + (cnt own : Int))) ∧ Below w.heap.size w w' := by
  obtain ⟨bs, ht, hi⟩ := h
  refine (tab_frames w pt pf gf pm gm k d rs bs ht hi.lows).mono ?_
  rintro e w' ⟨rfl, hb⟩
  rw [hi.lowsEq 64 (Nat.le_refl _)]
  exact ⟨rfl, hb⟩
/-- The pages that have entries. -/
def pagesE (ent : Nat → Option Ent3) : List Int := (pagesTo ent 4096).map fun (p : Nat) => (p : Int)
theorem ts_pages (h : TS w pt pf gf pm gm k d rs own ent) :
    Calls Tryd.prog 28 #[.pointer (some ⟨pt, 0, none⟩)] w fun e w' => ∃ v, e = .returned v ∧ w'.ownsRow w.heap.size 3 1 v (pagesE ent).length ((pagesE ent).map (Value.int .i64)) ∧ Below w.heap.size w w' := by
  obtain ⟨bs, ht, hi⟩ := h
  refine (tab_pages w pt pf gf pm gm k d rs bs ht hi.lows hi.lowk).mono ?_
  rintro e w' ⟨v, rfl, hr, _, hb⟩
  rw [hi.pages 64 (Nat.le_refl _)] at hr
  exact ⟨v, rfl, hr, hb⟩
theorem ts_free (h : TS w pt pf gf pm gm k d rs own ent) (hpf : pt ≠ pf) (hpm : pt ≠ pm) :
    Calls Tryd.prog 24 #[.pointer (some ⟨pt, 0, none⟩)] w fun e w' => (∃ v, e = .returned v) ∧ Frm w' pf gf k (unrefs rs ((d : Int) :: (ownTo own 64).map (·.2))) ∧ Agr (fun b => b ≠ gf ∧ b ≠ pt) w w' ∧
      w'.heap[pt]? = some (.cells #[.pointer none, .pointer none, .int .i64 0] 143 (0, 0)) := by
  obtain ⟨bs, ht, hi⟩ := h
  have := tab_free w pt pf gf pm gm k d rs bs ht hpf hpm hi.lows
  rwa [hi.lowsEq 64 (Nat.le_refl _)] at this
end
/-- A new one, of k frames that are all free. -/
theorem ts_new (w : World) (pf gf pm gm k : Nat) (rs bs : List Int) (hf : Frm w pf gf k rs) (hm : Mem w pm gm k bs) (hy : Byt bs) (n3 : pf ≠ gm) (n4 : gf ≠ gm) (n5 : pm ≠ gf) (i : Nat) (hz : firstZ rs = some i) :
    Calls Tryd.prog 31 #[.pointer (some ⟨pf, 0, none⟩), .pointer (some ⟨pm, 0, none⟩)] w fun e w' => ∃ pt, e = .returned (.tuple #[.pointer (some ⟨pt, 0, none⟩), .nilIface]) ∧ w.heap.size ≤ pt ∧ TS w' pt pf gf pm gm k i (rs.set i 1) (fun _ => none) (fun _ => none) ∧ Agr (fun b => b ≠ gf ∧ b ≠ gm) w w' := by
  obtain ⟨hr, hn⟩ := firstZ_some hz
  have hik : i < k := by rw [← hf.len]; exact (List.getElem?_eq_some_iff.1 hr).1
  refine (tab_new w pf gf pm gm k rs bs hf hm hy n3 n4 n5 i hr hn).mono ?_
  rintro e w' ⟨pt, rfl, hpt, ht, ha⟩
  exact ⟨pt, rfl, hpt, ⟨_, ht, TI.new hm.len i hr hik hf.lim _ rfl⟩, ha⟩
end Go.Proofs.YtikmanafbkiikaaDoor
