/- RegionCuts, without the program: cutting and protecting answer as the reference's do, and the list that was given stays. -/
import Derived.Test.YtikmanafbkiikaaDoorXRegionx15
import Derived.Test.YtikmanafbkiikaaDoorRegRef
namespace Go.Proofs.YtikmanafbkiikaaDoor.Pure
set_option linter.unusedSimpArgs false
set_option linter.unusedVariables false
open Go.RowKit Go.Proofs.YtikmanafbkiikaaDoor.XRegion Go.Proofs.YtikmanafbkiikaaDoorW.PrintWords Go.Proofs.YtikmanafbkiikaaDoorW.PrintLast

theorem u8_nn {a : Int} (h : (Lit.int .u8 a).wf = true) : 0 ≤ a ∧ a < 256 := by
  have := h
  simp [Lit.wf] at this
  simp [IntKind.min, IntKind.max, IntKind.bits, IntKind.signed] at this
  omega
theorem pn_of {l : List R} (h : ∀ x ∈ l, ((Lit.int .i64 x.f0).wf = true ∧ (Lit.int .i64 x.f1).wf = true ∧ (Lit.int .u8 x.f2).wf = true)) : Pn (l.map cv) := by
  intro x hx
  obtain ⟨y, hy, rfl⟩ := List.mem_map.1 hx
  exact (u8_nn (h y hy).2.2).1
theorem sure1 : Ev (fun k => (halterlaw13_sure.f k).bind fun t => some t) true := Ev.bind sure_ev (Ev.now _)

theorem cuts (l : List R) (hl : l.length ≤ 40) (hn : Pn (l.map cv)) (a b : Int) : ∃ x z e, Ev (fun k => region_Cut.f k (l.map cv) a b) (x, e) ∧ Ev (fun k => halterref13_Cut.f k l a b) (z, e.getD 0) ∧ z.map cv = x ∧ z.length ≤ big := by
  have hb : (l.map cv).length ≤ big := by rw [cv_len]; unfold big; omega
  have hb' : l.length ≤ big := by unfold big; omega
  have hc := Cut_ev hn hb a b
  by_cases h : Vd (l.map cv) ∧ 0 ≤ a ∧ a < b ∧ b ≤ 4096
  · rw [if_pos h] at hc
    obtain ⟨z, hz, hzy⟩ := RCut_ok h.1 h.2
    refine ⟨_, z, none, hc, hz, hzy, ?_⟩
    have := (cut_vd h.2.2.1 h.1).len
    rw [← hzy, cv_len] at this
    unfold big; omega
  · rw [if_neg h] at hc
    exact ⟨[], [], some 22, hc, RCut_bad hn hb' h, rfl, by unfold big; simp⟩
theorem prots (l : List R) (hl : l.length ≤ 40) (hn : Pn (l.map cv)) (a b p : Int) (hp : 0 ≤ p) : ∃ x z e, Ev (fun k => region_Protect.f k (l.map cv) a b p) (x, e) ∧ Ev (fun k => halterref13_Protect.f k l a b p) (z, e.getD 0) ∧ z.map cv = x ∧ z.length ≤ big := by
  have hb : (l.map cv).length ≤ big := by rw [cv_len]; unfold big; omega
  have hb' : l.length ≤ big := by unfold big; omega
  by_cases h : Vd (l.map cv) ∧ (0 ≤ a ∧ a < b ∧ b ≤ 4096) ∧ p ≤ 7
  · by_cases hc : ∀ q, a ≤ q → q < b → pm (l.map cv) q ≠ none
    · obtain ⟨y, hy, hyv, hyp⟩ := Protect_ok h.1 h.2.1 hp h.2.2 hc
      obtain ⟨z, hz, hzy⟩ := RProt_ok h.1 h.2.1 hp h.2.2 hc hyv hyp
      refine ⟨y, z, none, hy, hz, hzy, ?_⟩
      have := hyv.len
      rw [← hzy, cv_len] at this
      unfold big; omega
    · exact ⟨[], [], some 12, Protect_none h.1 h.2.1 h.2.2 hc, RProt_none h.1 h.2.1 hp h.2.2 hc, rfl, by unfold big; simp⟩
  · exact ⟨[], [], some 22, Protect_bad hn hb h, RProt_bad hn hb' h, rfl, by unfold big; simp⟩

theorem RegionCuts : halterlaw13_RegionCuts.Pure := by
  intro l0 a b p h _ hp
  obtain ⟨h1, h2, h3⟩ := h
  refine Ev.rounds (r := true) ?_
  have hn := pn_of h3
  unfold halterlaw13_RegionCuts.f
  by_cases h40 : (l0.length : Int) > 40
  · simp only [if_pos h40]; exact sure1
  · simp only [if_neg h40]
    have hl : l0.length ≤ 40 := by omega
    obtain ⟨x, z, e, k1, k2, k3, k4⟩ := cuts l0 hl hn a b
    obtain ⟨x', z', e', m1, m2, m3, m4⟩ := prots l0 hl hn a b p (u8_nn hp).1
    refine Ev.bind (give_ev l0 (by omega)) (Ev.bind k1 (Ev.bind k2 (Ev.bind m1 (Ev.bind m2 (Ev.bind (Are_ev k4 k3) ?_)))))
    simp only [if_true, halterlaw13_num.f, Option.bind_some]
    refine Ev.bind (Are_ev m4 m3) ?_
    simp only [if_true]
    refine Ev.bind (Are_ev (by unfold big; omega) rfl) ?_
    simp only [if_true]
    exact sure1
end Go.Proofs.YtikmanafbkiikaaDoor.Pure
