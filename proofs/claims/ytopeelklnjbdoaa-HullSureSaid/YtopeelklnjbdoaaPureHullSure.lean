/- HullSure, as plain Lean: no program in sight. -/
import Derived.Test.YtopeelklnjbdoaaHLiars
import Derived.Test.YtopeelklnjbdoaaOpens
namespace Go.Proofs.Ytopeelklnjbdoaa.Pure
open Go.RowKit Go.Proofs.Ytopeelklnjbdoaa.Q Go.Proofs.Ytopeelklnjbdoaa.H Go.Proofs.YtopeelklnjbdoaaW.PrintWords Go.Proofs.YtopeelklnjbdoaaW.PrintLast

/-- What a hull tells of a time that enough spans hold. -/
theorem IsHull.sure {l : List S25} {n : Int} (hn : 1 ≤ n) {r : Int × Int × Int} (h : IsHull l n r) {t : Int} (ht : n ≤ (cnt l t : Int)) : ∃ a b, r = (a, b, 0) ∧ a ≤ t ∧ t ≤ b := by
  obtain ⟨s, hs, hs1, _, hsn⟩ := begin_enough hn ht
  obtain ⟨u, hu, hu1, _, hun⟩ := end_enough hn ht
  rcases h with ⟨_, h⟩ | ⟨a, b, rfl, _, h2, _, h4⟩
  · have := h s hs; omega
  · have e1 := h2 s hs hsn
    have e2 := h4 u hu hun
    exact ⟨a, b, rfl, by omega, by omega⟩

theorem HullSure : ∀ (x0 : List (S25)) (x1 : Int) (x2 : Int), (x0.length ≤ maxLen ∧ x0.length * 16 ≤ 140737488351232 ∧ ∀ y ∈ x0, ((Lit.int .i64 y.f0).wf = true) ∧ ((Lit.int .i64 y.f1).wf = true)) → ((Lit.int .i64 x1).wf = true) → ((Lit.int .i64 x2).wf = true) → ∃ k, sundiallaw15_HullSure.f k x0 x1 x2 = some true := by
  intro l f t hl hf ht
  have hf' := Go.Proofs.YtopeelklnjbdoaaO.wf_i64 hf
  refine Ev.rounds ?_
  unfold sundiallaw15_HullSure.f
  refine Ev.bind awake_ev ?_
  simp only [if_true]
  refine Ev.bind (hull_ev l f hf'.2) ?_
  refine Ev.bind (held_ev l t) ?_
  refine Ev.congr (f := fun k => sundiallaw15_HullSure.j0 k l f t (hullR l f).2.2 (heldR l t).1 (heldR l t).2 (!okT t) (hullR l f).1 (hullR l f).2.1) (fun k => ?_) ?_
  · unfold okT
    by_cases h1 : t < -2305843009213693952
    · rw [if_pos h1, show decide (-2305843009213693952 ≤ t) = false from decide_eq_false (by omega)]; rfl
    · rw [if_neg h1, show decide (-2305843009213693952 ≤ t) = true from decide_eq_true (by omega)]
      by_cases h2 : t > 2305843009213693952
      · rw [decide_eq_true h2, show decide (t ≤ 2305843009213693952) = false from decide_eq_false (by omega)]; rfl
      · rw [decide_eq_false h2, show decide (t ≤ 2305843009213693952) = true from decide_eq_true (by omega)]; rfl
  · unfold heldR
    by_cases ho : okL l = true
    · have hll := okL_iff.1 ho
      by_cases hT : okT t = true
      · simp only [ho, hT, if_true, Bool.not_true]
        unfold hullR
        simp only [ho, if_true]
        by_cases h1 : f < 0
        · simp only [if_pos h1]
          refine Ev.step (f := fun k => sundiallaw15_HullSure.j1 k l f t 2 (cnt l t : Int) true 0 0) (fun k => by simp [sundiallaw15_HullSure.j0]) ?_
          exact Ev.step (f := fun _ => some true) (fun k => by simp [sundiallaw15_HullSure.j1]) (Ev.now _)
        · simp only [if_neg h1]
          by_cases h2 : (l.length : Int) ≤ f
          · simp only [if_pos h2]
            refine Ev.step (f := fun k => sundiallaw15_HullSure.j1 k l f t 61 (cnt l t : Int) true 0 0) (fun k => by simp [sundiallaw15_HullSure.j0]) ?_
            exact Ev.step (f := fun _ => some true) (fun k => by simp [sundiallaw15_HullSure.j1]) (Ev.now _)
          · simp only [if_neg h2]
            have hh := sweep_hull l (fun s hs => (okS_iff.1 (hll.2 s hs)).2.2) ((l.length : Int) - f) (by omega)
            generalize sweep ((l.length : Int) - f) (sortE (eds l)) 0 false 0 0 = r at hh ⊢
            have hw : wrap64 ((l.length : Int) - f) = (l.length : Int) - f := wrap_id (by omega) (by omega)
            by_cases hc : (l.length : Int) - f ≤ (cnt l t : Int)
            · obtain ⟨a, b, rfl, hab, hbb⟩ := IsHull.sure (by omega) hh hc
              refine Ev.step (f := fun k => sundiallaw15_HullSure.j1 k l f t 0 (cnt l t : Int) false a b) (fun k => by simp [sundiallaw15_HullSure.j0]) ?_
              refine Ev.step (f := fun _ => some true) (fun k => ?_) (Ev.now _)
              simp only [sundiallaw15_HullSure.j1, hw]
              rw [if_neg (by decide), if_neg (by decide), if_pos trivial, if_neg (by omega), if_pos hab, decide_eq_true hbb]
            · rcases hh with ⟨rfl, _⟩ | ⟨a, b, rfl, _⟩
              · refine Ev.step (f := fun k => sundiallaw15_HullSure.j1 k l f t 60 (cnt l t : Int) false 0 0) (fun k => by simp [sundiallaw15_HullSure.j0]) ?_
                refine Ev.step (f := fun _ => some true) (fun k => ?_) (Ev.now _)
                simp only [sundiallaw15_HullSure.j1, hw]
                rw [if_neg (by decide), if_pos trivial, decide_eq_true (by omega)]
              · refine Ev.step (f := fun k => sundiallaw15_HullSure.j1 k l f t 0 (cnt l t : Int) false a b) (fun k => by simp [sundiallaw15_HullSure.j0]) ?_
                refine Ev.step (f := fun _ => some true) (fun k => ?_) (Ev.now _)
                simp only [sundiallaw15_HullSure.j1, hw]
                rw [if_neg (by decide), if_neg (by decide), if_pos trivial, if_pos (by omega)]
      · simp only [ho, hT, if_true, if_false, Bool.false_eq_true]
        exact Ev.step (f := fun _ => some true) (fun k => by simp [sundiallaw15_HullSure.j0]) (Ev.now _)
    · unfold hullR
      simp only [ho, if_false, Bool.false_eq_true]
      by_cases hT : okT t = true
      · simp only [hT, Bool.not_true]
        refine Ev.step (f := fun k => sundiallaw15_HullSure.j1 k l f t 3 0 true 0 0) (fun k => by simp [sundiallaw15_HullSure.j0]) ?_
        exact Ev.step (f := fun _ => some true) (fun k => by simp [sundiallaw15_HullSure.j1]) (Ev.now _)
      · simp only [Bool.not_eq_true] at hT
        simp only [hT, Bool.not_false]
        exact Ev.step (f := fun _ => some true) (fun k => by simp [sundiallaw15_HullSure.j0]) (Ev.now _)
end Go.Proofs.Ytopeelklnjbdoaa.Pure
