/- HullGrows, as plain Lean: no program in sight. -/
import Derived.Test.YtopeelklnjbdoaaGBase
import Derived.Test.YtopeelklnjbdoaaOpens
import Derived.Test.YtopeelklnjbdoaaQx9
namespace Go.Proofs.Ytopeelklnjbdoaa.Pure
open Go.RowKit Go.Proofs.Ytopeelklnjbdoaa.Q Go.Proofs.Ytopeelklnjbdoaa.H Go.Proofs.YtopeelklnjbdoaaW.PrintWords Go.Proofs.YtopeelklnjbdoaaW.PrintLast

theorem cnt_append (l m : List S25) (t : Int) : cnt (l ++ m) t = cnt l t + cnt m t := List.countP_append
theorem cnt_one (s : S25) (t : Int) : cnt [s] t = if holds s t = true then 1 else 0 := by rw [cnt_cons]; simp [cnt]

/-- One more span that holds the hull changes nothing. -/
theorem more_hull {l l' : List S25} {n a b : Int} (z : S25) (hn : 1 ≤ n) (h : IsHull l n (a, b, 0)) (hz : z.f0 ≤ a ∧ b ≤ z.f1) (hm : ∀ s, s ∈ l' ↔ s = z ∨ s ∈ l) (hc : ∀ t, cnt l' t = (if holds z t = true then 1 else 0) + cnt l t) : IsHull l' (n + 1) (a, b, 0) := by
  rcases h with ⟨h, _⟩ | ⟨a', b', h, ⟨s, hs, hsa, hsn⟩, h2, ⟨u, hu, hub, hun⟩, h4⟩
  · injection h with _ h; injection h with _ h; cases h
  · injection h with e1 h
    injection h with e2 _
    subst e1; subst e2
    have hab : a ≤ b := by
      obtain ⟨v, hv, hv1, _, hvn⟩ := end_enough hn hsn
      have := h4 v hv hvn
      omega
    have key : ∀ t, n + 1 ≤ (cnt l' t : Int) → n ≤ (cnt l t : Int) := fun t ht => by
      rw [hc] at ht
      split at ht <;> omega
    have low : ∀ t, n ≤ (cnt l t : Int) → a ≤ t ∧ t ≤ b := fun t ht => by
      obtain ⟨v, hv, hv1, _, hvn⟩ := begin_enough hn ht
      obtain ⟨x, hx, hx1, _, hxn⟩ := end_enough hn ht
      have := h2 v hv hvn
      have := h4 x hx hxn
      omega
    have hza : holds z a = true := holds_iff.2 (by omega)
    have hzb : holds z b = true := holds_iff.2 (by omega)
    refine .inr ⟨a, b, rfl, ⟨s, (hm s).2 (.inr hs), hsa, ?_⟩, fun v hv hvn => (low _ (key _ hvn)).1, ⟨u, (hm u).2 (.inr hu), hub, ?_⟩, fun v hv hvn => (low _ (key _ hvn)).2⟩
    · rw [hc, if_pos hza]; omega
    · rw [hc, if_pos hzb]; omega

theorem HullGrows : ∀ (x0 : List (S25)) (x1 : Int), (x0.length ≤ maxLen ∧ x0.length * 16 ≤ 140737488351232 ∧ ∀ y ∈ x0, ((Lit.int .i64 y.f0).wf = true) ∧ ((Lit.int .i64 y.f1).wf = true)) → ((Lit.int .i64 x1).wf = true) → ∃ k, sundiallaw15_HullGrows.f k x0 x1 = some true := by
  intro l a1 hl hf
  have hlen : l.length * 16 ≤ 140737488351232 := hl.2.1
  have htm : -32 < Int.tmod a1 32 ∧ Int.tmod a1 32 < 32 := ⟨Int.lt_tmod_of_pos a1 (b := 32) (by decide), Int.tmod_lt_of_pos _ (by decide)⟩
  have hw : wrap64 (Int.tmod a1 32 + 32) = Int.tmod a1 32 + 32 := wrap_id (by omega) (by omega)
  refine Ev.rounds ?_
  unfold sundiallaw15_HullGrows.f
  rw [hw]
  obtain ⟨f, hfe, hf0, hf1⟩ : ∃ f : Int, Int.tmod (Int.tmod a1 32 + 32) 32 = f ∧ 0 ≤ f ∧ f < 32 :=
    ⟨_, rfl, Int.tmod_nonneg 32 (by omega), Int.tmod_lt_of_pos _ (by decide)⟩
  rw [hfe]
  clear hw htm hfe
  refine Ev.bind awake_ev ?_
  simp only [if_true]
  refine Ev.bind (hull_ev l f (by omega)) ?_
  unfold hullR
  by_cases ho : okL l = true
  · have hok := okL_iff.1 ho
    rw [if_pos ho, if_neg (by omega)]
    by_cases h1 : (l.length : Int) ≤ f
    · rw [if_pos h1]
      exact Ev.congr (fun k => by simp) (Ev.now true)
    · rw [if_neg h1]
      have hh := sweep_hull l (fun s hs => (okS_iff.1 (hok.2 s hs)).2.2) ((l.length : Int) - f) (by omega)
      generalize sweep ((l.length : Int) - f) (sortE (eds l)) 0 false 0 0 = r at hh ⊢
      have hh' := hh
      rcases hh' with ⟨rfl, _⟩ | ⟨a, b, rfl, ⟨s, hs, hsa, hsn⟩, h2, ⟨u, hu, hub, hun⟩, h4⟩
      · exact Ev.congr (fun k => by simp) (Ev.now true)
      · have bs := okS_iff.1 (hok.2 s hs)
        have bu := okS_iff.1 (hok.2 u hu)
        have hab : a ≤ b := by
          obtain ⟨v, hv, hv1, _, hvn⟩ := end_enough (by omega) hsn
          have := h4 v hv hvn
          omega
        have hTa : okT a = true := okT_iff.2 (by omega)
        have hTb : okT b = true := okT_iff.2 (by omega)
        simp only [if_true]
        refine Ev.bind (held_ev l a) ?_
        refine Ev.bind (held_ev l b) ?_
        simp only [heldR, ho, hTa, hTb, if_true]
        have hw2 : wrap64 ((l.length : Int) - f) = (l.length : Int) - f := wrap_id (by omega) (by omega)
        rw [hw2, decide_eq_false (show ¬ (cnt l b : Int) < (l.length : Int) - f by omega)]
        simp only [if_neg (show ¬ (cnt l a : Int) < (l.length : Int) - f by omega)]
        -- the greater budget
        have hj1 : Ev (fun k => sundiallaw15_HullGrows.j1 k l f false a b) true := by
          by_cases h32 : (l.length : Int) = 32
          · refine Ev.step (f := fun _ => some true) (fun k => ?_) (Ev.now _)
            simp only [sundiallaw15_HullGrows.j1]
            rw [if_neg (by decide), if_pos h32]
          · have g1 : IsHull (l ++ [⟨a, b⟩]) ((l.length : Int) - f + 1) (a, b, 0) := more_hull ⟨a, b⟩ (by omega) hh ⟨Int.le_refl _, Int.le_refl _⟩ (fun s => by simp [or_comm]) (fun t => by rw [cnt_append, cnt_one]; omega)
            have g2 : IsHull (⟨-2305843009213693952, 2305843009213693952⟩ :: l) ((l.length : Int) - f + 1) (a, b, 0) := more_hull ⟨-2305843009213693952, 2305843009213693952⟩ (by omega) hh ⟨by show (-2305843009213693952 : Int) ≤ a; omega, by show b ≤ (2305843009213693952 : Int); omega⟩ (fun s => by simp) (fun t => cnt_cons _ _ _)
            have o1 : okL (l ++ [⟨a, b⟩]) = true := okL_iff.2 ⟨by simp; omega, fun s hs => by
              rcases List.mem_append.1 hs with hs | hs
              · exact hok.2 s hs
              · simp at hs; subst hs; exact okS_iff.2 ⟨okT_iff.1 hTa, okT_iff.1 hTb, hab⟩⟩
            have o2 : okL (⟨-2305843009213693952, 2305843009213693952⟩ :: l) = true := okL_iff.2 ⟨by simp; omega, fun s hs => by
              rcases List.mem_cons.1 hs with rfl | hs
              · decide
              · exact hok.2 s hs⟩
            have r1 : hullR (l ++ [⟨a, b⟩]) f = (a, b, 0) := by
              unfold hullR
              rw [if_pos o1, if_neg (by omega), if_neg (by simp; omega)]
              refine (sweep_hull _ (fun s hs => (okS_iff.1 ((okL_iff.1 o1).2 s hs)).2.2) _ (by simp; omega)).unique ?_
              rw [show (((l ++ [(⟨a, b⟩ : S25)]).length : Nat) : Int) - f = (l.length : Int) - f + 1 from by simp; omega]
              exact g1
            have r2 : hullR (⟨-2305843009213693952, 2305843009213693952⟩ :: l) f = (a, b, 0) := by
              unfold hullR
              rw [if_pos o2, if_neg (by omega), if_neg (by simp; omega)]
              refine (sweep_hull _ (fun s hs => (okS_iff.1 ((okL_iff.1 o2).2 s hs)).2.2) _ (by simp; omega)).unique ?_
              rw [show ((((⟨-2305843009213693952, 2305843009213693952⟩ : S25) :: l).length : Nat) : Int) - f = (l.length : Int) - f + 1 from by simp; omega]
              exact g2
            have e1 := hull_ev (l ++ [⟨a, b⟩]) f (by omega)
            have e2 := hull_ev (⟨-2305843009213693952, 2305843009213693952⟩ :: l) f (by omega)
            rw [r1] at e1
            rw [r2] at e2
            refine Ev.step (f := fun k => (hull_Hull.f k (l ++ [⟨a, b⟩]) f).bind fun bt187 => (hull_Hull.f k (⟨-2305843009213693952, 2305843009213693952⟩ :: l) f).bind fun bt197 => (if bt187.2.2 = 0 then (if (bt187.1 == a && (bt187.2.1 == b)) = true then (if bt197.2.2 = 0 then (some (bt197.1 == a && (bt197.2.1 == b))) else (none)) else (none)) else (none))) (fun k => ?_) ?_
            · simp only [sundiallaw15_HullGrows.j1]
              rw [if_neg (by decide), if_neg h32]
              simp only [Option.bind_some, List.nil_append, List.length_nil, Nat.zero_add]
              rw [if_pos (by omega), if_pos (by simp; omega)]
              simp only [if_pos (show [(⟨-2305843009213693952, 2305843009213693952⟩ : S25)].length + l.length < 8796093022208 by simp; omega)]
              rfl
            · refine Ev.bind e1 ?_
              refine Ev.bind e2 ?_
              exact Ev.congr (fun k => by simp) (Ev.now true)
        have hw3 : wrap64 (f + 1) = f + 1 := wrap_id (by omega) (by omega)
        refine Ev.step (f := fun k => (hull_Hull.f k l (f + 1)).bind fun bt171 => (if bt171.2.2 = 0 then (if bt171.1 > a then none else (if bt171.2.1 < b then none else (sundiallaw15_HullGrows.j1 k l f false a b))) else (sundiallaw15_HullGrows.j1 k l f (bt171.2.2 != 61) a b))) (fun k => ?_) ?_
        · simp only [sundiallaw15_HullGrows.j0]
          rw [if_neg (by decide), hw3]
        · refine Ev.bind (hull_ev l (f + 1) (by omega)) ?_
          unfold hullR
          rw [if_pos ho, if_neg (by omega)]
          by_cases h5 : (l.length : Int) ≤ f + 1
          · rw [if_pos h5]
            exact hj1
          · rw [if_neg h5]
            have hg := sweep_hull l (fun s hs => (okS_iff.1 (hok.2 s hs)).2.2) ((l.length : Int) - (f + 1)) (by omega)
            generalize sweep ((l.length : Int) - (f + 1)) (sortE (eds l)) 0 false 0 0 = r2 at hg ⊢
            rcases hg with ⟨rfl, hg⟩ | ⟨a', b', rfl, _, h2', _, h4'⟩
            · have := hg s hs
              rw [hsa] at this
              omega
            · have e1 := h2' s hs (by rw [hsa]; omega)
              have e2 := h4' u hu (by rw [hub]; omega)
              refine Ev.congr (f := fun k => sundiallaw15_HullGrows.j1 k l f false a b) (fun k => ?_) hj1
              simp only
              rw [if_pos trivial, if_neg (by omega), if_neg (by omega)]
  · rw [if_neg ho]
    exact Ev.congr (fun k => by simp) (Ev.now true)
end Go.Proofs.Ytopeelklnjbdoaa.Pure
