/- CtlBack, as plain Lean: no program in sight. -/
import Derived.Test.YtcppipndapaljaaQx9
import Derived.Test.YtcppipndapaljaaOpens
import Derived.Test.YtcppipndapaljaaCBack
namespace Go.Proofs.Ytcppipndapaljaa.Pure
open Go.RowKit Go.Proofs.Ytcppipndapaljaa.Q Go.Proofs.YtcppipndapaljaaW.PrintWords Go.Proofs.YtcppipndapaljaaW.PrintLast

theorem back_ev {l : List Int} (hb : C.Bs l) (hm : l.length ≤ 140737488351232) : Ev (fun k => sundiallaw10_CtlBack.j0 k l) true := by
  refine Ev.step (fun k => by simp only [sundiallaw10_CtlBack.j0]; exact rfl) ?_
  refine Ev.bind (C.dec_ev hb hm) ?_
  by_cases h : (C.decF l).2.2.2.2.2.2.2.2.2.2 = 0
  · obtain ⟨v, r, e, m, op, s, st, asc, off, dt, h1, h2, h3⟩ := C.enc_dec hb h
    rw [h1]
    simp only [if_true]
    refine Ev.bind (C.enc_ev _ _ _ _ _ _ _ _ _ _) ?_
    rw [if_pos h2, h3]
    simp only [if_true, beq_self_eq_true]
    exact Ev.now _
  · simp only [if_neg h]
    have hz : ∃ q, C.decF l = C.Z q := by
      revert h
      unfold C.decF
      repeat' split
      all_goals first | exact fun _ => ⟨_, rfl⟩ | exact fun h => absurd rfl h
    obtain ⟨q, hq⟩ := hz
    rw [hq]
    refine Ev.congr (f := fun _ => some true) (fun k => ?_) (Ev.now _)
    unfold C.Z
    simp only [C.same_eq, Option.bind_some]
theorem CtlBack : ∀ (x0 : S24) (x1 : List Int), (((Lit.int .i64 x0.f0).wf = true) ∧ (True) ∧ (True) ∧ (True) ∧ ((Lit.int .i64 x0.f4).wf = true) ∧ ((Lit.int .i64 x0.f5).wf = true) ∧ ((Lit.int .i64 x0.f6).wf = true) ∧ ((Lit.int .i64 x0.f7).wf = true) ∧ ((Lit.int .i64 x0.f8).wf = true) ∧ (x0.f9.length ≤ maxLen ∧ x0.f9.length * 1 ≤ 140737488351232 ∧ ∀ y ∈ x0.f9, (Lit.int .u8 y).wf = true)) → (x1.length ≤ maxLen ∧ x1.length * 1 ≤ 140737488351232 ∧ ∀ y ∈ x1, (Lit.int .u8 y).wf = true) → ∃ k, sundiallaw10_CtlBack.f k x0.f0 x0.f1 x0.f2 x0.f3 x0.f4 x0.f5 x0.f6 x0.f7 x0.f8 x0.f9 x1 = some true := by
  intro x0 x1 h0 h1
  have hb : C.Bs x1 := fun y hy => Go.Proofs.YtcppipndapaljaaO.wf_u8 (h1.2.2 y hy)
  have hb0 : C.Bs x0.f9 := fun y hy => Go.Proofs.YtcppipndapaljaaO.wf_u8 (h0.2.2.2.2.2.2.2.2.2.2.2 y hy)
  have hm : x1.length ≤ 140737488351232 := by have := h1.2.1; omega
  refine Ev.rounds (g := fun k => sundiallaw10_CtlBack.f k x0.f0 x0.f1 x0.f2 x0.f3 x0.f4 x0.f5 x0.f6 x0.f7 x0.f8 x0.f9 x1) ?_
  unfold sundiallaw10_CtlBack.f
  refine Ev.bind C.awakeE ?_
  simp only [if_true]
  refine Ev.bind (C.enc_ev _ _ _ _ _ _ _ _ _ _) ?_
  by_cases h : C.isF x0.f0 x0.f4 x0.f5 x0.f6 x0.f7 x0.f8 x0.f9.length = true
  · simp only [if_pos h, if_true]
    have hl := C.encF_length x0.f0 x0.f1 x0.f2 x0.f3 x0.f4 x0.f5 x0.f6 x0.f7 x0.f8 x0.f9
    have hi := (C.isF_iff _ _ _ _ _ _ _).1 h
    refine Ev.bind (C.dec_ev (C.encF_bytes _ _ _ _ _ _ _ _ _ _ h hb0) (by omega)) ?_
    rw [C.dec_enc _ _ _ _ _ _ _ _ _ _ h]
    simp only [if_true, C.same_eq, Option.bind_some]
    simp only [show (((C.encF x0.f0 x0.f1 x0.f2 x0.f3 x0.f4 x0.f5 x0.f6 x0.f7 x0.f8 x0.f9).length : Int) % 4 = 0) = True from eq_true (by omega), if_true]
    exact back_ev hb hm
  · simp only [if_neg h, show ((3 : Int) = 0) = False from eq_false (by decide), if_false]
    exact back_ev hb hm

end Go.Proofs.Ytcppipndapaljaa.Pure
