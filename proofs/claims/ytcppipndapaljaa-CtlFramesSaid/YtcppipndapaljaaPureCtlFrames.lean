/- CtlFrames, as plain Lean: no program in sight. -/
import Derived.Test.YtcppipndapaljaaQx8
import Derived.Test.YtcppipndapaljaaOpens
import Derived.Test.YtcppipndapaljaaCBack
import Derived.Test.YtcppipndapaljaaCRef
import Derived.Test.YtcppipndapaljaaCDecR
namespace Go.Proofs.Ytcppipndapaljaa.Pure
open Go.RowKit Go.Proofs.Ytcppipndapaljaa.Q Go.Proofs.YtcppipndapaljaaW.PrintWords Go.Proofs.YtcppipndapaljaaW.PrintLast

theorem CtlFrames : ∀ (x0 : S24) (x1 : List Int), (((Lit.int .i64 x0.f0).wf = true) ∧ (True) ∧ (True) ∧ (True) ∧ ((Lit.int .i64 x0.f4).wf = true) ∧ ((Lit.int .i64 x0.f5).wf = true) ∧ ((Lit.int .i64 x0.f6).wf = true) ∧ ((Lit.int .i64 x0.f7).wf = true) ∧ ((Lit.int .i64 x0.f8).wf = true) ∧ (x0.f9.length ≤ maxLen ∧ x0.f9.length * 1 ≤ 140737488351232 ∧ ∀ y ∈ x0.f9, (Lit.int .u8 y).wf = true)) → (x1.length ≤ maxLen ∧ x1.length * 1 ≤ 140737488351232 ∧ ∀ y ∈ x1, (Lit.int .u8 y).wf = true) → ∃ k, sundiallaw10_CtlFrames.f k x0.f0 x0.f1 x0.f2 x0.f3 x0.f4 x0.f5 x0.f6 x0.f7 x0.f8 x0.f9 x1 = some true := by
  intro x0 x1 _ h1
  have hb : C.Bs x1 := fun y hy => Go.Proofs.YtcppipndapaljaaO.wf_u8 (h1.2.2 y hy)
  have hm : x1.length ≤ 140737488351232 := by have := h1.2.1; omega
  refine Ev.rounds (g := fun k => sundiallaw10_CtlFrames.f k x0.f0 x0.f1 x0.f2 x0.f3 x0.f4 x0.f5 x0.f6 x0.f7 x0.f8 x0.f9 x1) ?_
  unfold sundiallaw10_CtlFrames.f
  refine Ev.bind C.awakeE ?_
  simp only [if_true]
  refine Ev.bind (C.enc_ev _ _ _ _ _ _ _ _ _ _) ?_
  refine Ev.bind (C.encR_ev _ _ _ _ _ _ _ _ _ _) ?_
  refine Ev.bind (C.dec_ev hb hm) ?_
  refine Ev.bind (C.decR_ev hb hm) ?_
  simp only [C.same_eq, Option.bind_some, if_true, beq_self_eq_true]
  exact Ev.now _

end Go.Proofs.Ytcppipndapaljaa.Pure
