/- CivilTexts, as plain Lean: no program in sight. -/
import Derived.Test.YtgpnmhlpcjmehaaDoorRx10
import Derived.Test.YtgpnmhlpcjmehaaDoorOpens
import Derived.Test.YtgpnmhlpcjmehaaDoorRTexts
namespace Go.Proofs.YtgpnmhlpcjmehaaDoor.Pure
open Go.RowKit Go.Proofs.YtgpnmhlpcjmehaaDoor.R Go.Proofs.YtgpnmhlpcjmehaaDoorW.PrintWords Go.Proofs.YtgpnmhlpcjmehaaDoorW.PrintLast

theorem CivilTexts : ∀ (x0 : S23) (x1 : ByteArray), (((Lit.int .i64 x0.f0).wf = true) ∧ ((Lit.int .i64 x0.f1).wf = true) ∧ ((Lit.int .i64 x0.f2).wf = true)) → (x1.size ≤ 140737488351232) → ∃ k, sundiallaw03_CivilTexts.f k x0.f0 x0.f1 x0.f2 x1 = some true := by
  intro x0 x1 _ hs
  obtain ⟨r, e1, e2⟩ := RC.parses_ev x1 hs
  refine Ev.rounds (g := fun k => sundiallaw03_CivilTexts.f k x0.f0 x0.f1 x0.f2 x1) ?_
  unfold sundiallaw03_CivilTexts.f
  refine Ev.bind RC.awakeE ?_
  simp only [if_true, RC.text_eq, Option.bind_some]
  refine Ev.bind (RC.textR_ev _ _ _) ?_
  simp only [e1, Option.bind_some]
  refine Ev.bind e2 ?_
  simp only [beq_self_eq_true, Bool.and_self, if_true]
  exact Ev.now _

end Go.Proofs.YtgpnmhlpcjmehaaDoor.Pure
