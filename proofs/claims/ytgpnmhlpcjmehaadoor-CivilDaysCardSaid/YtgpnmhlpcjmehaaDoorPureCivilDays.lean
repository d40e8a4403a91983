/- CivilDays, as plain Lean: no program in sight. -/
import Derived.Test.YtgpnmhlpcjmehaaDoorQx9
import Derived.Test.YtgpnmhlpcjmehaaDoorOpens
import Derived.Test.YtgpnmhlpcjmehaaDoorCDays
namespace Go.Proofs.YtgpnmhlpcjmehaaDoor.Pure
open Go.RowKit Go.Proofs.YtgpnmhlpcjmehaaDoor.Q Go.Proofs.YtgpnmhlpcjmehaaDoorW.PrintWords Go.Proofs.YtgpnmhlpcjmehaaDoorW.PrintLast

theorem CivilDays : ∀ (x0 : S23) (x1 : Int), (((Lit.int .i64 x0.f0).wf = true) ∧ ((Lit.int .i64 x0.f1).wf = true) ∧ ((Lit.int .i64 x0.f2).wf = true)) → ((Lit.int .i64 x1).wf = true) → ∃ k, sundiallaw03_CivilDays.f k x0.f0 x0.f1 x0.f2 x1 = some true := by
  intro x0 x1 _ _
  obtain ⟨r, e1, e2⟩ := C.days_ev x1
  refine Ev.rounds (g := fun k => sundiallaw03_CivilDays.f k x0.f0 x0.f1 x0.f2 x1) ?_
  unfold sundiallaw03_CivilDays.f
  refine Ev.bind C.awakeE ?_
  simp only [if_true]
  refine Ev.bind (C.number_ev _ _ _) ?_
  refine Ev.bind (C.numberR_ev _ _ _) ?_
  refine Ev.bind e1 ?_
  refine Ev.bind e2 ?_
  simp only [C.last_eq, Option.bind_some]
  refine Ev.bind (C.lastR_ev _ _ _) ?_
  refine Ev.bind (C.week_ev _ _ _) ?_
  refine Ev.bind (C.weekR_ev _ _ _) ?_
  simp only [C.leap_eq, C.leapR_eq, Option.bind_some, beq_self_eq_true, Bool.and_self, if_true]
  exact Ev.now _

end Go.Proofs.YtgpnmhlpcjmehaaDoor.Pure
