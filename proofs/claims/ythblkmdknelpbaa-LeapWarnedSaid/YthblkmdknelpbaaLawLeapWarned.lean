/- LeapWarned: every input is answered true; the arguments read as they did. The walk is printed; the pure statement is proved in YthblkmdknelpbaaPureLeapWarned. -/
import Derived.Test.YthblkmdknelpbaaRows
import Derived.Test.YthblkmdknelpbaaQx8
import Derived.Test.YthblkmdknelpbaaOpens
import Derived.Test.YthblkmdknelpbaaPureLeapWarned
import Derived.WalkKit
import Derived.ProofKit
import Derived.OpenShut
import Derived.ShutString
import Derived.ChangeOld
import Derived.Below
import Derived.SizedLaws
namespace Go.Proofs.Ythblkmdknelpbaa.leapWarned
open Go.ChangeShapes Go.WideShapes Go.ChangeAt Go.RowKit Go.Proofs.YthblkmdknelpbaaO Go.Proofs.Ythblkmdknelpbaa.Q Go.Proofs.YthblkmdknelpbaaW.PrintWords
open Go.ChangeMaps (open_string shut_string)
set_option linter.unusedVariables false
set_option linter.unusedSimpArgs false
theorem own : ownKnob Try.prog.godebug = none := by kernel_rfl
theorem laidOut : laidOutB Try.prog = true := by kernel_rfl
theorem op36 : Opens Try.prog k36 36 (fun x => ((Lit.int .i64 x.f0).wf = true) ∧ ((Lit.int .i64 x.f1).wf = true)) :=
  opens_struct (fun y => (⟨y.1, y.2⟩ : S36)) (fun _ => rfl) Try.underlying36 (by kernel_rfl) (opensFs_cons (by kernel_rfl) (opens_int (k := .i64) Try.underlying23 (by kernel_rfl) : Opens Try.prog (Kd.int .i64) 23 (fun x => (Lit.int .i64 x).wf = true)) (opensFs_one (by kernel_rfl) (opens_int (k := .i64) Try.underlying3 (by kernel_rfl) : Opens Try.prog (Kd.int .i64) 3 (fun x => (Lit.int .i64 x).wf = true))))
theorem op22 : Opens Try.prog (Kd.slice 36 k36) 22 (fun xs => xs.length ≤ maxLen ∧ xs.length * 16 ≤ 140737488351232 ∧ ∀ y ∈ xs, ((Lit.int .i64 y.f0).wf = true) ∧ ((Lit.int .i64 y.f1).wf = true)) := opens_slice Try.underlying22 (by kernel_rfl) (by kernel_rfl) op36
theorem op25 : Opens Try.prog k25 25 (fun x => (x.f0.length ≤ maxLen ∧ x.f0.length * 16 ≤ 140737488351232 ∧ ∀ y ∈ x.f0, ((Lit.int .i64 y.f0).wf = true) ∧ ((Lit.int .i64 y.f1).wf = true)) ∧ ((Lit.int .i64 x.f1).wf = true)) :=
  opens_struct (fun y => (⟨y.1, y.2⟩ : S25)) (fun _ => rfl) Try.underlying25 (by kernel_rfl) (opensFs_cons (by kernel_rfl) op22 (opensFs_one (by kernel_rfl) (opens_int (k := .i64) Try.underlying23 (by kernel_rfl) : Opens Try.prog (Kd.int .i64) 23 (fun x => (Lit.int .i64 x).wf = true))))
set_option maxRecDepth 100000 in
theorem lifted (os : Os) (started : os.Started) (H : Type) (enc : TypeId × Value → H) :
    ReturnsInHanded {} Try.checked os 4 .any (Rows.leapWarnedSpec.pre6 enc Try.prog Try.f4 Rows.leapWarnedRow.domain false) (Rows.leapWarnedSpec.post enc Try.prog Try.f4 false true false false) := by
  refine returnsInHanded_of_change_sized (C := Try.checked) own started (by kernel_rfl) Try.func4
    (ChangeSpec.witness6 (enc := enc) (C := Try.checked) false ⟨#[], #[.agg #[.slice none 0 0, .int .i64 0], .int .i64 0, .int .i64 0], []⟩ 8 (by kernel_rfl) (by kernel_rfl) (by kernel_rfl) (by kernel_rfl)) ?_
  intro W base args ds gs before hval0 hW hcnd hsz0 _
  have hsz : (DataW.weightsEach Try.prog (Try.f4.params.toList ++ Rows.leapWarnedSpec.plain.varTypes Try.prog) (ds ++ gs)).all (· ≤ reachBytes) = true := hsz0
  have hval : ∀ (j : Nat) t v, Try.f4.params[j]? = some t → args[j]? = some v → Value.okWide Try.prog W .any base t v := hval0
  have hW' := hW
  obtain ⟨p, q, hA0, hV, rfl, hfz, hnd⟩ := hW
  have hA : DataW.TrodAll enc Try.prog W 0 (fun _ => true) true Try.f4.params.toList args.toList ds p := hA0
  rw [Try.params4] at hA hval hsz
  obtain ⟨v0, vs0, d0, ds0, p0, q0, hargs, rfl, rfl, h0, r0⟩ := trodAll_cons hA
  obtain ⟨v1, vs1, d1, ds1, p1, q1, rfl, rfl, rfl, h1, r1⟩ := trodAll_cons r0
  obtain ⟨v2, vs2, d2, ds2, p2, q2, rfl, rfl, rfl, h2, r2⟩ := trodAll_cons r1
  obtain ⟨rfl, rfl, rfl⟩ := trodAll_nil r2
  obtain rfl : args = #[v0, v1, v2] := by cases args; simp_all
  obtain ⟨rfl, rfl⟩ := trodVars_none hV
  have k0 := h0
  have lt0 : ∀ x ∈ p0, x.block < W.heap.size := by obtain ⟨m, hm⟩ := k0; exact DataW.trod_lt m _ _ _ hm
  obtain ⟨cs0, rfl, -⟩ := okWide_struct Try.underlying25 (hval 0 25 v0 rfl rfl)
  obtain ⟨x0, K0, w0⟩ := Opens.arg op25 hsz (j := 0) rfl rfl h0
  obtain ⟨A0_0, c0_0, hcs0, hc0_0, hr0_0⟩ := k25_open K0
  obtain rfl : cs0 = #[.slice A0_0 x0.f0.length c0_0, .int .i64 x0.f1] := by
    apply Array.toList_inj.1
    exact hcs0
  obtain ⟨x1, rfl, rfl, rfl, w1⟩ := open_int Try.underlying3 (hval 1 3 v1 rfl rfl) h1
  obtain ⟨x2, rfl, rfl, rfl, w2⟩ := open_int Try.underlying23 (hval 2 23 v2 rfl rfl) h2
  clear hA0 hval0 hsz0 hsz
  obtain ⟨k, hk⟩ := Pure.LeapWarned x0 x1 x2 w0 w1 w2
  refine (Q.sundiallaw08_LeapWarned.calls k _ _ x0.f0 x0.f1 x1 x2 true W hr0_0 hc0_0 hk).mono fun e W' ⟨he, bel0⟩ => ?_
  have bel : Below W.heap.size W W' := bel0
  subst he
  exact ⟨_, rfl, _, _, _, [], _, [], hW', trodAll_mk1 (shut_bool Try.underlying4 _), (trodAll_cons_mk (Below.trod laidOut (by kernel_rfl) (of_decide_eq_true (by kernel_rfl)) k0 bel lt0) (trodAll_cons_mk (shut_int Try.underlying3 w1) (trodAll_cons_mk (shut_int Try.underlying23 w2) trodAll_mk0))), rfl, bel.frame _, fun h => by cases h⟩
theorem over : Rows.leapWarnedRow.holds Try.pinned (OpenSpec.ofChange Rows.leapWarnedSpec) :=
  OpenClaim.holds_of_wide 4 Try.f4 rfl rfl rfl rfl rfl rfl rfl ⟨rfl, rfl, rfl, rfl, rfl⟩ rfl rfl rfl rfl rfl (by kernel_rfl) Try.func4 (by kernel_rfl)
    (of_decide_eq_true (by kernel_rfl)) (by unfold Func.isWrapper; rw [if_neg (of_decide_eq_false (by kernel_rfl))]; exact ⟨rfl, rfl⟩)
    (fun os started H enc _ => lifted os started H enc)
theorem proved : Rows.LeapWarnedSaid := over
#print axioms proved
end Go.Proofs.Ythblkmdknelpbaa.leapWarned
namespace Go.Proofs.Ythblkmdknelpbaa
/-- The row, under a short name, for the claim. -/
theorem leapWarned_holds : Rows.LeapWarnedSaid := leapWarned.proved
end Go.Proofs.Ythblkmdknelpbaa
