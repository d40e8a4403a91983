/- HullGrows: every input is answered true; the arguments read as they did. The walk is printed; the pure statement is proved in YtopeelklnjbdoaaPureHullGrows. -/
import Derived.Test.YtopeelklnjbdoaaRows
import Derived.Test.YtopeelklnjbdoaaQx10
import Derived.Test.YtopeelklnjbdoaaOpens
import Derived.Test.YtopeelklnjbdoaaPureHullGrows
import Derived.WalkKit
import Derived.ProofKit
import Derived.OpenShut
import Derived.ShutString
import Derived.ChangeOld
import Derived.Below
import Derived.SizedLaws
namespace Go.Proofs.Ytopeelklnjbdoaa.hullGrows
open Go.ChangeShapes Go.WideShapes Go.ChangeAt Go.RowKit Go.Proofs.YtopeelklnjbdoaaO Go.Proofs.Ytopeelklnjbdoaa.Q Go.Proofs.YtopeelklnjbdoaaW.PrintWords
open Go.ChangeMaps (open_string shut_string)
set_option linter.unusedVariables false
set_option linter.unusedSimpArgs false
theorem own : ownKnob Try.prog.godebug = none := by kernel_rfl
theorem laidOut : laidOutB Try.prog = true := by kernel_rfl
theorem op25 : Opens Try.prog k25 25 (fun x => ((Lit.int .i64 x.f0).wf = true) ∧ ((Lit.int .i64 x.f1).wf = true)) :=
  opens_struct (fun y => (⟨y.1, y.2⟩ : S25)) (fun _ => rfl) Try.underlying25 (by kernel_rfl) (opensFs_cons (by kernel_rfl) (opens_int (k := .i64) Try.underlying23 (by kernel_rfl) : Opens Try.prog (Kd.int .i64) 23 (fun x => (Lit.int .i64 x).wf = true)) (opensFs_one (by kernel_rfl) (opens_int (k := .i64) Try.underlying23 (by kernel_rfl) : Opens Try.prog (Kd.int .i64) 23 (fun x => (Lit.int .i64 x).wf = true))))
theorem op22 : Opens Try.prog (Kd.slice 25 k25) 22 (fun xs => xs.length ≤ maxLen ∧ xs.length * 16 ≤ 140737488351232 ∧ ∀ y ∈ xs, ((Lit.int .i64 y.f0).wf = true) ∧ ((Lit.int .i64 y.f1).wf = true)) := opens_slice Try.underlying22 (by kernel_rfl) (by kernel_rfl) op25
set_option maxRecDepth 100000 in
theorem lifted (os : Os) (started : os.Started) (H : Type) (enc : TypeId × Value → H) :
    ReturnsInHanded {} Try.checked os 5 .any (Rows.hullGrowsSpec.pre6 enc Try.prog Try.f5 Rows.hullGrowsRow.domain false) (Rows.hullGrowsSpec.post enc Try.prog Try.f5 false true false false) := by
  refine returnsInHanded_of_change_sized (C := Try.checked) own started (by kernel_rfl) Try.func5
    (ChangeSpec.witness6 (enc := enc) (C := Try.checked) false ⟨#[], #[.slice none 0 0, .int .i64 0], []⟩ 8 (by kernel_rfl) (by kernel_rfl) (by kernel_rfl) (by kernel_rfl)) ?_
  intro W base args ds gs before hval0 hW hcnd hsz0 _
  have hsz : (DataW.weightsEach Try.prog (Try.f5.params.toList ++ Rows.hullGrowsSpec.plain.varTypes Try.prog) (ds ++ gs)).all (· ≤ reachBytes) = true := hsz0
  have hval : ∀ (j : Nat) t v, Try.f5.params[j]? = some t → args[j]? = some v → Value.okWide Try.prog W .any base t v := hval0
  have hW' := hW
  obtain ⟨p, q, hA0, hV, rfl, hfz, hnd⟩ := hW
  have hA : DataW.TrodAll enc Try.prog W 0 (fun _ => true) true Try.f5.params.toList args.toList ds p := hA0
  rw [Try.params5] at hA hval hsz
  obtain ⟨v0, vs0, d0, ds0, p0, q0, hargs, rfl, rfl, h0, r0⟩ := trodAll_cons hA
  obtain ⟨v1, vs1, d1, ds1, p1, q1, rfl, rfl, rfl, h1, r1⟩ := trodAll_cons r0
  obtain ⟨rfl, rfl, rfl⟩ := trodAll_nil r1
  obtain rfl : args = #[v0, v1] := by cases args; simp_all
  obtain ⟨rfl, rfl⟩ := trodVars_none hV
  have k0 := h0
  have lt0 : ∀ x ∈ p0, x.block < W.heap.size := by obtain ⟨m, hm⟩ := k0; exact DataW.trod_lt m _ _ _ hm
  obtain ⟨a0, len0, cap0, rfl⟩ := okWide_slice Try.underlying22 (hval 0 22 v0 rfl rfl)
  obtain ⟨x0, K0, w0⟩ := Opens.arg op22 hsz (j := 0) rfl rfl h0
  obtain ⟨rfl, hc0, hr0⟩ := K_slice K0
  obtain ⟨x1, rfl, rfl, rfl, w1⟩ := open_int Try.underlying3 (hval 1 3 v1 rfl rfl) h1
  clear hA0 hval0 hsz0 hsz
  obtain ⟨k, hk⟩ := Pure.HullGrows x0 x1 w0 w1
  refine (Q.sundiallaw15_HullGrows.calls k _ _ x0 x1 true W hr0 hc0 hk).mono fun e W' ⟨he, bel0⟩ => ?_
  have bel : Below W.heap.size W W' := bel0
  subst he
  exact ⟨_, rfl, _, _, _, [], _, [], hW', trodAll_mk1 (shut_bool Try.underlying4 _), (trodAll_cons_mk (Below.trod laidOut (by kernel_rfl) (of_decide_eq_true (by kernel_rfl)) k0 bel lt0) (trodAll_cons_mk (shut_int Try.underlying3 w1) trodAll_mk0)), rfl, bel.frame _, fun h => by cases h⟩
theorem over : Rows.hullGrowsRow.holds Try.pinned (OpenSpec.ofChange Rows.hullGrowsSpec) :=
  OpenClaim.holds_of_wide 5 Try.f5 rfl rfl rfl rfl rfl rfl rfl ⟨rfl, rfl, rfl, rfl, rfl⟩ rfl rfl rfl rfl rfl (by kernel_rfl) Try.func5 (by kernel_rfl)
    (of_decide_eq_true (by kernel_rfl)) (by unfold Func.isWrapper; rw [if_neg (of_decide_eq_false (by kernel_rfl))]; exact ⟨rfl, rfl⟩)
    (fun os started H enc _ => lifted os started H enc)
theorem proved : Rows.HullGrowsSaid := over
#print axioms proved
end Go.Proofs.Ytopeelklnjbdoaa.hullGrows
namespace Go.Proofs.Ytopeelklnjbdoaa
/-- The row, under a short name, for the claim. -/
theorem hullGrows_holds : Rows.HullGrowsSaid := hullGrows.proved
end Go.Proofs.Ytopeelklnjbdoaa
