/- CtlBack: every input is answered true; the arguments read as they did. The walk is printed; the pure statement is proved in YtcppipndapaljaaPureCtlBack. -/
import Derived.Test.YtcppipndapaljaaRows
import Derived.Test.YtcppipndapaljaaQx9
import Derived.Test.YtcppipndapaljaaOpens
import Derived.Test.YtcppipndapaljaaPureCtlBack
import Derived.WalkKit
import Derived.ProofKit
import Derived.OpenShut
import Derived.ShutString
import Derived.ChangeOld
import Derived.Below
import Derived.SizedLaws
namespace Go.Proofs.Ytcppipndapaljaa.ctlBack
open Go.ChangeShapes Go.WideShapes Go.ChangeAt Go.RowKit Go.Proofs.YtcppipndapaljaaO Go.Proofs.Ytcppipndapaljaa.Q Go.Proofs.YtcppipndapaljaaW.PrintWords
open Go.ChangeMaps (open_string shut_string)
set_option linter.unusedVariables false
set_option linter.unusedSimpArgs false
theorem own : ownKnob Try.prog.godebug = none := by kernel_rfl
theorem laidOut : laidOutB Try.prog = true := by kernel_rfl
theorem op22 : Opens Try.prog (Kd.slice 5 (Kd.int .u8)) 22 (fun xs => xs.length ≤ maxLen ∧ xs.length * 1 ≤ 140737488351232 ∧ ∀ y ∈ xs, (Lit.int .u8 y).wf = true) := opens_slice Try.underlying22 (by kernel_rfl) (by kernel_rfl) (opens_int (k := .u8) Try.underlying5 (by kernel_rfl) : Opens Try.prog (Kd.int .u8) 5 (fun x => (Lit.int .u8 x).wf = true))
theorem op24 : Opens Try.prog k24 24 (fun x => ((Lit.int .i64 x.f0).wf = true) ∧ (True) ∧ (True) ∧ (True) ∧ ((Lit.int .i64 x.f4).wf = true) ∧ ((Lit.int .i64 x.f5).wf = true) ∧ ((Lit.int .i64 x.f6).wf = true) ∧ ((Lit.int .i64 x.f7).wf = true) ∧ ((Lit.int .i64 x.f8).wf = true) ∧ (x.f9.length ≤ maxLen ∧ x.f9.length * 1 ≤ 140737488351232 ∧ ∀ y ∈ x.f9, (Lit.int .u8 y).wf = true)) :=
  opens_struct (fun y => (⟨y.1, y.2.1, y.2.2.1, y.2.2.2.1, y.2.2.2.2.1, y.2.2.2.2.2.1, y.2.2.2.2.2.2.1, y.2.2.2.2.2.2.2.1, y.2.2.2.2.2.2.2.2.1, y.2.2.2.2.2.2.2.2.2⟩ : S24)) (fun _ => rfl) Try.underlying24 (by kernel_rfl) (opensFs_cons (by kernel_rfl) (opens_int (k := .i64) Try.underlying3 (by kernel_rfl) : Opens Try.prog (Kd.int .i64) 3 (fun x => (Lit.int .i64 x).wf = true)) (opensFs_cons (by kernel_rfl) (opens_bool Try.underlying4 (by kernel_rfl) : Opens Try.prog Kd.bool 4 (fun _ => True)) (opensFs_cons (by kernel_rfl) (opens_bool Try.underlying4 (by kernel_rfl) : Opens Try.prog Kd.bool 4 (fun _ => True)) (opensFs_cons (by kernel_rfl) (opens_bool Try.underlying4 (by kernel_rfl) : Opens Try.prog Kd.bool 4 (fun _ => True)) (opensFs_cons (by kernel_rfl) (opens_int (k := .i64) Try.underlying3 (by kernel_rfl) : Opens Try.prog (Kd.int .i64) 3 (fun x => (Lit.int .i64 x).wf = true)) (opensFs_cons (by kernel_rfl) (opens_int (k := .i64) Try.underlying3 (by kernel_rfl) : Opens Try.prog (Kd.int .i64) 3 (fun x => (Lit.int .i64 x).wf = true)) (opensFs_cons (by kernel_rfl) (opens_int (k := .i64) Try.underlying3 (by kernel_rfl) : Opens Try.prog (Kd.int .i64) 3 (fun x => (Lit.int .i64 x).wf = true)) (opensFs_cons (by kernel_rfl) (opens_int (k := .i64) Try.underlying3 (by kernel_rfl) : Opens Try.prog (Kd.int .i64) 3 (fun x => (Lit.int .i64 x).wf = true)) (opensFs_cons (by kernel_rfl) (opens_int (k := .i64) Try.underlying3 (by kernel_rfl) : Opens Try.prog (Kd.int .i64) 3 (fun x => (Lit.int .i64 x).wf = true)) (opensFs_one (by kernel_rfl) op22))))))))))
set_option maxRecDepth 100000 in
theorem lifted (os : Os) (started : os.Started) (H : Type) (enc : TypeId × Value → H) :
    ReturnsInHanded {} Try.checked os 4 .any (Rows.ctlBackSpec.pre6 enc Try.prog Try.f4 Rows.ctlBackRow.domain false) (Rows.ctlBackSpec.post enc Try.prog Try.f4 false true false false) := by
  refine returnsInHanded_of_change_sized (C := Try.checked) own started (by kernel_rfl) Try.func4
    (ChangeSpec.witness6 (enc := enc) (C := Try.checked) false ⟨#[], #[.agg #[.int .i64 0, .bool false, .bool false, .bool false, .int .i64 0, .int .i64 0, .int .i64 0, .int .i64 0, .int .i64 0, .slice none 0 0], .slice none 0 0], []⟩ 8 (by kernel_rfl) (by kernel_rfl) (by kernel_rfl) (by kernel_rfl)) ?_
  intro W base args ds gs before hval0 hW hcnd hsz0 _
  have hsz : (DataW.weightsEach Try.prog (Try.f4.params.toList ++ Rows.ctlBackSpec.plain.varTypes Try.prog) (ds ++ gs)).all (· ≤ reachBytes) = true := hsz0
  have hval : ∀ (j : Nat) t v, Try.f4.params[j]? = some t → args[j]? = some v → Value.okWide Try.prog W .any base t v := hval0
  have hW' := hW
  obtain ⟨p, q, hA0, hV, rfl, hfz, hnd⟩ := hW
  have hA : DataW.TrodAll enc Try.prog W 0 (fun _ => true) true Try.f4.params.toList args.toList ds p := hA0
  rw [Try.params4] at hA hval hsz
  obtain ⟨v0, vs0, d0, ds0, p0, q0, hargs, rfl, rfl, h0, r0⟩ := trodAll_cons hA
  obtain ⟨v1, vs1, d1, ds1, p1, q1, rfl, rfl, rfl, h1, r1⟩ := trodAll_cons r0
  obtain ⟨rfl, rfl, rfl⟩ := trodAll_nil r1
  obtain rfl : args = #[v0, v1] := by cases args; simp_all
  obtain ⟨rfl, rfl⟩ := trodVars_none hV
  have k0 := h0
  have lt0 : ∀ x ∈ p0, x.block < W.heap.size := by obtain ⟨m, hm⟩ := k0; exact DataW.trod_lt m _ _ _ hm
  obtain ⟨cs0, rfl, -⟩ := okWide_struct Try.underlying24 (hval 0 24 v0 rfl rfl)
  obtain ⟨x0, K0, w0⟩ := Opens.arg op24 hsz (j := 0) rfl rfl h0
  obtain ⟨A0_9, c0_9, hcs0, hc0_9, hr0_9⟩ := k24_open K0
  obtain rfl : cs0 = #[.int .i64 x0.f0, .bool x0.f1, .bool x0.f2, .bool x0.f3, .int .i64 x0.f4, .int .i64 x0.f5, .int .i64 x0.f6, .int .i64 x0.f7, .int .i64 x0.f8, .slice A0_9 x0.f9.length c0_9] := by
    apply Array.toList_inj.1
    exact hcs0
  have k1 := h1
  have lt1 : ∀ x ∈ p1, x.block < W.heap.size := by obtain ⟨m, hm⟩ := k1; exact DataW.trod_lt m _ _ _ hm
  obtain ⟨a1, len1, cap1, rfl⟩ := okWide_slice Try.underlying22 (hval 1 22 v1 rfl rfl)
  obtain ⟨x1, K1, w1⟩ := Opens.arg op22 hsz (j := 1) rfl rfl h1
  obtain ⟨rfl, hc1, hr1⟩ := K_slice K1
  clear hA0 hval0 hsz0 hsz
  obtain ⟨k, hk⟩ := Pure.CtlBack x0 x1 w0 w1
  refine (Q.sundiallaw10_CtlBack.calls k x0.f0 x0.f1 x0.f2 x0.f3 x0.f4 x0.f5 x0.f6 x0.f7 x0.f8 _ _ x0.f9 _ _ x1 true W hr0_9 hc0_9 hr1 hc1 hk).mono fun e W' ⟨he, bel0⟩ => ?_
  have bel : Below W.heap.size W W' := bel0
  subst he
  exact ⟨_, rfl, _, _, _, [], _, [], hW', trodAll_mk1 (shut_bool Try.underlying4 _), (trodAll_cons_mk (Below.trod laidOut (by kernel_rfl) (of_decide_eq_true (by kernel_rfl)) k0 bel lt0) (trodAll_cons_mk (Below.trod laidOut (by kernel_rfl) (of_decide_eq_true (by kernel_rfl)) k1 bel lt1) trodAll_mk0)), rfl, bel.frame _, fun h => by cases h⟩
theorem over : Rows.ctlBackRow.holds Try.pinned (OpenSpec.ofChange Rows.ctlBackSpec) :=
  OpenClaim.holds_of_wide 4 Try.f4 rfl rfl rfl rfl rfl rfl rfl ⟨rfl, rfl, rfl, rfl, rfl⟩ rfl rfl rfl rfl rfl (by kernel_rfl) Try.func4 (by kernel_rfl)
    (of_decide_eq_true (by kernel_rfl)) (by unfold Func.isWrapper; rw [if_neg (of_decide_eq_false (by kernel_rfl))]; exact ⟨rfl, rfl⟩)
    (fun os started H enc _ => lifted os started H enc)
theorem proved : Rows.CtlBackSaid := over
#print axioms proved
end Go.Proofs.Ytcppipndapaljaa.ctlBack
namespace Go.Proofs.Ytcppipndapaljaa
/-- The row, under a short name, for the claim. -/
theorem ctlBack_holds : Rows.CtlBackSaid := ctlBack.proved
end Go.Proofs.Ytcppipndapaljaa
