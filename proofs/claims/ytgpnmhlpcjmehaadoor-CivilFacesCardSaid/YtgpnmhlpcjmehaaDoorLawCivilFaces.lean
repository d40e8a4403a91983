/- CivilFaces: every input is answered true; the arguments read as they did. The walk is printed; the pure statement is proved in YtgpnmhlpcjmehaaDoorPureCivilFaces. -/
import Derived.Test.YtgpnmhlpcjmehaaDoorRows
import Derived.Test.YtgpnmhlpcjmehaaDoorQx11
import Derived.Test.YtgpnmhlpcjmehaaDoorOpens
import Derived.Test.YtgpnmhlpcjmehaaDoorPureCivilFaces
import Derived.Test.YtgpnmhlpcjmehaaDoorLaid
import Derived.Test.YtgpnmhlpcjmehaaDoorTie
import Derived.Test.YtgpnmhlpcjmehaaDoorCards
import Derived.WalkKit
import Derived.ProofKit
import Derived.OpenShut
import Derived.ShutString
import Derived.ChangeOld
import Derived.Below
import Derived.SizedLaws
namespace Go.Proofs.YtgpnmhlpcjmehaaDoor.civilFaces
open Go.ChangeShapes Go.WideShapes Go.ChangeAt Go.RowKit Go.Proofs.YtgpnmhlpcjmehaaDoorO Go.Proofs.YtgpnmhlpcjmehaaDoor.Q Go.Proofs.YtgpnmhlpcjmehaaDoorW.PrintWords
open Go.ChangeMaps (open_string shut_string)
open Go.Proofs.YtgpnmhlpcjmehaaDoorG
set_option linter.unusedVariables false
set_option linter.unusedSimpArgs false
theorem own : ownKnob Tryd.prog.godebug = none := by kernel_rfl
theorem laidOut : laidOutB Tryd.prog = true := by kernel_rfl
theorem op23 : Opens Tryd.prog k23 23 (fun x => ((Lit.int .i64 x.f0).wf = true) ∧ ((Lit.int .i64 x.f1).wf = true) ∧ ((Lit.int .i64 x.f2).wf = true)) :=
  opens_struct (fun y => (⟨y.1, y.2.1, y.2.2⟩ : S23)) (fun _ => rfl) Tryd.underlying23 (by kernel_rfl) (opensFs_cons (by kernel_rfl) (opens_int (k := .i64) Tryd.underlying3 (by kernel_rfl) : Opens Tryd.prog (Kd.int .i64) 3 (fun x => (Lit.int .i64 x).wf = true)) (opensFs_cons (by kernel_rfl) (opens_int (k := .i64) Tryd.underlying3 (by kernel_rfl) : Opens Tryd.prog (Kd.int .i64) 3 (fun x => (Lit.int .i64 x).wf = true)) (opensFs_one (by kernel_rfl) (opens_int (k := .i64) Tryd.underlying3 (by kernel_rfl) : Opens Tryd.prog (Kd.int .i64) 3 (fun x => (Lit.int .i64 x).wf = true)))))
theorem op47 : Opens Tryd.prog k47 47 (fun x => (((Lit.int .i64 x.f0.f0).wf = true) ∧ ((Lit.int .i64 x.f0.f1).wf = true) ∧ ((Lit.int .i64 x.f0.f2).wf = true)) ∧ ((Lit.int .i64 x.f1).wf = true) ∧ ((Lit.int .i64 x.f2).wf = true) ∧ ((Lit.int .i64 x.f3).wf = true) ∧ ((Lit.int .i64 x.f4).wf = true)) :=
  opens_struct (fun y => (⟨y.1, y.2.1, y.2.2.1, y.2.2.2.1, y.2.2.2.2⟩ : S47)) (fun _ => rfl) Tryd.underlying47 (by kernel_rfl) (opensFs_cons (by kernel_rfl) op23 (opensFs_cons (by kernel_rfl) (opens_int (k := .i64) Tryd.underlying3 (by kernel_rfl) : Opens Tryd.prog (Kd.int .i64) 3 (fun x => (Lit.int .i64 x).wf = true)) (opensFs_cons (by kernel_rfl) (opens_int (k := .i64) Tryd.underlying3 (by kernel_rfl) : Opens Tryd.prog (Kd.int .i64) 3 (fun x => (Lit.int .i64 x).wf = true)) (opensFs_cons (by kernel_rfl) (opens_int (k := .i64) Tryd.underlying3 (by kernel_rfl) : Opens Tryd.prog (Kd.int .i64) 3 (fun x => (Lit.int .i64 x).wf = true)) (opensFs_one (by kernel_rfl) (opens_int (k := .i64) Tryd.underlying3 (by kernel_rfl) : Opens Tryd.prog (Kd.int .i64) 3 (fun x => (Lit.int .i64 x).wf = true)))))))
set_option maxRecDepth 100000 in
theorem lifted (os : Os) (started : os.Started) (H : Type) (enc : TypeId × Value → H) :
    ReturnsInHanded {} Tryd.checked os 6 .any (fun w args => (Rows.civilFacesSpec.pre enc Tryd.prog Tryd.f6 [] false w args ∧ laidMetH Tryd.prog LAID w) ∧ sizedMet enc Tryd.prog Tryd.f6 (OpenSpec.ofChange Rows.civilFacesSpec) false w args) (Rows.civilFacesSpec.post enc Tryd.prog Tryd.f6 false true false false) := by
  refine returnsInHanded_of_change_and (C := Tryd.checked) (X := fun w _ => laidMetH Tryd.prog LAID w) (fun _ _ _ hh h => h.of_heap hh) own started (by kernel_rfl) Tryd.func6
    (ChangeSpec.witness_shaped (enc := enc) (C := Tryd.checked) (os := os) (X := fun w _ => laidMetH Tryd.prog LAID w) false (World.doorLaid Tryd.prog 400 os) #[.int .i64 0, .agg #[.int .i64 0, .int .i64 0, .int .i64 0, .int .i64 0, .int .i64 0, .int .i64 0, .int .i64 0]] 8 rfl (World.shaped_of_RefB (by kernel_rfl) (by kernel_rfl)) (by kernel_rfl) (by kernel_rfl) (by kernel_rfl) (door_met os _)) ?_
  intro W base args ds gs before hval0 hW hcnd hsz0 hL _
  have hsz : (DataW.weightsEach Tryd.prog (Tryd.f6.params.toList ++ Rows.civilFacesSpec.plain.varTypes Tryd.prog) (ds ++ gs)).all (· ≤ reachBytes) = true := hsz0
  have hval : ∀ (j : Nat) t v, Tryd.f6.params[j]? = some t → args[j]? = some v → Value.okWide Tryd.prog W .any base t v := hval0
  have hW' := hW
  obtain ⟨p, q, hA0, hV, rfl, hfz, hnd⟩ := hW
  have hA : DataW.TrodAll enc Tryd.prog W 0 (fun _ => true) true Tryd.f6.params.toList args.toList ds p := hA0
  rw [Tryd.params6] at hA hval hsz
  obtain ⟨v0, vs0, d0, ds0, p0, q0, hargs, rfl, rfl, h0, r0⟩ := trodAll_cons hA
  obtain ⟨v1, vs1, d1, ds1, p1, q1, rfl, rfl, rfl, h1, r1⟩ := trodAll_cons r0
  obtain ⟨rfl, rfl, rfl⟩ := trodAll_nil r1
  obtain rfl : args = #[v0, v1] := by cases args; simp_all
  obtain ⟨rfl, rfl⟩ := trodVars_none hV
  obtain ⟨x0, rfl, rfl, rfl, w0⟩ := open_int Tryd.underlying45 (hval 0 45 v0 rfl rfl) h0
  have k1 := h1
  have lt1 : ∀ x ∈ p1, x.block < W.heap.size := by obtain ⟨m, hm⟩ := k1; exact DataW.trod_lt m _ _ _ hm
  obtain ⟨cs1, rfl, -⟩ := okWide_struct Tryd.underlying47 (hval 1 47 v1 rfl rfl)
  obtain ⟨x1, K1, w1⟩ := Opens.arg op47 hsz (j := 1) rfl rfl h1
  have hcs1 := k47_open K1
  obtain rfl : cs1 = #[.int .i64 x1.f0.f0, .int .i64 x1.f0.f1, .int .i64 x1.f0.f2, .int .i64 x1.f1, .int .i64 x1.f2, .int .i64 x1.f3, .int .i64 x1.f4] := by
    apply Array.toList_inj.1
    exact hcs1
  clear hA0 hval0 hsz0 hsz
  obtain ⟨k, hk⟩ := Pure.CivilFaces x0 x1 w0 w1
  refine (Q.sundiallaw03_CivilFaces.calls k x0 x1.f0.f0 x1.f0.f1 x1.f0.f2 x1.f1 x1.f2 x1.f3 x1.f4 true W (G_of hL) hk).mono fun e W' ⟨he, bel0⟩ => ?_
  have bel : Below W.heap.size W W' := bel0
  subst he
  exact ⟨_, rfl, _, _, _, [], _, [], hW', trodAll_mk1 (shut_bool Tryd.underlying4 _), (trodAll_cons_mk (shut_int Tryd.underlying45 w0) (trodAll_cons_mk (Below.trod laidOut (by kernel_rfl) (of_decide_eq_true (by kernel_rfl)) k1 bel lt1) trodAll_mk0)), rfl, bel.frame _, fun h => by cases h⟩
theorem over : Rows.civilFacesRow.holds Tryd.pinned (OpenSpec.ofChange Rows.civilFacesSpec) :=
  OpenClaim.holds_of_wide 6 Tryd.f6 rfl rfl rfl rfl rfl rfl rfl ⟨rfl, rfl, rfl, rfl, rfl⟩ rfl rfl rfl rfl rfl (by kernel_rfl) Tryd.func6 (by kernel_rfl)
    (of_decide_eq_true (by kernel_rfl)) (by unfold Func.isWrapper; rw [if_neg (of_decide_eq_false (by kernel_rfl))]; exact ⟨rfl, rfl⟩)
    (fun os started H enc _ => lifted os started H enc)
theorem proved : Rows.CivilFacesSaid := over
theorem card : Rows.CivilFacesCardSaid :=
  Claim7.holds_tied_plain_at .later [] [.data, .data, .data] true (true, "df5ea97cad7453b609264aa09eec3d4ec6100916da63f808a370e56976ff1847") false
    proved (fun _ h => by cases h) (by kernel_rfl) (fun _ h => by cases h) civilFaces_row_tie rfl ⟨rfl, rfl⟩ (by kernel_rfl) rfl
    (fun f fn hf hfn => by
      obtain rfl : f = 6 := Option.some.inj ((show Tryd.prog.funcNamed "sundial/sundiallaw03.CivilFaces" = some 6 by kernel_rfl).symm.trans hf) |>.symm
      obtain rfl : fn = Tryd.f6 := (Option.some.inj (Tryd.func6.symm.trans hfn)).symm
      exact ⟨by kernel_rfl, fun j t ht => by
        rw [Tryd.params6] at ht
        have hm : t ∈ ([45, 47] : List Nat) := by simpa using Array.mem_of_getElem? ht
        have hall : (([45, 47] : List Nat).all fun u => !Tryd.prog.wantsStandIn u) = true := by kernel_rfl
        exact (show Tryd.prog.wantsStandIn t = false by simpa using List.all_eq_true.1 hall t hm)⟩)
    (by kernel_rfl)
#print axioms card
#print axioms proved
end Go.Proofs.YtgpnmhlpcjmehaaDoor.civilFaces
namespace Go.Proofs.YtgpnmhlpcjmehaaDoor
/-- The row, under a short name, for the claim. -/
theorem civilFaces_holds : Rows.CivilFacesCardSaid := civilFaces.card
end Go.Proofs.YtgpnmhlpcjmehaaDoor
