-- Written by wip/print2.py (the kit's printer, with functions given by hand).
import Derived.Test.YthblkmdknelpbaaQx0
import Derived.Test.YthblkmdknelpbaaQx3
import Derived.Test.YthblkmdknelpbaaQx4
namespace Go.Proofs.Ythblkmdknelpbaa.Q
open Go.RowKit Go.Proofs.YthblkmdknelpbaaW.PrintWords Go.Proofs.YthblkmdknelpbaaW.PrintLast Go.Proofs.YthblkmdknelpbaaW.PrintMore
attribute [local go_sem] max2_int min2_int max_two min_two max_three min_three max_four min_four   -- for this text's walks alone
open Go.Proofs.YthblkmdknelpbaaCopy Go.Proofs
set_option linter.unusedVariables false
set_option linter.unusedSimpArgs false

/-! ### sundiallaw08_LeapWarned: function 4 -/
mutual
def sundiallaw08_LeapWarned.j0 : Nat → Int → Int → Bool → List (S36) → Int → Option (Bool)
  | 0, _, _, _, _, _ => none
  | k + 1, x1, x2, x25, x217000, x217001 => if x25 = true then (some true) else (if (wrap64 ((x217000.length : Int) - 1)) = 0 then (none) else (if 0 ≤ (wrap64 (1 + (Int.tmod (wrap64 ((Int.tmod x1 (wrap64 ((x217000.length : Int) - 1))) + (wrap64 ((x217000.length : Int) - 1)))) (wrap64 ((x217000.length : Int) - 1))))) then (if (wrap64 (1 + (Int.tmod (wrap64 ((Int.tmod x1 (wrap64 ((x217000.length : Int) - 1))) + (wrap64 ((x217000.length : Int) - 1)))) (wrap64 ((x217000.length : Int) - 1))))) < (x217000.length : Int) then (if x217001 ≤ ((rd_T36 x217000 (wrap64 (1 + (Int.tmod (wrap64 ((Int.tmod x1 (wrap64 ((x217000.length : Int) - 1))) + (wrap64 ((x217000.length : Int) - 1)))) (wrap64 ((x217000.length : Int) - 1)))))).f0) then (sundiallaw08_LeapWarned.j1 k x2 (wrap64 (1 + (Int.tmod (wrap64 ((Int.tmod x1 (wrap64 ((x217000.length : Int) - 1))) + (wrap64 ((x217000.length : Int) - 1)))) (wrap64 ((x217000.length : Int) - 1))))) true x217000 x217001 ((rd_T36 x217000 (wrap64 (1 + (Int.tmod (wrap64 ((Int.tmod x1 (wrap64 ((x217000.length : Int) - 1))) + (wrap64 ((x217000.length : Int) - 1)))) (wrap64 ((x217000.length : Int) - 1)))))).f0) ((rd_T36 x217000 (wrap64 (1 + (Int.tmod (wrap64 ((Int.tmod x1 (wrap64 ((x217000.length : Int) - 1))) + (wrap64 ((x217000.length : Int) - 1)))) (wrap64 ((x217000.length : Int) - 1)))))).f1)) else (sundiallaw08_LeapWarned.j1 k x2 (wrap64 (1 + (Int.tmod (wrap64 ((Int.tmod x1 (wrap64 ((x217000.length : Int) - 1))) + (wrap64 ((x217000.length : Int) - 1)))) (wrap64 ((x217000.length : Int) - 1))))) (decide (((rd_T36 x217000 (wrap64 (1 + (Int.tmod (wrap64 ((Int.tmod x1 (wrap64 ((x217000.length : Int) - 1))) + (wrap64 ((x217000.length : Int) - 1)))) (wrap64 ((x217000.length : Int) - 1)))))).f0) > 144115188075855872)) x217000 x217001 ((rd_T36 x217000 (wrap64 (1 + (Int.tmod (wrap64 ((Int.tmod x1 (wrap64 ((x217000.length : Int) - 1))) + (wrap64 ((x217000.length : Int) - 1)))) (wrap64 ((x217000.length : Int) - 1)))))).f0) ((rd_T36 x217000 (wrap64 (1 + (Int.tmod (wrap64 ((Int.tmod x1 (wrap64 ((x217000.length : Int) - 1))) + (wrap64 ((x217000.length : Int) - 1)))) (wrap64 ((x217000.length : Int) - 1)))))).f1))) else (none)) else (none)))
def sundiallaw08_LeapWarned.j1 : Nat → Int → Int → Bool → List (S36) → Int → Int → Int → Option (Bool)
  | 0, _, _, _, _, _, _, _ => none
  | k + 1, x2, x7, x57, x217000, x217001, x221000, x221001 => if x57 = true then (some true) else ((leap_Warn.f k x217000 x217001 (wrap64 ((wrap64 ((wrap64 (x221000 + (wrap64 (x221001 * 1048576)))) - 1)) - (Int.tmod (wrap64 ((Int.tmod x2 90595917824) + 90595917824)) 90595917824)))).bind fun bt221 => ((leap_Warn.f k x217000 x217001 (wrap64 (x221000 + (wrap64 (x221001 * 1048576))))).bind fun bt223 => (if 0 ≤ (wrap64 (x7 - 1)) then (if (wrap64 (x7 - 1)) < (x217000.length : Int) then (if x221001 > ((rd_T36 x217000 (wrap64 (x7 - 1))).f1) then (if bt221.2 = 0 then (if bt221.1 = 1 then (if bt223.2 = 41 then (some true) else (if bt223.2 = 0 then (some (bt223.1 == 0)) else (none))) else (none)) else (none)) else (if bt221.2 = 0 then (if bt221.1 = 2 then (if bt223.2 = 41 then (some true) else (if bt223.2 = 0 then (some (bt223.1 == 0)) else (none))) else (none)) else (none))) else (none)) else (none))))
end
def sundiallaw08_LeapWarned.f (k : Nat) (l0_0 : List (S36)) (a0_1 : Int) (a1 : Int) (a2 : Int) : Option (Bool) := (sundiallaw08_awake.f k).bind fun t217 => (if t217 = true then ((leap_Check.f k l0_0 a0_1).bind fun t218 => (if t218 = 0 then (sundiallaw08_LeapWarned.j0 k a1 a2 (decide ((l0_0.length : Int) < 2)) l0_0 a0_1) else (sundiallaw08_LeapWarned.j0 k a1 a2 true l0_0 a0_1))) else (none))
theorem sundiallaw08_LeapWarned.mono_l : ∀ k, (∀ y0 y1 y2 y3 y4, LeO (sundiallaw08_LeapWarned.j0 k y0 y1 y2 y3 y4) (sundiallaw08_LeapWarned.j0 (k + 1) y0 y1 y2 y3 y4)) ∧ (∀ y0 y1 y2 y3 y4 y5 y6, LeO (sundiallaw08_LeapWarned.j1 k y0 y1 y2 y3 y4 y5 y6) (sundiallaw08_LeapWarned.j1 (k + 1) y0 y1 y2 y3 y4 y5 y6))
  | 0 => ⟨fun _ _ _ _ _ r h => by simp [sundiallaw08_LeapWarned.j0] at h, fun _ _ _ _ _ _ _ r h => by simp [sundiallaw08_LeapWarned.j1] at h⟩
  | k + 1 => by
    obtain ⟨ih0, ih1⟩ := sundiallaw08_LeapWarned.mono_l k
    refine ⟨?_, ?_⟩
    · intro y0 y1 y2 y3 y4
      unfold sundiallaw08_LeapWarned.j0
      repeat' first
      | (with_reducible exact ih0 _ _ _ _ _)
      | (with_reducible exact ih1 _ _ _ _ _ _ _)
      | (with_reducible exact leap_Check.mono _ _ _)
      | (with_reducible exact leap_Warn.mono _ _ _ _)
      | (with_reducible exact sundiallaw08_awake.mono _)
      | (with_reducible exact LeO.refl _)
      | (with_reducible exact LeO.none _)
      | (with_reducible refine LeO.ite ?_ ?_)
      | (with_reducible refine LeO.bind ?_ (fun _ => ?_))
      | exact ih0 _ _ _ _ _
      | exact ih1 _ _ _ _ _ _ _
      | exact leap_Check.mono _ _ _
      | exact leap_Warn.mono _ _ _ _
      | exact sundiallaw08_awake.mono _
      | exact LeO.none _
      | refine LeO.ite ?_ ?_
      | refine LeO.bind ?_ (fun _ => ?_)
    · intro y0 y1 y2 y3 y4 y5 y6
      unfold sundiallaw08_LeapWarned.j1
      repeat' first
      | (with_reducible exact ih0 _ _ _ _ _)
      | (with_reducible exact ih1 _ _ _ _ _ _ _)
      | (with_reducible exact leap_Check.mono _ _ _)
      | (with_reducible exact leap_Warn.mono _ _ _ _)
      | (with_reducible exact sundiallaw08_awake.mono _)
      | (with_reducible exact LeO.refl _)
      | (with_reducible exact LeO.none _)
      | (with_reducible refine LeO.ite ?_ ?_)
      | (with_reducible refine LeO.bind ?_ (fun _ => ?_))
      | exact ih0 _ _ _ _ _
      | exact ih1 _ _ _ _ _ _ _
      | exact leap_Check.mono _ _ _
      | exact leap_Warn.mono _ _ _ _
      | exact sundiallaw08_awake.mono _
      | exact LeO.none _
      | refine LeO.ite ?_ ?_
      | refine LeO.bind ?_ (fun _ => ?_)
theorem sundiallaw08_LeapWarned.mono : ∀ a0 a1 a2 a3 k, LeO (sundiallaw08_LeapWarned.f k a0 a1 a2 a3) (sundiallaw08_LeapWarned.f (k + 1) a0 a1 a2 a3) := by
  intro a0 a1 a2 a3 k
  obtain ⟨ih0, ih1⟩ := sundiallaw08_LeapWarned.mono_l k
  unfold sundiallaw08_LeapWarned.f
  repeat' first
      | (with_reducible exact ih0 _ _ _ _ _)
      | (with_reducible exact ih1 _ _ _ _ _ _ _)
      | (with_reducible exact leap_Check.mono _ _ _)
      | (with_reducible exact leap_Warn.mono _ _ _ _)
      | (with_reducible exact sundiallaw08_awake.mono _)
      | (with_reducible exact LeO.refl _)
      | (with_reducible exact LeO.none _)
      | (with_reducible refine LeO.ite ?_ ?_)
      | (with_reducible refine LeO.bind ?_ (fun _ => ?_))
      | exact ih0 _ _ _ _ _
      | exact ih1 _ _ _ _ _ _ _
      | exact leap_Check.mono _ _ _
      | exact leap_Warn.mono _ _ _ _
      | exact sundiallaw08_awake.mono _
      | exact LeO.none _
      | refine LeO.ite ?_ ?_
      | refine LeO.bind ?_ (fun _ => ?_)

end Go.Proofs.Ythblkmdknelpbaa.Q
