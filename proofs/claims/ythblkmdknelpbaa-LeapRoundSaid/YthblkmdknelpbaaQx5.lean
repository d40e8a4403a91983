-- Written by wip/print2.py (the kit's printer, with functions given by hand).
import Derived.Test.YthblkmdknelpbaaQx0
import Derived.Test.YthblkmdknelpbaaQx3
import Derived.Test.YthblkmdknelpbaaQx4
namespace Go.Proofs.Ythblkmdknelpbaa.Q
open Go.RowKit Go.Proofs.YthblkmdknelpbaaW.PrintWords Go.Proofs.YthblkmdknelpbaaW.PrintLast Go.Proofs.YthblkmdknelpbaaW.PrintMore
attribute [local go_sem] max2_int min2_int max_two min_two max_three min_three max_four min_four   -- for this text's walks alone
open Go.Proofs.YthblkmdknelpbaaCopy Go.Proofs
set_option linter.unusedVariables false
set_option linter.unusedSimpArgs false

/-! ### sundiallaw08_LeapRound: function 3 -/
mutual
def sundiallaw08_LeapRound.l0 : Nat → Int → Int → Int → Bool → List Int → Int → Bool → Int → List (S36) → Int → Option (Bool)
  | 0, _, _, _, _, _, _, _, _, _, _ => none
  | k + 1, x1, x2, x7, x8, x10, x11, x12, x13, x193000, x193001 => if x13 < (x10.length : Int) then (if 0 ≤ x13 then ((leap_UTC.f k x193000 x193001 (rd x10 x13)).bind fun bt202 => (if x12 = true then (if bt202.2.2 = 0 then (if bt202.1 = x7 then (if x13 > 0 then (if 0 ≤ (wrap64 (x13 - 1)) then (if (wrap64 (x13 - 1)) < (x10.length : Int) then (if (rd x10 (wrap64 (x13 - 1))) ≥ (rd x10 x13) then (none) else (sundiallaw08_LeapRound.l0 k x1 x2 x7 x8 x10 x11 true (wrap64 (x13 + 1)) x193000 x193001)) else (none)) else (none)) else (sundiallaw08_LeapRound.l0 k x1 x2 x7 x8 x10 x11 true (wrap64 (x13 + 1)) x193000 x193001)) else (none)) else (none)) else (if bt202.2.2 = 0 then (if bt202.1 = x7 then (if x13 > 0 then (if 0 ≤ (wrap64 (x13 - 1)) then (if (wrap64 (x13 - 1)) < (x10.length : Int) then (if (rd x10 (wrap64 (x13 - 1))) ≥ (rd x10 x13) then (none) else (sundiallaw08_LeapRound.l0 k x1 x2 x7 x8 x10 x11 ((rd x10 x13) == x1) (wrap64 (x13 + 1)) x193000 x193001)) else (none)) else (none)) else (sundiallaw08_LeapRound.l0 k x1 x2 x7 x8 x10 x11 ((rd x10 x13) == x1) (wrap64 (x13 + 1)) x193000 x193001)) else (none)) else (none)))) else (none)) else (if x11 = 0 then (if x12 = true then (if (x10.length : Int) > 2 then (sundiallaw08_LeapRound.j1 k x1 x2 x7 x8 (decide ((x193000.length : Int) < 3)) x193000 x193001) else (sundiallaw08_LeapRound.j1 k x1 x2 x7 x8 false x193000 x193001)) else (none)) else (none))
def sundiallaw08_LeapRound.j1 : Nat → Int → Int → Int → Bool → Bool → List (S36) → Int → Option (Bool)
  | 0, _, _, _, _, _, _, _ => none
  | k + 1, x1, x2, x7, x8, x117, x193000, x193001 => if x117 = true then (none) else ((leap_UTC.f k x193000 x193001 (wrap64 (x1 + (Int.tmod (wrap64 ((Int.tmod x2 1048576) + 1048576)) 1048576)))).bind fun bt210 => (if bt210.2.2 = 0 then (if (wrap64 (bt210.1 - x7)) = (Int.tmod (wrap64 ((Int.tmod x2 1048576) + 1048576)) 1048576) then (some true) else (if (wrap64 (bt210.1 - x7)) = (wrap64 ((Int.tmod (wrap64 ((Int.tmod x2 1048576) + 1048576)) 1048576) - 1048576)) then (if bt210.2.1 = true then (if x8 = true then (if (wrap64 (bt210.1 - x7)) = (wrap64 ((Int.tmod (wrap64 ((Int.tmod x2 1048576) + 1048576)) 1048576) + 1048576)) then (some (!bt210.2.1)) else (none)) else (some true)) else (if (wrap64 (bt210.1 - x7)) = (wrap64 ((Int.tmod (wrap64 ((Int.tmod x2 1048576) + 1048576)) 1048576) + 1048576)) then (some (!bt210.2.1)) else (none))) else (if (wrap64 (bt210.1 - x7)) = (wrap64 ((Int.tmod (wrap64 ((Int.tmod x2 1048576) + 1048576)) 1048576) + 1048576)) then (some (!bt210.2.1)) else (none)))) else (some (bt210.2.2 == 2))))
end
def sundiallaw08_LeapRound.f (k : Nat) (l0_0 : List (S36)) (a0_1 : Int) (a1 : Int) (a2 : Int) : Option (Bool) := (sundiallaw08_awake.f k).bind fun t193 => (if t193 = true then ((leap_UTC.f k l0_0 a0_1 a1).bind fun bt194 => (if bt194.2.2 = 0 then ((leap_Even.f k l0_0 a0_1 bt194.1).bind fun bt197 => (if bt194.1 ≥ 0 then (sundiallaw08_LeapRound.l0 k a1 a2 bt194.1 bt194.2.1 bt197.1 bt197.2 false 0 l0_0 a0_1) else ((leap_UTC.f k l0_0 a0_1 (wrap64 (a1 + (Int.tmod (wrap64 ((Int.tmod a2 1048576) + 1048576)) 1048576)))).bind fun bt213 => (if bt213.2.2 = 0 then (if (wrap64 (bt213.1 - bt194.1)) = (Int.tmod (wrap64 ((Int.tmod a2 1048576) + 1048576)) 1048576) then (some true) else (if (wrap64 (bt213.1 - bt194.1)) = (wrap64 ((Int.tmod (wrap64 ((Int.tmod a2 1048576) + 1048576)) 1048576) - 1048576)) then (if bt213.2.1 = true then (if bt194.2.1 = true then (if (wrap64 (bt213.1 - bt194.1)) = (wrap64 ((Int.tmod (wrap64 ((Int.tmod a2 1048576) + 1048576)) 1048576) + 1048576)) then (some (!bt213.2.1)) else (none)) else (some true)) else (if (wrap64 (bt213.1 - bt194.1)) = (wrap64 ((Int.tmod (wrap64 ((Int.tmod a2 1048576) + 1048576)) 1048576) + 1048576)) then (some (!bt213.2.1)) else (none))) else (if (wrap64 (bt213.1 - bt194.1)) = (wrap64 ((Int.tmod (wrap64 ((Int.tmod a2 1048576) + 1048576)) 1048576) + 1048576)) then (some (!bt213.2.1)) else (none)))) else (some (bt213.2.2 == 2)))))) else (if bt194.1 = 0 then (if bt194.2.1 = true then (none) else (if bt194.2.2 = 3 then (some true) else (some (bt194.2.2 == 2)))) else (none)))) else (none))
theorem sundiallaw08_LeapRound.mono_l : ∀ k, (∀ y0 y1 y2 y3 y4 y5 y6 y7 y8 y9, LeO (sundiallaw08_LeapRound.l0 k y0 y1 y2 y3 y4 y5 y6 y7 y8 y9) (sundiallaw08_LeapRound.l0 (k + 1) y0 y1 y2 y3 y4 y5 y6 y7 y8 y9)) ∧ (∀ y0 y1 y2 y3 y4 y5 y6, LeO (sundiallaw08_LeapRound.j1 k y0 y1 y2 y3 y4 y5 y6) (sundiallaw08_LeapRound.j1 (k + 1) y0 y1 y2 y3 y4 y5 y6))
  | 0 => ⟨fun _ _ _ _ _ _ _ _ _ _ r h => by simp [sundiallaw08_LeapRound.l0] at h, fun _ _ _ _ _ _ _ r h => by simp [sundiallaw08_LeapRound.j1] at h⟩
  | k + 1 => by
    obtain ⟨ih0, ih1⟩ := sundiallaw08_LeapRound.mono_l k
    refine ⟨?_, ?_⟩
    · intro y0 y1 y2 y3 y4 y5 y6 y7 y8 y9
      unfold sundiallaw08_LeapRound.l0
      repeat' first
      | (with_reducible exact ih0 _ _ _ _ _ _ _ _ _ _)
      | (with_reducible exact ih1 _ _ _ _ _ _ _)
      | (with_reducible exact leap_Even.mono _ _ _ _)
      | (with_reducible exact leap_UTC.mono _ _ _ _)
      | (with_reducible exact sundiallaw08_awake.mono _)
      | (with_reducible exact LeO.refl _)
      | (with_reducible exact LeO.none _)
      | (with_reducible refine LeO.ite ?_ ?_)
      | (with_reducible refine LeO.bind ?_ (fun _ => ?_))
      | exact ih0 _ _ _ _ _ _ _ _ _ _
      | exact ih1 _ _ _ _ _ _ _
      | exact leap_Even.mono _ _ _ _
      | exact leap_UTC.mono _ _ _ _
      | exact sundiallaw08_awake.mono _
      | exact LeO.none _
      | refine LeO.ite ?_ ?_
      | refine LeO.bind ?_ (fun _ => ?_)
    · intro y0 y1 y2 y3 y4 y5 y6
      unfold sundiallaw08_LeapRound.j1
      repeat' first
      | (with_reducible exact ih0 _ _ _ _ _ _ _ _ _ _)
      | (with_reducible exact ih1 _ _ _ _ _ _ _)
      | (with_reducible exact leap_Even.mono _ _ _ _)
      | (with_reducible exact leap_UTC.mono _ _ _ _)
      | (with_reducible exact sundiallaw08_awake.mono _)
      | (with_reducible exact LeO.refl _)
      | (with_reducible exact LeO.none _)
      | (with_reducible refine LeO.ite ?_ ?_)
      | (with_reducible refine LeO.bind ?_ (fun _ => ?_))
      | exact ih0 _ _ _ _ _ _ _ _ _ _
      | exact ih1 _ _ _ _ _ _ _
      | exact leap_Even.mono _ _ _ _
      | exact leap_UTC.mono _ _ _ _
      | exact sundiallaw08_awake.mono _
      | exact LeO.none _
      | refine LeO.ite ?_ ?_
      | refine LeO.bind ?_ (fun _ => ?_)
theorem sundiallaw08_LeapRound.mono : ∀ a0 a1 a2 a3 k, LeO (sundiallaw08_LeapRound.f k a0 a1 a2 a3) (sundiallaw08_LeapRound.f (k + 1) a0 a1 a2 a3) := by
  intro a0 a1 a2 a3 k
  obtain ⟨ih0, ih1⟩ := sundiallaw08_LeapRound.mono_l k
  unfold sundiallaw08_LeapRound.f
  repeat' first
      | (with_reducible exact ih0 _ _ _ _ _ _ _ _ _ _)
      | (with_reducible exact ih1 _ _ _ _ _ _ _)
      | (with_reducible exact leap_Even.mono _ _ _ _)
      | (with_reducible exact leap_UTC.mono _ _ _ _)
      | (with_reducible exact sundiallaw08_awake.mono _)
      | (with_reducible exact LeO.refl _)
      | (with_reducible exact LeO.none _)
      | (with_reducible refine LeO.ite ?_ ?_)
      | (with_reducible refine LeO.bind ?_ (fun _ => ?_))
      | exact ih0 _ _ _ _ _ _ _ _ _ _
      | exact ih1 _ _ _ _ _ _ _
      | exact leap_Even.mono _ _ _ _
      | exact leap_UTC.mono _ _ _ _
      | exact sundiallaw08_awake.mono _
      | exact LeO.none _
      | refine LeO.ite ?_ ?_
      | refine LeO.bind ?_ (fun _ => ?_)

end Go.Proofs.Ythblkmdknelpbaa.Q
