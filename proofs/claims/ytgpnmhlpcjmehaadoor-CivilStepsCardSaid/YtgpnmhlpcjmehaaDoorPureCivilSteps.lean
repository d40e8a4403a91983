/- CivilSteps, as plain Lean: no program in sight. -/
import Derived.Test.YtgpnmhlpcjmehaaDoorSx6
import Derived.Test.YtgpnmhlpcjmehaaDoorOpens
import Derived.Test.YtgpnmhlpcjmehaaDoorSDays
namespace Go.Proofs.YtgpnmhlpcjmehaaDoor.SC
open Go.RowKit Go.Proofs.YtgpnmhlpcjmehaaDoor.S Go.Proofs.YtgpnmhlpcjmehaaDoorW.PrintWords Go.Proofs.YtgpnmhlpcjmehaaDoorW.PrintLast

/-- The date after a date. -/
def nextOf (y m d : Int) : Int × Int × Int := if d = len y m then (if m = 12 then (y + 1, 1, 1) else (y, m + 1, 1)) else (y, m, d + 1)
theorem next_is {n y m d : Int} (h : IsDay n y m d) (hn : n + 1 < 2958464) : IsDay (n + 1) (nextOf y m d).1 (nextOf y m d).2.1 (nextOf y m d).2.2 := by
  obtain ⟨hv, he⟩ := h
  obtain ⟨h1, h2, h3, h4, h5, h6⟩ := isB_iff.1 hv
  unfold num at he
  have hs := M_step y h3
  unfold nextOf
  by_cases c : d = len y m
  · rw [if_pos c]
    by_cases e : m = 12
    · rw [if_pos e]
      subst e
      have h13 : M y (12 + 1) = yl y := M_end y
      have hD := D_step y
      have hy : y + 1 < 10000 := year_lt (n := n + 1) (y := y + 1) (by omega) hn
      have hl := len_lo (y + 1) 1
      refine ⟨isB_iff.2 ⟨by show 1900 ≤ y + 1; omega, by show y + 1 ≤ 9999; omega, (by decide : (1 : Int) ≤ 1), (by decide : (1 : Int) ≤ 12), (by decide : (1 : Int) ≤ 1), by show 1 ≤ len (y + 1) 1; omega⟩, ?_⟩
      show num (y + 1) 1 1 = _
      unfold num
      rw [M_one]; omega
    · rw [if_neg e]
      have hl := len_lo y (m + 1)
      refine ⟨isB_iff.2 ⟨h1, h2, by show 1 ≤ m + 1; omega, by show m + 1 ≤ 12; omega, (by decide : (1 : Int) ≤ 1), by show 1 ≤ len y (m + 1); omega⟩, ?_⟩
      show num y (m + 1) 1 = _
      unfold num
      omega
  · rw [if_neg c]
    refine ⟨isB_iff.2 ⟨h1, h2, h3, h4, by show 1 ≤ d + 1; omega, by show d + 1 ≤ len y m; omega⟩, ?_⟩
    show num y m (d + 1) = _
    unfold num
    omega
theorem week_is {n y m d : Int} (h : IsDay n y m d) : weekE y m d = (n % 7 + 1, 0) := by
  unfold weekE; rw [if_pos h.1, h.2]
theorem len29 (y : Int) : (len y 2 == 29) = leap y := by
  unfold len; rw [if_pos rfl]; cases leap y <;> rfl
theorem mod_in (a n : Int) (h0 : 0 < n) (h1 : n < 4611686018427387904) : Int.tmod (wrap64 (Int.tmod a n + n)) n = a % n := by
  have hb : -n < Int.tmod a n ∧ Int.tmod a n < n := by
    have := Int.tmod_lt_of_pos a h0
    have := Int.lt_tmod_of_pos a h0
    exact ⟨by omega, by omega⟩
  rw [wrap_id (by omega) (by omega), Int.tmod_eq_emod_of_nonneg (by omega), Int.add_emod_right]
  have e : Int.tmod a n = a - n * Int.tdiv a n := by have := Int.tmod_add_mul_tdiv a n; omega
  rw [e, Int.sub_mul_emod_self_left]
theorem steps_j1 (n y m d y2 m2 d2 y3 m3 d3 : Int) (hA : IsDay n y m d) (hB : IsDay (n + 1) y2 m2 d2) (hC : IsDay (n + 7) y3 m3 d3) :
    Ev (fun k => sundiallaw03_CivilSteps.j1 k y m d y2 m2 d2 y3 m3 d3 y m (len y m) y2 m2 d2) true := by
  refine Ev.step (f := fun k => (civil_Weekday.f k y m d).bind fun bt214 => ((civil_Weekday.f k y2 m2 d2).bind fun bt216 => ((civil_Weekday.f k y3 m3 d3).bind fun bt218 => (if (y2 == y2 && (m2 == m2 && (d2 == d2))) = true then (if bt214.2 = 0 then (if bt216.2 = 0 then (if bt218.2 = 0 then (if bt214.1 ≥ 1 then (if bt214.1 ≤ 7 then (if bt216.1 = (wrap64 ((Int.tmod bt214.1 7) + 1)) then (if bt218.1 = bt214.1 then (if len y m ≥ 28 then (if len y m ≤ 31 then (if m = 2 then ((civil_Leap.f y).bind fun t220 => (some ((len y m == 29) == t220))) else (some true)) else (none)) else (none)) else (none)) else (none)) else (none)) else (none)) else (none)) else (none)) else (none)) else (none))))) (fun k => by simp only [sundiallaw03_CivilSteps.j1]) ?_
  refine Ev.bind (week_ev y m d) ?_
  refine Ev.bind (week_ev y2 m2 d2) ?_
  refine Ev.bind (week_ev y3 m3 d3) ?_
  rw [week_is hA, week_is hB, week_is hC]
  have l0 := len_lo y m
  have l1 := len_hi y m
  refine Ev.congr (f := fun _ => some true) (fun k => ?_) (Ev.now _)
  have e1 : Int.tmod (n % 7 + 1) 7 = (n % 7 + 1) % 7 := Int.tmod_eq_emod_of_nonneg (by omega)
  simp only [beq_self_eq_true, Bool.and_self, if_true]
  rw [if_pos (by omega), if_pos (by omega), e1, wrap_id (by omega) (by omega), if_pos (by omega), if_pos (by omega), if_pos (by omega), if_pos (by omega)]
  by_cases c : m = 2
  · subst c
    rw [if_pos rfl, leap_eq, len29]
    simp
  · rw [if_neg c]
end Go.Proofs.YtgpnmhlpcjmehaaDoor.SC
namespace Go.Proofs.YtgpnmhlpcjmehaaDoor.Pure
open Go.RowKit Go.Proofs.YtgpnmhlpcjmehaaDoor.S Go.Proofs.YtgpnmhlpcjmehaaDoorW.PrintWords Go.Proofs.YtgpnmhlpcjmehaaDoorW.PrintLast

theorem CivilSteps : ∀ (x0 : Int), ((Lit.int .i64 x0).wf = true) → ∃ k, sundiallaw03_CivilSteps.f k x0 = some true := by
  intro x0 _
  refine Ev.rounds (g := fun k => sundiallaw03_CivilSteps.f k x0) ?_
  unfold sundiallaw03_CivilSteps.f
  rw [SC.mod_in x0 2958457 (by decide) (by decide)]
  generalize hn : x0 % 2958457 = n
  have n0 : 0 ≤ n := by omega
  have n1 : n < 2958457 := by omega
  rw [SC.wrap_id (x := n + 1) (by omega) (by omega), SC.wrap_id (x := n + 7) (by omega) (by omega)]
  refine Ev.bind SC.awakeE ?_
  simp only [if_true]
  obtain ⟨y, m, d, hA, eA⟩ := SC.day_ev (n := n) n0 (by omega)
  obtain ⟨y2, m2, d2, hB, eB⟩ := SC.day_ev (n := n + 1) (by omega) (by omega)
  obtain ⟨y3, m3, d3, hC, eC⟩ := SC.day_ev (n := n + 7) (by omega) (by omega)
  refine Ev.bind eA ?_
  refine Ev.bind eB ?_
  refine Ev.bind eC ?_
  simp only [SC.last_eq, Option.bind_some, if_true]
  have hl : SC.lastE y m d = (y, m, SC.len y m, 0) := by unfold SC.lastE; rw [if_pos hA.1]
  rw [hl]
  have hu := (SC.next_is hA (by omega)).unique hB
  obtain ⟨h1, h2, h3, h4, h5, h6⟩ := SC.isB_iff.1 hA.1
  have hj := SC.steps_j1 n y m d y2 m2 d2 y3 m3 d3 hA hB hC
  refine Ev.step (f := fun k => sundiallaw03_CivilSteps.j1 k y m d y2 m2 d2 y3 m3 d3 y m (SC.len y m) y2 m2 d2) (fun k => ?_) hj
  simp only [sundiallaw03_CivilSteps.j0, bne_self_eq_false, Bool.false_eq_true, if_false, beq_self_eq_true, Bool.true_and]
  unfold SC.nextOf at hu
  by_cases c : d = SC.len y m
  · rw [if_pos c] at hu
    rw [if_pos (by rw [← c]; exact beq_self_eq_true d)]
    by_cases e : m = 12
    · rw [if_pos e] at hu ⊢
      obtain ⟨rfl, rfl, rfl⟩ := hu
      rw [SC.wrap_id (by omega) (by omega)]
    · rw [if_neg e] at hu ⊢
      obtain ⟨rfl, rfl, rfl⟩ := hu
      rw [SC.wrap_id (by omega) (by omega)]
  · rw [if_neg c] at hu
    rw [if_neg (by simpa using c)]
    obtain ⟨rfl, rfl, rfl⟩ := hu
    have := SC.len_hi y m
    rw [SC.wrap_id (x := d + 1) (by omega) (by omega)]

end Go.Proofs.YtgpnmhlpcjmehaaDoor.Pure

