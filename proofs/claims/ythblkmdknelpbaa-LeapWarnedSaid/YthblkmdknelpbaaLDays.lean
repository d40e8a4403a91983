/- Number, Day, Last and Weekday, the program's and the document's: what each comes to. -/
import Derived.Test.YthblkmdknelpbaaLBase
namespace Go.Proofs.Ythblkmdknelpbaa.C
open Go.RowKit Go.Proofs.Ythblkmdknelpbaa.Q Go.Proofs.YthblkmdknelpbaaW.PrintWords Go.Proofs.YthblkmdknelpbaaW.PrintLast

/-- The date of a number. -/
def IsDay (n y m d : Int) : Prop := isB y m d = true ∧ num y m d = n
theorem IsDay.unique {n y m d y' m' d' : Int} (h : IsDay n y m d) (h' : IsDay n y' m' d') : y = y' ∧ m = m' ∧ d = d' := num_inj h.1 h'.1 (h.2.trans h'.2.symm)
theorem year_lt {n y : Int} (h : D y ≤ n) (hn : n < 2958464) : y < 10000 := by
  by_cases c : y < 10000
  · exact c
  · have := D_mono (show (10000 : Int) ≤ y by omega); rw [D_end] at this; omega
theorem month_lt {n y m d : Int} (hm : m ≤ 12) (h1 : 1 ≤ m) (hd : D y + M y m + d - 1 = n) (hn : n < D (y + 1)) (c : d > len y m) : m < 12 := by
  by_cases g : m < 12
  · exact g
  · have e : m = 12 := by omega
    subst e
    have a := M_step y h1
    have b := M_end y
    have : (12 : Int) + 1 = 13 := rfl
    rw [this] at a
    have := D_step y
    omega
theorem day_l1 (n y : Int) (hy : 1900 ≤ y) (hy2 : y ≤ 9999) (hn : n < D (y + 1)) : ∀ (j : Nat) (m d : Int), (12 - m).toNat = j → 1 ≤ m → m ≤ 12 → 1 ≤ d → D y + M y m + d - 1 = n →
    ∃ m' d', IsDay n y m' d' ∧ Ev (fun k => civil_Day.l1 k y m d) (y, m', d', 0) := by
  have hb := D_top (show y + 1 ≤ 10000 by omega)
  have hc := D_bot hy
  intro j
  induction j with
  | zero =>
    intro m d hj h1 h2 hd e
    have hle : ¬ (d > len y m) := fun c => by have := month_lt h2 h1 e hn c; omega
    refine ⟨m, d, ⟨isB_iff.2 ⟨hy, hy2, h1, h2, hd, by omega⟩, e⟩, Ev.step (f := fun _ => some (y, m, d, 0)) (fun k => ?_) (Ev.now _)⟩
    simp only [civil_Day.l1]
    rw [length_eq y h1 h2]; simp only [Option.bind_some]; rw [if_neg hle]
  | succ j ih =>
    intro m d hj h1 h2 hd e
    have hM := M_nonneg y m
    by_cases c : d > len y m
    · have hlt := month_lt h2 h1 e hn c
      have := len_lo y m; have := len_hi y m
      obtain ⟨m', d', hD, hE⟩ := ih (m + 1) (d - len y m) (by omega) (by omega) (by omega) (by omega) (by have := M_step y h1; omega)
      refine ⟨m', d', hD, Ev.step (f := fun k => civil_Day.l1 k y (m + 1) (d - len y m)) (fun k => ?_) hE⟩
      simp only [civil_Day.l1]
      rw [length_eq y h1 h2]; simp only [Option.bind_some]; rw [if_pos c, wrap_id (by omega) (by omega), wrap_id (by omega) (by omega)]
    · refine ⟨m, d, ⟨isB_iff.2 ⟨hy, hy2, h1, h2, hd, by omega⟩, e⟩, Ev.step (f := fun _ => some (y, m, d, 0)) (fun k => ?_) (Ev.now _)⟩
      simp only [civil_Day.l1]
      rw [length_eq y h1 h2]; simp only [Option.bind_some]; rw [if_neg c]
theorem day_l0 (n : Int) (hn0 : 0 ≤ n) (hn : n < 2958464) : ∀ (j : Nat) (y : Int), (10000 - y).toNat = j → 1900 ≤ y → D y ≤ n →
    ∃ y' m' d', IsDay n y' m' d' ∧ Ev (fun k => civil_Day.l0 k n y 1 0) (y', m', d', 0) := by
  intro j
  induction j with
  | zero => intro y hj hy e; have := year_lt e hn; omega
  | succ j ih =>
    intro y hj hy e
    have hlt := year_lt e hn
    have ds := D_step y; have := yl_lo y; have hb := D_bot hy
    by_cases c : D (y + 1) ≤ n
    · obtain ⟨y', m', d', hD, hE⟩ := ih (y + 1) (by omega) (by omega) c
      refine ⟨y', m', d', hD, Ev.step (f := fun k => civil_Day.l0 k n (y + 1) 1 0) (fun k => ?_) hE⟩
      simp only [civil_Day.l0]
      rw [wrap_id (by omega) (by omega), before_eq (by omega) (by omega)]
      simp only [Option.bind_some]; rw [if_pos c]
    · obtain ⟨m', d', hD, hE⟩ := day_l1 n y hy (by omega) (by omega) 11 1 (n - D y + 1) (by decide) (by decide) (by decide) (by omega) (by rw [M_one]; omega)
      refine ⟨y, m', d', hD, Ev.step (f := fun k => civil_Day.l1 k y 1 (n - D y + 1)) (fun k => ?_) hE⟩
      simp only [civil_Day.l0]
      rw [wrap_id (x := y + 1) (by omega) (by omega), before_eq (by omega) (by omega)]
      simp only [Option.bind_some]; rw [if_neg c, before_eq (by omega) (by omega)]
      simp only [Option.bind_some]; rw [wrap_id (x := n - D y) (by omega) (by omega), wrap_id (by omega) (by omega)]
theorem day_ev {n : Int} (hn0 : 0 ≤ n) (hn : n < 2958464) : ∃ y m d, IsDay n y m d ∧ Ev (fun k => civil_Day.f k n) (y, m, d, 0) := by
  have hq : Int.tdiv n 366 = n / 366 := Int.tdiv_eq_ediv_of_nonneg hn0
  have hd : D (1900 + n / 366) ≤ n := by
    have := D_q (n / 366).toNat
    have e : (((n / 366).toNat : Nat) : Int) = n / 366 := by omega
    rw [e] at this; omega
  obtain ⟨y, m, d, hD, hE⟩ := day_l0 n hn0 hn _ (1900 + n / 366) rfl (by omega) hd
  refine ⟨y, m, d, hD, ?_⟩
  unfold civil_Day.f
  refine Ev.congr (f := fun k => civil_Day.j0 k n (decide (n ≥ 2958464))) (fun k => by rw [if_neg (by omega), before_eq (by decide) (by decide)]; simp only [Option.bind_some, D_end]) ?_
  refine Ev.step (f := fun k => civil_Day.l0 k n (1900 + n / 366) 1 0) (fun k => ?_) hE
  simp only [civil_Day.j0]
  rw [if_neg (by simp; omega), hq, wrap_id (x := n / 366) (by omega) (by omega), wrap_id (by omega) (by omega)]
theorem day_out {n : Int} (h : ¬ (0 ≤ n ∧ n < 2958464)) : Ev (fun k => civil_Day.f k n) (0, 0, 0, 2) := by
  unfold civil_Day.f
  by_cases c : n < 0
  · refine Ev.congr (f := fun k => civil_Day.j0 k n true) (fun k => by rw [if_pos c]) ?_
    exact Ev.step (f := fun _ => some (0, 0, 0, 2)) (fun k => by simp only [civil_Day.j0]; rfl) (Ev.now _)
  · refine Ev.congr (f := fun k => civil_Day.j0 k n (decide (n ≥ 2958464))) (fun k => by rw [if_neg (by omega), before_eq (by decide) (by decide)]; simp only [Option.bind_some, D_end]) ?_
    exact Ev.step (f := fun _ => some (0, 0, 0, 2)) (fun k => by simp only [civil_Day.j0]; rw [if_pos (by simp; omega)]) (Ev.now _)
end Go.Proofs.Ythblkmdknelpbaa.C

