/- The calendar in plain Lean: years, months, days, and what each of the printed functions comes to. -/
import Derived.Test.YthblkmdknelpbaaQx2
namespace Go.Proofs.Ythblkmdknelpbaa.C
open Go.RowKit Go.Proofs.Ythblkmdknelpbaa.Q Go.Proofs.YthblkmdknelpbaaW.PrintWords Go.Proofs.YthblkmdknelpbaaW.PrintLast

theorem wrap_id {x : Int} (h : -9223372036854775808 ≤ x) (h2 : x ≤ 9223372036854775807) : wrap64 x = x := by unfold wrap64; omega

def leap (y : Int) : Bool := decide (y % 4 = 0) && (decide (y % 100 ≠ 0) || decide (y % 400 = 0))
def len (y m : Int) : Int := if m = 2 then (if leap y = true then 29 else 28) else if m = 4 ∨ m = 6 ∨ m = 9 ∨ m = 11 then 30 else 31
def isB (y m d : Int) : Bool := decide (1900 ≤ y ∧ y ≤ 9999 ∧ 1 ≤ m ∧ m ≤ 12 ∧ 1 ≤ d ∧ d ≤ len y m)
def yl (y : Int) : Int := if leap y = true then 366 else 365
/-- Days ahead of a year. -/
def D (y : Int) : Int := nyear (y - 1) - 693595

theorem tz (y : Int) (n : Nat) : Int.tmod y (n : Int) = 0 ↔ y % (n : Int) = 0 := by
  rw [← Int.dvd_iff_tmod_eq_zero, ← Int.dvd_iff_emod_eq_zero]

theorem leap_eq (y : Int) : civil_Leap.f y = some (leap y) := by
  unfold civil_Leap.f leap
  have h4 : Int.tmod y 4 = 0 ↔ y % 4 = 0 := tz y 4; have h100 : Int.tmod y 100 = 0 ↔ y % 100 = 0 := tz y 100; have h400 : Int.tmod y 400 = 0 ↔ y % 400 = 0 := tz y 400
  by_cases a : y % 4 = 0
  · rw [if_pos (h4.2 a)]
    by_cases b : y % 100 = 0
    · rw [if_pos (h100.2 b)]
      by_cases c : y % 400 = 0
      · simp [a, b, c, h400.2 c]
      · have c' : ¬ (Int.tmod y 400 = 0) := fun z => c (h400.1 z)
        simp [a, b, c, c']
    · rw [if_neg (fun z => b (h100.1 z))]
      simp [a, b]
  · rw [if_neg (fun z => a (h4.1 z))]
    simp [a]
theorem months {m : Int} (h : 1 ≤ m) (h2 : m ≤ 12) : m = 1 ∨ m = 2 ∨ m = 3 ∨ m = 4 ∨ m = 5 ∨ m = 6 ∨ m = 7 ∨ m = 8 ∨ m = 9 ∨ m = 10 ∨ m = 11 ∨ m = 12 := by omega
theorem length_eq (y : Int) {m : Int} (h : 1 ≤ m) (h2 : m ≤ 12) : civil_length.f y m = some (len y m) := by
  unfold civil_length.f len
  rw [leap_eq]
  generalize leap y = b
  rcases months h h2 with rfl | rfl | rfl | rfl | rfl | rfl | rfl | rfl | rfl | rfl | rfl | rfl <;> (cases b <;> kernel_rfl)
theorem len_lo (y m : Int) : 28 ≤ len y m := by unfold len; split; split <;> omega; split <;> omega
theorem len_hi (y m : Int) : len y m ≤ 31 := by unfold len; split; split <;> omega; split <;> omega

theorem yl_lo (y : Int) : 365 ≤ yl y := by unfold yl; split <;> omega
theorem yl_hi (y : Int) : yl y ≤ 366 := by unfold yl; split <;> omega
theorem D_step (y : Int) : D (y + 1) = D y + yl y := by
  unfold D yl nyear
  have : y + 1 - 1 = y := by omega
  rw [this]
  by_cases h : leap y = true
  · rw [if_pos h]; simp only [leap, Bool.and_eq_true, Bool.or_eq_true, decide_eq_true_eq] at h; omega
  · rw [if_neg h]; simp only [leap, Bool.and_eq_true, Bool.or_eq_true, decide_eq_true_eq] at h; omega
theorem D_start : D 1900 = 0 := by decide
theorem D_end : D 10000 = 2958464 := by decide
theorem before_eq {y : Int} (h : 1 ≤ y) (h2 : y ≤ 100000) : civil_before.f y = some (D y) := by
  unfold civil_before.f; rw [if_pos ⟨h, h2⟩]; rfl
theorem D_mono {a b : Int} (h : a ≤ b) : D a ≤ D b := by unfold D nyear; omega
theorem D_lt {a b : Int} (h : a < b) : D a + 365 ≤ D b := by
  have := D_step a; have := yl_lo a; have := D_mono (show a + 1 ≤ b by omega); omega
theorem D_q (q : Nat) : D (1900 + q) ≤ 366 * q := by
  induction q with
  | zero => decide
  | succ q ih =>
    have := D_step (1900 + q); have := yl_hi (1900 + q)
    have e : (1900 + ((q + 1 : Nat) : Int)) = 1900 + q + 1 := by omega
    rw [e]; omega

/-- Days ahead of a month, within its year. -/
def Mn (y : Int) : Nat → Int
  | 0 => 0
  | m + 1 => Mn y m + len y (m + 1)
def M (y m : Int) : Int := Mn y (m - 1).toNat
theorem M_one (y : Int) : M y 1 = 0 := rfl
theorem M_step (y : Int) {m : Int} (h : 1 ≤ m) : M y (m + 1) = M y m + len y m := by
  unfold M
  have e : (m + 1 - 1).toNat = (m - 1).toNat + 1 := by omega
  rw [e]; show Mn y (m - 1).toNat + len y (((m - 1).toNat : Int) + 1) = _
  have e2 : (((m - 1).toNat : Int) + 1) = m := by omega
  rw [e2]
theorem M_end (y : Int) : M y 13 = yl y := by
  show Mn y 12 = _
  unfold yl
  by_cases h : leap y = true <;> simp [Mn, len, h]
theorem Mn_mono (y : Int) (a d : Nat) : Mn y a ≤ Mn y (a + d) := by
  induction d with
  | zero => exact Int.le_refl _
  | succ d ih => have := len_lo y ((a + d : Nat) + 1); have e : Mn y (a + (d + 1)) = Mn y (a + d) + len y ((a + d : Nat) + 1) := rfl; omega
theorem M_mono (y : Int) {a b : Int} (h : a ≤ b) : M y a ≤ M y b := by
  unfold M
  obtain ⟨d, hd⟩ : ∃ d, (b - 1).toNat = (a - 1).toNat + d := ⟨(b - 1).toNat - (a - 1).toNat, by omega⟩
  rw [hd]; exact Mn_mono y _ d
theorem M_nonneg (y m : Int) : 0 ≤ M y m := by
  have := Mn_mono y 0 (m - 1).toNat; rw [Nat.zero_add] at this; exact this
theorem M_le (y : Int) {m : Int} (h2 : m ≤ 13) : M y m ≤ 366 := by
  have := M_mono y h2; rw [M_end] at this; have := yl_hi y; omega

theorem isB_iff {y m d : Int} : isB y m d = true ↔ 1900 ≤ y ∧ y ≤ 9999 ∧ 1 ≤ m ∧ m ≤ 12 ∧ 1 ≤ d ∧ d ≤ len y m := by simp [isB]
/-- A date's number. -/
def num (y m d : Int) : Int := D y + M y m + d - 1
theorem num_lo {y m d : Int} (h : isB y m d = true) : 0 ≤ num y m d := by
  obtain ⟨h1, h2, h3, h4, h5, h6⟩ := isB_iff.1 h
  have := D_mono h1; rw [D_start] at this; have := M_nonneg y m; unfold num; omega
theorem num_hi {y m d : Int} (h : isB y m d = true) : num y m d < D (y + 1) := by
  obtain ⟨h1, h2, h3, h4, h5, h6⟩ := isB_iff.1 h
  have := D_step y; have := M_step y h3; have := M_mono y (show m + 1 ≤ 13 by omega); rw [M_end] at this; unfold num; omega
theorem num_lt {y m d : Int} (h : isB y m d = true) : num y m d < 2958464 := by
  obtain ⟨h1, h2, -⟩ := isB_iff.1 h
  have := num_hi h; have := D_mono (show y + 1 ≤ 10000 by omega); rw [D_end] at this; omega
theorem D_top {y : Int} (h2 : y ≤ 10000) : D y ≤ 2958464 := by have := D_mono h2; rw [D_end] at this; omega
theorem D_bot {y : Int} (h2 : 1900 ≤ y) : 0 ≤ D y := by have := D_mono h2; rw [D_start] at this; omega
/-- One number, one date. -/
theorem num_inj {y m d y' m' d' : Int} (h : isB y m d = true) (h' : isB y' m' d' = true) (e : num y m d = num y' m' d') : y = y' ∧ m = m' ∧ d = d' := by
  obtain ⟨h1, h2, h3, h4, h5, h6⟩ := isB_iff.1 h
  obtain ⟨g1, g2, g3, g4, g5, g6⟩ := isB_iff.1 h'
  have a := num_hi h; have b := num_hi h'
  have hy : y = y' := by
    have p := M_nonneg y m; have q := M_nonneg y' m'
    rcases Int.lt_trichotomy y y' with c | c | c
    · have := D_mono (show y + 1 ≤ y' by omega); unfold num at *; omega
    · exact c
    · have := D_mono (show y' + 1 ≤ y by omega); unfold num at *; omega
  subst hy
  have hm : m = m' := by
    have p := M_step y h3; have q := M_step y g3
    rcases Int.lt_trichotomy m m' with c | c | c
    · have := M_mono y (show m + 1 ≤ m' by omega); unfold num at *; omega
    · exact c
    · have := M_mono y (show m' + 1 ≤ m by omega); unfold num at *; omega
  subst hm
  refine ⟨rfl, rfl, ?_⟩
  unfold num at *; omega

end Go.Proofs.Ythblkmdknelpbaa.C

