/- Tables of leap seconds in plain Lean: what Check, UTC, Even and Warn come to. -/
import Derived.Test.YthblkmdknelpbaaLDays
import Derived.Test.YthblkmdknelpbaaQx4
import Derived.Lib.RowBridge
namespace Go.Proofs.Ythblkmdknelpbaa.C
open Go.RowKit Go.Proofs.Ythblkmdknelpbaa.Q Go.Proofs.YthblkmdknelpbaaW.PrintWords Go.Proofs.YthblkmdknelpbaaW.PrintLast
open Go.Proofs.YthblkmdknelpbaaU (utcP utcL st)

/-- A time that begins a month. -/
def First (t : Int) : Prop := 0 ≤ t ∧ t % 90596966400 = 0 ∧ ∃ y m, IsDay (t / 90596966400) y m 1
theorem months_ev (t : Int) (ht : t ≤ 9223372036854775807) : ∃ b, Ev (fun k => leap_months.f k t) b ∧ (b = true → First t) := by
  unfold leap_months.f
  by_cases c : t < 0
  · refine ⟨false, Ev.bind (a := (0, 0, 0, 0, 0, 0, 0, 2)) (Ev.congr (f := fun _ => some (0, 0, 0, 0, 0, 0, 0, 2)) (fun k => by unfold civil_Show.f; rw [if_pos c]) (Ev.now _)) ?_, by simp⟩
    exact Ev.congr (f := fun _ => some false) (fun k => by simp) (Ev.now _)
  have h0 : 0 ≤ t := by omega
  have e1 : wrap64 (Int.tdiv t 90596966400) = t / 90596966400 := by rw [Int.tdiv_eq_ediv_of_nonneg h0]; exact wrap_id (by omega) (by omega)
  have e2 : Int.tmod t 90596966400 = t % 90596966400 := Int.tmod_eq_emod_of_nonneg h0
  have e3 : wrap64 (Int.tdiv (t % 90596966400) 1048576) = t / 1048576 % 86400 := by
    rw [Int.tdiv_eq_ediv_of_nonneg (by omega), wrap_id (by omega) (by omega)]; omega
  have e4 : Int.tmod t 1048576 = t % 1048576 := Int.tmod_eq_emod_of_nonneg h0
  generalize hs : t / 1048576 % 86400 = s at *
  have hs0 : 0 ≤ s := by omega
  have hs1 : s < 86400 := by omega
  have e8 : wrap64 (Int.tdiv s 3600) = s / 3600 := by rw [Int.tdiv_eq_ediv_of_nonneg hs0]; exact wrap_id (by omega) (by omega)
  have e9 : Int.tmod s 3600 = s % 3600 := Int.tmod_eq_emod_of_nonneg hs0
  have e10 : wrap64 (Int.tdiv (s % 3600) 60) = s % 3600 / 60 := by rw [Int.tdiv_eq_ediv_of_nonneg (by omega)]; exact wrap_id (by omega) (by omega)
  have e11 : Int.tmod s 60 = s % 60 := Int.tmod_eq_emod_of_nonneg hs0
  by_cases g : t ≥ 268027863603609600
  · refine ⟨false, Ev.bind (a := (0, 0, 0, 0, 0, 0, 0, 2)) ?_ (Ev.congr (f := fun _ => some false) (fun k => by simp) (Ev.now _)), by simp⟩
    unfold civil_Show.f
    simp only [if_neg c]
    rw [e1]
    refine Ev.bind (day_out (by omega)) ?_
    exact Ev.now _
  · have hn : t / 90596966400 < 2958464 := by omega
    obtain ⟨y, m, d, hD, hE⟩ := day_ev (n := t / 90596966400) (by omega) hn
    refine ⟨(d == 1) && (s / 3600 == 0 && (s % 3600 / 60 == 0 && (s % 60 == 0 && (t % 1048576 == 0)))), Ev.bind (a := (y, m, d, s / 3600, s % 3600 / 60, s % 60, t % 1048576, 0)) ?_ ?_, fun hb => ?_⟩
    · unfold civil_Show.f
      simp only [if_neg c]
      rw [e1]
      refine Ev.bind hE ?_
      simp only [if_true, e2, e3, e4, e8, e9, e10, e11]
      exact Ev.now _
    · exact Ev.now _
    · simp only [Bool.and_eq_true, beq_iff_eq] at hb
      obtain ⟨rfl, h1, h2, h3, h4⟩ := hb
      exact ⟨h0, by omega, y, m, hD⟩
theorem First.far {a b : Int} (ha : First a) (hb : First b) (h : a < b) : a + 181193932800 ≤ b := by
  obtain ⟨a0, a1, y, m, hD⟩ := ha
  obtain ⟨b0, b1, y', m', hD'⟩ := hb
  have h1 : a / 90596966400 < b / 90596966400 := by omega
  have hne : b / 90596966400 ≠ a / 90596966400 + 1 := by
    intro e
    obtain ⟨h1, h2, h3, h4, h5, h6⟩ := isB_iff.1 hD.1
    have hl := len_lo y m
    have : IsDay (b / 90596966400) y m 2 := ⟨isB_iff.2 ⟨h1, h2, h3, h4, by omega, by omega⟩, by have := hD.2; unfold num at *; omega⟩
    have := hD'.unique this
    omega
  omega

/-! ### The table -/
def A (l : List S36) (i : Nat) : Int := (rd_T36 l (i : Int)).f0
def Of (l : List S36) (i : Nat) : Int := (rd_T36 l (i : Int)).f1
theorem A_eq (l : List S36) (i : Nat) : A l i = (rd_T36 l (i : Int)).f0 := rfl
theorem Of_eq (l : List S36) (i : Nat) : Of l i = (rd_T36 l (i : Int)).f1 := rfl
structure Good (l : List S36) (q : Nat) : Prop where
  o0 : 0 ≤ Of l q
  o1 : Of l q ≤ 200
  a : A l q ≤ 10485759998951424
  f : First (A l q)
  s : 0 < q → (Of l q = Of l (q - 1) + 1 ∨ Of l q = Of l (q - 1) - 1) ∧ A l (q - 1) < A l q
structure Right (l : List S36) (ex : Int) : Prop where
  n : 1 ≤ l.length
  big : l.length ≤ 8796093022208
  e0 : 0 ≤ ex
  e1 : ex ≤ 10485759998951424
  g : ∀ q, q < l.length → Good l q
theorem sq_le {d : Int} (h1 : -200 ≤ d) (h2 : d ≤ 200) : 0 ≤ d * d ∧ d * d ≤ 40000 := by
  have h : d.natAbs ≤ 200 := by omega
  have h3 := Nat.mul_le_mul h h
  have h4 : d * d = ((d.natAbs * d.natAbs : Nat) : Int) := by rw [← Int.natAbs_mul]; exact (Int.natAbs_of_nonneg (by
    rcases Int.le_total 0 d with c | c
    · exact Int.mul_nonneg c c
    · exact Int.mul_nonneg_of_nonpos_of_nonpos c c)).symm
  omega
theorem sq_one {d : Int} (h : d * d = 1) : d = 1 ∨ d = -1 := by
  have h1 : (d * d).natAbs = 1 := by rw [h]; rfl
  rw [Int.natAbs_mul] at h1
  have := Nat.eq_one_of_mul_eq_one_right h1
  omega
theorem bad3 (l l' : List S36) (i n i' ex a o : Int) : Ev (fun k => leap_Check.j2 k i l n i' true l' ex a o) 3 :=
  Ev.step (f := fun _ => some 3) (fun k => by simp only [leap_Check.j2]; rfl) (Ev.now _)
theorem check_l0 (l : List S36) (hl : l.length ≤ 8796093022208) (ex : Int) : ∀ (j i : Nat), i + j = l.length → (∀ q, q < i → Good l q) →
    ∃ r, Ev (fun k => leap_Check.l0 k l (l.length : Int) (i : Int) l ex) r ∧ (r = 3 ∨ r = 0 ∧ ∀ q, q < l.length → Good l q) := by
  intro j
  induction j with
  | zero =>
    intro i hi hg
    refine ⟨0, Ev.step (f := fun _ => some 0) (fun k => by simp only [leap_Check.l0]; rw [if_neg (by omega)]) (Ev.now _), .inr ⟨rfl, fun q hq => hg q (by omega)⟩⟩
  | succ j ih =>
    intro i hi hg
    have hlt : (i : Int) < (l.length : Int) := by omega
    have hl0 : ∀ k, leap_Check.l0 (k + 1) l (l.length : Int) (i : Int) l ex = (if Of l i < 0 then leap_Check.j2 k (i : Int) l (l.length : Int) (i : Int) true l ex (A l i) (Of l i) else if Of l i > 200 then leap_Check.j2 k (i : Int) l (l.length : Int) (i : Int) true l ex (A l i) (Of l i) else if A l i > 10485759998951424 then leap_Check.j2 k (i : Int) l (l.length : Int) (i : Int) true l ex (A l i) (Of l i) else (leap_months.f k (A l i)).bind fun t => leap_Check.j2 k (i : Int) l (l.length : Int) (i : Int) (!t) l ex (A l i) (Of l i)) := fun k => by
      simp only [leap_Check.l0]
      rw [if_pos hlt, if_pos (show (0 : Int) ≤ (i : Int) by omega), if_pos hlt]
      rfl
    by_cases c1 : Of l i < 0
    · exact ⟨3, Ev.step (f := fun k => leap_Check.j2 k (i : Int) l (l.length : Int) (i : Int) true l ex (A l i) (Of l i)) (fun k => by rw [hl0, if_pos c1]) (bad3 _ _ _ _ _ _ _ _), .inl rfl⟩
    by_cases c2 : Of l i > 200
    · exact ⟨3, Ev.step (f := fun k => leap_Check.j2 k (i : Int) l (l.length : Int) (i : Int) true l ex (A l i) (Of l i)) (fun k => by rw [hl0, if_neg c1, if_pos c2]) (bad3 _ _ _ _ _ _ _ _), .inl rfl⟩
    by_cases c3 : A l i > 10485759998951424
    · exact ⟨3, Ev.step (f := fun k => leap_Check.j2 k (i : Int) l (l.length : Int) (i : Int) true l ex (A l i) (Of l i)) (fun k => by rw [hl0, if_neg c1, if_neg c2, if_pos c3]) (bad3 _ _ _ _ _ _ _ _), .inl rfl⟩
    obtain ⟨b, hb, hbf⟩ := months_ev (A l i) (by omega)
    have enter : ∀ r, Ev (fun k => leap_Check.j2 k (i : Int) l (l.length : Int) (i : Int) (!b) l ex (A l i) (Of l i)) r → Ev (fun k => leap_Check.l0 k l (l.length : Int) (i : Int) l ex) r := fun r h =>
      Ev.step (f := fun k => (leap_months.f k (A l i)).bind fun t => leap_Check.j2 k (i : Int) l (l.length : Int) (i : Int) (!t) l ex (A l i) (Of l i)) (fun k => by rw [hl0, if_neg c1, if_neg c2, if_neg c3]) (Ev.bind hb h)
    cases b with
    | false => exact ⟨3, enter 3 (bad3 _ _ _ _ _ _ _ _), .inl rfl⟩
    | true =>
      have hF := hbf rfl
      by_cases c4 : (0 : Nat) < i
      · have ei : wrap64 ((i : Int) - 1) = ((i - 1 : Nat) : Int) := by rw [wrap_id (by omega) (by omega)]; omega
        have gp := hg (i - 1) (by omega)
        have p0 := gp.o0; have p1 := gp.o1
        have ed : wrap64 (Of l i - Of l (i - 1)) = Of l i - Of l (i - 1) := wrap_id (by omega) (by omega)
        obtain ⟨s0, s1⟩ := sq_le (d := Of l i - Of l (i - 1)) (by omega) (by omega)
        have es : wrap64 ((Of l i - Of l (i - 1)) * (Of l i - Of l (i - 1))) = (Of l i - Of l (i - 1)) * (Of l i - Of l (i - 1)) := wrap_id (by omega) (by omega)
        have next : ∀ k, leap_Check.j2 (k + 1) (i : Int) l (l.length : Int) (i : Int) (!true) l ex (A l i) (Of l i) = (if (Of l i - Of l (i - 1)) * (Of l i - Of l (i - 1)) = 1 then (if A l i ≤ A l (i - 1) then some 3 else leap_Check.l0 k l (l.length : Int) (wrap64 ((i : Int) + 1)) l ex) else some 3) := fun k => by
          simp only [leap_Check.j2]
          rw [if_neg (by simp), if_pos (by omega), ei, if_pos (by omega), if_pos (by omega)]
          show (if wrap64 (wrap64 (Of l i - Of l (i - 1)) * wrap64 (Of l i - Of l (i - 1))) = 1 then _ else _) = _
          rw [ed, es]; rfl
        by_cases c5 : (Of l i - Of l (i - 1)) * (Of l i - Of l (i - 1)) = 1
        · by_cases c6 : A l i ≤ A l (i - 1)
          · exact ⟨3, enter 3 (Ev.step (f := fun _ => some 3) (fun k => by rw [next, if_pos c5, if_pos c6]) (Ev.now _)), .inl rfl⟩
          · have hi1 := sq_one c5
            obtain ⟨r, hr, hr'⟩ := ih (i + 1) (by omega) (fun q hq => by
              by_cases cq : q < i
              · exact hg q cq
              · obtain rfl : q = i := by omega
                exact ⟨by omega, by omega, by omega, hF, fun _ => ⟨by omega, by omega⟩⟩)
            refine ⟨r, enter r (Ev.step (f := fun k => leap_Check.l0 k l (l.length : Int) ((i + 1 : Nat) : Int) l ex) (fun k => by rw [next, if_pos c5, if_neg c6, wrap_id (by omega) (by omega)]; rfl) hr), hr'⟩
        · exact ⟨3, enter 3 (Ev.step (f := fun _ => some 3) (fun k => by rw [next, if_neg c5]) (Ev.now _)), .inl rfl⟩
      · obtain ⟨r, hr, hr'⟩ := ih (i + 1) (by omega) (fun q hq => by
          obtain rfl : q = i := by omega
          exact ⟨by omega, by omega, by omega, hF, fun h => absurd h c4⟩)
        refine ⟨r, enter r (Ev.step (f := fun k => leap_Check.l0 k l (l.length : Int) ((i + 1 : Nat) : Int) l ex) (fun k => ?_) hr), hr'⟩
        simp only [leap_Check.j2]
        rw [if_neg (by simp), if_neg (by omega), wrap_id (by omega) (by omega)]; rfl
theorem j03 (l : List S36) (ex : Int) : Ev (fun k => leap_Check.j0 k true l ex) 3 := Ev.step (f := fun _ => some 3) (fun k => by simp only [leap_Check.j0]; rfl) (Ev.now _)
theorem check_ev (l : List S36) (hl : l.length ≤ 8796093022208) (ex : Int) : ∃ r, Ev (fun k => leap_Check.f k l ex) r ∧ (r = 3 ∨ r = 0 ∧ Right l ex) := by
  unfold leap_Check.f
  by_cases c1 : (l.length : Int) = 0
  · exact ⟨3, Ev.congr (f := fun k => leap_Check.j0 k true l ex) (fun k => by rw [if_pos c1]) (j03 l ex), .inl rfl⟩
  by_cases c2 : ex < 0
  · exact ⟨3, Ev.congr (f := fun k => leap_Check.j0 k true l ex) (fun k => by rw [if_neg c1, if_pos c2]) (j03 l ex), .inl rfl⟩
  by_cases c3 : ex > 10485759998951424
  · exact ⟨3, Ev.congr (f := fun k => leap_Check.j0 k true l ex) (fun k => by rw [if_neg c1, if_neg c2, if_pos c3]) (j03 l ex), .inl rfl⟩
  have enter : ∀ r, Ev (fun k => leap_Check.j0 k (Int.tmod ex 1048576 != 0) l ex) r → Ev (fun k => if (l.length : Int) = 0 then leap_Check.j0 k true l ex else if ex < 0 then leap_Check.j0 k true l ex else if ex > 10485759998951424 then leap_Check.j0 k true l ex else leap_Check.j0 k (Int.tmod ex 1048576 != 0) l ex) r := fun r h =>
    Ev.congr (fun k => by rw [if_neg c1, if_neg c2, if_neg c3]) h
  cases hb : (Int.tmod ex 1048576 != 0) with
  | true => exact ⟨3, hb ▸ enter 3 (hb ▸ j03 l ex), .inl rfl⟩
  | false =>
    obtain ⟨r, hr, hr'⟩ := check_l0 l hl ex l.length 0 (by omega) (fun q h => absurd h (by omega))
    refine ⟨r, hb ▸ enter r (hb ▸ Ev.step (f := fun k => leap_Check.l0 k l (l.length : Int) ((0 : Nat) : Int) l ex) (fun k => by simp only [leap_Check.j0]; rfl) hr), hr'.imp id fun ⟨h1, h2⟩ => ⟨h1, by omega, hl, by omega, by omega, h2⟩⟩

/-! ### UTC -/
theorem fits_bad {l : List S36} {ex : Int} (h : Ev (fun k => leap_Check.f k l ex) 3) (u : Int) : Ev (fun k => leap_fits.f k l ex u) 3 := by
  unfold leap_fits.f
  exact Ev.bind h (Ev.now _)
theorem fits_ok {l : List S36} {ex : Int} (h : Ev (fun k => leap_Check.f k l ex) 0) {u : Int} (h0 : 0 ≤ u) (h1 : u ≤ 288230376151711744) : Ev (fun k => leap_fits.f k l ex u) 0 := by
  unfold leap_fits.f
  exact Ev.bind h (Ev.congr (f := fun _ => some 0) (fun k => by rw [if_pos rfl, if_neg (by omega), if_neg (by omega)]) (Ev.now _))
theorem fits_out {l : List S36} {ex : Int} (h : Ev (fun k => leap_Check.f k l ex) 0) {u : Int} (h0 : ¬ (0 ≤ u ∧ u ≤ 288230376151711744)) : Ev (fun k => leap_fits.f k l ex u) 2 := by
  unfold leap_fits.f
  refine Ev.bind h (Ev.congr (f := fun _ => some 2) (fun k => ?_) (Ev.now _))
  rw [if_pos rfl]
  by_cases c : u < 0
  · rw [if_pos c]
  · rw [if_neg c, if_pos (by omega)]
theorem utc_f {l : List S36} {ex : Int} (hR : Right l ex) (u : Int) : leap_utc.f l ex u = some (utcP (lf36 l) u l.length) := by
  unfold leap_utc.f
  rw [if_pos ⟨hR.n, by have := hR.big; omega⟩]
theorem utcC_bad {l : List S36} {ex : Int} (h : Ev (fun k => leap_Check.f k l ex) 3) (u : Int) : Ev (fun k => leap_UTC.f k l ex u) (0, false, 3) := by
  unfold leap_UTC.f
  exact Ev.bind (fits_bad h u) (Ev.now _)
theorem utcC_out {l : List S36} {ex : Int} (h : Ev (fun k => leap_Check.f k l ex) 0) {u : Int} (h0 : ¬ (0 ≤ u ∧ u ≤ 288230376151711744)) : Ev (fun k => leap_UTC.f k l ex u) (0, false, 2) := by
  unfold leap_UTC.f
  exact Ev.bind (fits_out h h0) (Ev.now _)
theorem utcC_ok {l : List S36} {ex : Int} (h : Ev (fun k => leap_Check.f k l ex) 0) (hR : Right l ex) {u : Int} (h0 : 0 ≤ u) (h1 : u ≤ 288230376151711744) : Ev (fun k => leap_UTC.f k l ex u) ((utcP (lf36 l) u l.length).1, (utcP (lf36 l) u l.length).2, 0) := by
  unfold leap_UTC.f
  refine Ev.bind (fits_ok h h0 h1) ?_
  exact Ev.congr (f := fun _ => some ((utcP (lf36 l) u l.length).1, (utcP (lf36 l) u l.length).2, 0)) (fun k => by rw [if_pos rfl, utc_f hR]; rfl) (Ev.now _)

/-- A change's even time. -/
def E (l : List S36) (i : Nat) : Int := A l i + Of l i * 1048576
theorem st_eq {l : List S36} {ex : Int} (hR : Right l ex) {u : Int} (h0 : 0 ≤ u) (h1 : u ≤ 1152921504606846976) {m : Nat} (hm : m + 1 < l.length) :
    st (lf36 l) u m = if E l (m + 1) ≤ u then some (u - Of l (m + 1) * 1048576, false) else if Of l m < Of l (m + 1) ∧ E l (m + 1) - 1048576 ≤ u then some (u - Of l (m + 1) * 1048576, true) else none := by
  have g := hR.g (m + 1) hm
  have a0 := g.o0; have a1 := g.o1; have a2 := g.a; have a3 := g.f.1
  show (if u ≥ wrap64 (A l (m + 1) + wrap64 (Of l (m + 1) * 1048576)) then some (wrap64 (u - wrap64 (Of l (m + 1) * 1048576)), false)
    else if Of l (m + 1) > Of l m ∧ u ≥ wrap64 (wrap64 (A l (m + 1) + wrap64 (Of l (m + 1) * 1048576)) - 1048576) then some (wrap64 (u - wrap64 (Of l (m + 1) * 1048576)), true) else none) = _
  rw [wrap_id (x := Of l (m + 1) * 1048576) (by omega) (by omega), wrap_id (x := A l (m + 1) + Of l (m + 1) * 1048576) (by omega) (by omega), wrap_id (x := u - Of l (m + 1) * 1048576) (by omega) (by omega), wrap_id (x := A l (m + 1) + Of l (m + 1) * 1048576 - 1048576) (by omega) (by omega)]
  rfl
/-- Which change an even time stands behind, and whether within its leap second. -/
def Sits (l : List S36) (u : Int) (n i : Nat) (b : Bool) : Prop :=
  (i = 0 ∧ b = false ∨ 0 < i ∧ (E l i ≤ u ∧ b = false ∨ Of l (i - 1) < Of l i ∧ E l i - 1048576 ≤ u ∧ u < E l i ∧ b = true)) ∧ ∀ j, i < j → j < n → u < E l j ∧ (Of l (j - 1) < Of l j → u < E l j - 1048576)
theorem utcL_sits {l : List S36} {ex : Int} (hR : Right l ex) {u : Int} (h0 : 0 ≤ u) (h1 : u ≤ 1152921504606846976) : ∀ m, m < l.length →
    ∃ i b, i ≤ m ∧ Sits l u (m + 1) i b ∧ (utcL (lf36 l) u m).getD (u - Of l 0 * 1048576, false) = (u - Of l i * 1048576, b) := by
  intro m
  induction m with
  | zero => intro _; exact ⟨0, false, by omega, ⟨.inl ⟨rfl, rfl⟩, fun j h1 h2 => by omega⟩, rfl⟩
  | succ m ih =>
    intro hm
    have e : utcL (lf36 l) u (m + 1) = (match st (lf36 l) u m with | some r => some r | none => utcL (lf36 l) u m) := rfl
    rw [e, st_eq hR h0 h1 hm]
    by_cases c1 : E l (m + 1) ≤ u
    · rw [if_pos c1]
      exact ⟨m + 1, false, by omega, ⟨.inr ⟨by omega, .inl ⟨c1, rfl⟩⟩, fun j h1 h2 => by omega⟩, rfl⟩
    rw [if_neg c1]
    by_cases c2 : Of l m < Of l (m + 1) ∧ E l (m + 1) - 1048576 ≤ u
    · rw [if_pos c2]
      exact ⟨m + 1, true, by omega, ⟨.inr ⟨by omega, .inr ⟨c2.1, c2.2, by omega, rfl⟩⟩, fun j h1 h2 => by omega⟩, rfl⟩
    rw [if_neg c2]
    obtain ⟨i, b, hi, ⟨hs1, hs2⟩, he⟩ := ih (by omega)
    refine ⟨i, b, by omega, ⟨hs1, fun j j1 j2 => ?_⟩, he⟩
    by_cases cj : j < m + 1
    · exact hs2 j j1 cj
    · obtain rfl : j = m + 1 := by omega
      exact ⟨by omega, fun h => by
        have : ¬ (E l (m + 1) - 1048576 ≤ u) := fun h' => c2 ⟨h, h'⟩
        omega⟩
theorem utc_sits {l : List S36} {ex : Int} (hR : Right l ex) {u : Int} (h0 : 0 ≤ u) (h1 : u ≤ 1152921504606846976) :
    ∃ i b, i < l.length ∧ Sits l u l.length i b ∧ utcP (lf36 l) u l.length = (u - Of l i * 1048576, b) := by
  have hn := hR.n
  obtain ⟨i, b, hi, hs, he⟩ := utcL_sits hR h0 h1 (l.length - 1) (by omega)
  have e : l.length - 1 + 1 = l.length := by omega
  rw [e] at hs
  refine ⟨i, b, by omega, hs, ?_⟩
  rw [← he]
  have g := hR.g 0 (by omega)
  have a0 := g.o0; have a1 := g.o1
  show (utcL (lf36 l) u (l.length - 1)).getD (wrap64 (u - wrap64 (Of l 0 * 1048576)), false) = _
  rw [wrap_id (x := Of l 0 * 1048576) (by omega) (by omega), wrap_id (x := u - Of l 0 * 1048576) (by omega) (by omega)]
theorem A_far {l : List S36} {ex : Int} (hR : Right l ex) {i : Nat} (h : i + 1 < l.length) : A l i + 181193932800 ≤ A l (i + 1) :=
  (hR.g i (by omega)).f.far (hR.g (i + 1) h).f ((hR.g (i + 1) h).s (by omega)).2
theorem E_far {l : List S36} {ex : Int} (hR : Right l ex) {i : Nat} (h : i + 1 < l.length) : E l i + 181192884224 ≤ E l (i + 1) := by
  have := A_far hR h
  have := ((hR.g (i + 1) h).s (by omega)).1
  simp only [Nat.add_sub_cancel] at this
  unfold E; omega
theorem A_lt {l : List S36} {ex : Int} (hR : Right l ex) (i : Nat) : ∀ q, i + q + 1 < l.length → A l i + 181193932800 ≤ A l (i + q + 1) := by
  intro q
  induction q with
  | zero => intro h; exact A_far hR h
  | succ q ih => intro h; have := ih (by omega); have h2 := A_far hR (i := i + q + 1) (by omega); have e : i + (q + 1) + 1 = i + q + 1 + 1 := by omega
                 rw [e]; omega
theorem E_lt {l : List S36} {ex : Int} (hR : Right l ex) (i : Nat) : ∀ q, i + q + 1 < l.length → E l i + 181192884224 ≤ E l (i + q + 1) := by
  intro q
  induction q with
  | zero => intro h; exact E_far hR h
  | succ q ih => intro h; have := ih (by omega); have h2 := E_far hR (i := i + q + 1) (by omega); have e : i + (q + 1) + 1 = i + q + 1 + 1 := by omega
                 rw [e]; omega
theorem E_lt' {l : List S36} {ex : Int} (hR : Right l ex) {i j : Nat} (h : i < j) (hj : j < l.length) : E l i + 181192884224 ≤ E l j := by
  obtain ⟨q, rfl⟩ : ∃ q, j = i + q + 1 := ⟨j - i - 1, by omega⟩
  exact E_lt hR i q hj
theorem A_lt' {l : List S36} {ex : Int} (hR : Right l ex) {i j : Nat} (h : i < j) (hj : j < l.length) : A l i + 181193932800 ≤ A l j := by
  obtain ⟨q, rfl⟩ : ∃ q, j = i + q + 1 := ⟨j - i - 1, by omega⟩
  exact A_lt hR i q hj
/-- Within a second one comes at most one change on. -/
theorem sits_step {l : List S36} {ex : Int} (hR : Right l ex) {u d : Int} (hd0 : 0 ≤ d) (hd1 : d < 1048576) {i i' : Nat} {b b' : Bool} (hi : i < l.length) (hi' : i' < l.length) (h : Sits l u l.length i b) (h' : Sits l (u + d) l.length i' b') :
    i' = i ∨ (i' = i + 1 ∧ Of l i' = Of l i + 1 ∧ b' = true ∧ b = false) ∨ (i' = i + 1 ∧ Of l i' = Of l i - 1 ∧ b' = false) := by
  by_cases c0 : i' = i
  · exact .inl c0
  by_cases c1 : i' < i
  · have := h'.2 i c1 hi
    rcases h.1 with h1 | ⟨_, h1 | h1⟩
    · omega
    · omega
    · have := this.2 h1.1; omega
  have c2 : i' = i + 1 := by
    by_cases c : i + 1 < i'
    · have h1 := (h.2 (i + 1) (by omega) (by omega)).1
      have h2 := E_lt' hR c hi'
      rcases h'.1 with h3 | ⟨_, h3 | h3⟩ <;> omega
    · omega
  subst c2
  have hs := ((hR.g (i + 1) hi').s (by omega)).1
  simp only [Nat.add_sub_cancel] at hs
  have hu := h.2 (i + 1) (by omega) hi'
  simp only [Nat.add_sub_cancel] at hu
  have hf := E_far hR hi'
  rcases h'.1 with h3 | ⟨_, h3 | h3⟩
  · omega
  · rcases hs with hs | hs
    · have := hu.2 (by omega); omega
    · exact .inr (.inr ⟨rfl, hs, h3.2⟩)
  · simp only [Nat.add_sub_cancel] at h3
    refine .inr (.inl ⟨rfl, by omega, h3.2.2.2, ?_⟩)
    rcases h.1 with h4 | ⟨_, h4 | h4⟩
    · exact h4.2
    · exact h4.2
    · omega
end Go.Proofs.Ythblkmdknelpbaa.C
