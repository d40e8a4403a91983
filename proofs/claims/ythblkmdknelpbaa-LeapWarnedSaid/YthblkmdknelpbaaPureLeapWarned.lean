/- LeapWarned, as plain Lean: no program in sight. -/
import Derived.Test.YthblkmdknelpbaaQx8
import Derived.Test.YthblkmdknelpbaaOpens
import Derived.Test.YthblkmdknelpbaaLEven
namespace Go.Proofs.Ythblkmdknelpbaa.C
open Go.RowKit Go.Proofs.Ythblkmdknelpbaa.Q Go.Proofs.YthblkmdknelpbaaW.PrintWords Go.Proofs.YthblkmdknelpbaaW.PrintLast
open Go.Proofs.YthblkmdknelpbaaU (utcP utcL st)

/-- Ahead of a change and within its day one is warned of it. -/
theorem warn_ahead {l : List S36} {ex : Int} (h : Ev (fun k => leap_Check.f k l ex) 0) (hR : Right l ex) {p : Nat} (hp : p + 1 < l.length) (hA : A l (p + 1) ≤ 144115188075855872) (hx : A l (p + 1) < ex) {d : Int} (hd0 : 0 ≤ d) (hd1 : d < 90595917824) :
    Ev (fun k => leap_Warn.f k l ex (E l (p + 1) - 1 - d)) (if Of l (p + 1) > Of l p then 1 else 2, 0) := by
  have g := hR.g (p + 1) hp
  have g' := hR.g p (by omega)
  have o0 := g.o0; have o1 := g.o1; have p0 := g'.o0; have p1 := g'.o1
  have hf := A_far hR hp
  have hE := E_far hR hp
  have a0 := g'.f.1
  have hs := (g.s (by omega)).1
  simp only [Nat.add_sub_cancel] at hs
  have eE : E l (p + 1) = A l (p + 1) + Of l (p + 1) * 1048576 := rfl
  have u0 : 0 ≤ E l (p + 1) - 1 - d := by omega
  have u1 : E l (p + 1) - 1 - d ≤ 288230376151711744 := by omega
  generalize hu : E l (p + 1) - 1 - d = u at *
  obtain ⟨i, b, hi, hS, he⟩ := utc_sits hR u0 (by omega)
  have hpe : E l p ≤ u := by omega
  -- where one stands
  have hi2 : i = p ∨ (i = p + 1 ∧ Of l p < Of l (p + 1) ∧ E l (p + 1) - 1048576 ≤ u) := by
    by_cases c1 : i < p
    · have := (hS.2 p c1 (by omega)).1; omega
    by_cases c2 : p + 1 < i
    · have := E_lt' hR c2 hi
      rcases hS.1 with h3 | ⟨_, h3 | h3⟩ <;> omega
    by_cases c3 : i = p
    · exact .inl c3
    · obtain rfl : i = p + 1 := by omega
      rcases hS.1 with h3 | ⟨_, h3 | h3⟩
      · omega
      · omega
      · simp only [Nat.add_sub_cancel] at h3
        exact .inr ⟨rfl, h3.1, h3.2.1⟩
  have ht : (utcP (lf36 l) u l.length).1 = u - Of l i * 1048576 := by rw [he]
  have hH : Hit l u (utcP (lf36 l) u l.length).1 p := by
    refine ⟨by omega, ?_, ?_⟩
    · rw [ht]
      rcases hi2 with rfl | ⟨rfl, h1, h2⟩
      · have h4 := hS.2 (i + 1) (by omega) hp
        simp only [Nat.add_sub_cancel] at h4
        rcases hs with hs | hs
        · have := h4.2 (by omega); omega
        · omega
      · omega
    · rw [ht]
      rcases hi2 with rfl | ⟨rfl, h1, h2⟩
      · omega
      · omega
  refine warn_ev h hR u0 u1 (fun _ => warn_hit hR _ _ p hp hH p 0 (by omega) (fun q _ hq hq2 => ?_)) (fun c => ?_)
  · have h1 := hq2.1
    by_cases c : q + 1 = p
    · rw [c] at h1; omega
    · have := E_lt' hR (show q + 1 < p by omega) (by omega); omega
  · exact absurd (Int.lt_trans hH.2.1 hx) c
/-- At a change one is warned of none. -/
theorem warn_at {l : List S36} {ex : Int} (h : Ev (fun k => leap_Check.f k l ex) 0) (hR : Right l ex) {p : Nat} (hp : p < l.length) (hA : A l p ≤ 144115188075855872) (hx : A l p < ex) :
    Ev (fun k => leap_Warn.f k l ex (E l p)) (0, 0) := by
  have g := hR.g p hp
  have o0 := g.o0; have o1 := g.o1; have a0 := g.f.1
  have eE : E l p = A l p + Of l p * 1048576 := rfl
  have u0 : 0 ≤ E l p := by omega
  have u1 : E l p ≤ 288230376151711744 := by omega
  obtain ⟨i, b, hi, hS, he⟩ := utc_sits hR u0 (by omega)
  have hi2 : i = p := by
    by_cases c1 : i < p
    · have := (hS.2 p c1 hp).1; omega
    by_cases c2 : p < i
    · have := E_lt' hR c2 hi
      rcases hS.1 with h3 | ⟨_, h3 | h3⟩ <;> omega
    omega
  have ht : (utcP (lf36 l) (E l p) l.length).1 = A l p := by rw [he, hi2]; omega
  refine warn_ev h hR u0 u1 (fun _ => warn_none hR _ _ (l.length - 1) 0 (by omega) (fun q _ hq hq2 => ?_)) (fun c => ?_)
  · obtain ⟨h1, h2, h3⟩ := hq2
    rw [ht] at h2 h3
    by_cases c : p < q + 1
    · have := A_lt' hR c hq; omega
    · by_cases c' : q + 1 = p
      · rw [c'] at h1; omega
      · have := E_lt' hR (show q + 1 < p by omega) hp; omega
  · rw [ht] at c; exact absurd hx c
theorem warned_true (l : List S36) (ex x1 x2 : Int) : Ev (fun k => sundiallaw08_LeapWarned.j0 k x1 x2 true l ex) true := Ev.step (f := fun _ => some true) (fun k => by simp only [sundiallaw08_LeapWarned.j0]; rfl) (Ev.now _)
theorem warned_j1 {l : List S36} {ex : Int} (h : Ev (fun k => leap_Check.f k l ex) 0) (hR : Right l ex) (x2 : Int) {p : Nat} (hp : p + 1 < l.length) (b : Bool) (hA : b = false → A l (p + 1) ≤ 144115188075855872) (hx : A l (p + 1) < ex) :
    Ev (fun k => sundiallaw08_LeapWarned.j1 k x2 ((p + 1 : Nat) : Int) b l ex (A l (p + 1)) (Of l (p + 1))) true := by
  cases b with
  | true => exact Ev.step (f := fun _ => some true) (fun k => by simp only [sundiallaw08_LeapWarned.j1]; rfl) (Ev.now _)
  | false =>
    have hA := hA rfl
    have hbig := hR.big
    have g := hR.g (p + 1) hp
    have o0 := g.o0; have o1 := g.o1; have a0 := g.f.1
    have a := Int.tmod_lt_of_pos x2 (show (0 : Int) < 90595917824 by decide)
    have a' := Int.lt_tmod_of_pos x2 (show (0 : Int) < 90595917824 by decide)
    have d1 := Int.tmod_lt_of_pos (Int.tmod x2 90595917824 + 90595917824) (show (0 : Int) < 90595917824 by decide)
    have d0 := Int.tmod_nonneg 90595917824 (show 0 ≤ Int.tmod x2 90595917824 + 90595917824 by omega)
    have hw1 := warn_ahead h hR hp hA hx d0 d1
    have hw2 := warn_at h hR hp hA hx
    have eE : E l (p + 1) = A l (p + 1) + Of l (p + 1) * 1048576 := rfl
    refine Ev.step (f := fun k => (leap_Warn.f k l ex (E l (p + 1) - 1 - Int.tmod (Int.tmod x2 90595917824 + 90595917824) 90595917824)).bind fun bt221 => (leap_Warn.f k l ex (E l (p + 1))).bind fun bt223 => (if Of l (p + 1) > Of l p then (if bt221.2 = 0 then (if bt221.1 = 1 then (if bt223.2 = 41 then (some true) else (if bt223.2 = 0 then (some (bt223.1 == 0)) else (none))) else (none)) else (none)) else (if bt221.2 = 0 then (if bt221.1 = 2 then (if bt223.2 = 41 then (some true) else (if bt223.2 = 0 then (some (bt223.1 == 0)) else (none))) else (none)) else (none)))) (fun k => ?_) (Ev.bind hw1 (Ev.bind hw2 ?_))
    · simp only [sundiallaw08_LeapWarned.j1]
      rw [if_neg (by simp), wrap_id (x := Int.tmod x2 90595917824 + 90595917824) (by omega) (by omega), wrap_id (x := Of l (p + 1) * 1048576) (by omega) (by omega), wrap_id (x := A l (p + 1) + Of l (p + 1) * 1048576) (by omega) (by omega), ← eE, wrap_id (x := E l (p + 1) - 1) (by omega) (by omega), wrap_id (x := E l (p + 1) - 1 - _) (by omega) (by omega)]
      congr 1
      funext bt1
      congr 1
      funext bt2
      have e : wrap64 (((p + 1 : Nat) : Int) - 1) = (p : Int) := by rw [wrap_id (by omega) (by omega)]; omega
      rw [e, if_pos (show (0 : Int) ≤ (p : Int) by omega), if_pos (by omega)]
      rfl
    · refine Ev.congr (f := fun _ => some true) (fun k => ?_) (Ev.now _)
      by_cases c : Of l (p + 1) > Of l p
      · simp [c]
      · simp [c]
theorem LeapWarned_ev (l : List S36) (ex x1 x2 : Int) (hl : l.length ≤ 8796093022208) : Ev (fun k => sundiallaw08_LeapWarned.f k l ex x1 x2) true := by
  unfold sundiallaw08_LeapWarned.f
  refine Ev.bind awakeE ?_
  obtain ⟨r, hr, hc⟩ := check_ev l hl ex
  simp only [if_true]
  refine Ev.bind hr ?_
  rcases hc with rfl | ⟨rfl, hR⟩
  · exact Ev.congr (f := fun k => sundiallaw08_LeapWarned.j0 k x1 x2 true l ex) (fun k => by simp) (warned_true l ex x1 x2)
  simp only [if_true]
  by_cases c : (l.length : Int) < 2
  · rw [show decide ((l.length : Int) < 2) = true from decide_eq_true c]
    exact warned_true l ex x1 x2
  rw [show decide ((l.length : Int) < 2) = false from decide_eq_false c]
  have hm : wrap64 ((l.length : Int) - 1) = ((l.length - 1 : Nat) : Int) := by rw [wrap_id (by omega) (by omega)]; omega
  have hn1 : (0 : Int) < ((l.length - 1 : Nat) : Int) := by omega
  have a := Int.tmod_lt_of_pos x1 hn1
  have a' := Int.lt_tmod_of_pos x1 hn1
  have d1 := Int.tmod_lt_of_pos (Int.tmod x1 ((l.length - 1 : Nat) : Int) + ((l.length - 1 : Nat) : Int)) hn1
  have d0 := Int.tmod_nonneg ((l.length - 1 : Nat) : Int) (show 0 ≤ Int.tmod x1 ((l.length - 1 : Nat) : Int) + ((l.length - 1 : Nat) : Int) by omega)
  have hw : wrap64 (Int.tmod x1 ((l.length - 1 : Nat) : Int) + ((l.length - 1 : Nat) : Int)) = Int.tmod x1 ((l.length - 1 : Nat) : Int) + ((l.length - 1 : Nat) : Int) := wrap_id (by omega) (by omega)
  obtain ⟨p, hp⟩ : ∃ p : Nat, Int.tmod (Int.tmod x1 ((l.length - 1 : Nat) : Int) + ((l.length - 1 : Nat) : Int)) ((l.length - 1 : Nat) : Int) = (p : Int) := ⟨_, (Int.toNat_of_nonneg d0).symm⟩
  have hp1 : p + 1 < l.length := by omega
  have hi : wrap64 (1 + Int.tmod (Int.tmod x1 ((l.length - 1 : Nat) : Int) + ((l.length - 1 : Nat) : Int)) ((l.length - 1 : Nat) : Int)) = ((p + 1 : Nat) : Int) := by rw [hp, wrap_id (by omega) (by omega)]; omega
  have hj0 : ∀ k, sundiallaw08_LeapWarned.j0 (k + 1) x1 x2 false l ex = (if ex ≤ A l (p + 1) then sundiallaw08_LeapWarned.j1 k x2 ((p + 1 : Nat) : Int) true l ex (A l (p + 1)) (Of l (p + 1)) else sundiallaw08_LeapWarned.j1 k x2 ((p + 1 : Nat) : Int) (decide (A l (p + 1) > 144115188075855872)) l ex (A l (p + 1)) (Of l (p + 1))) := fun k => by
    simp only [sundiallaw08_LeapWarned.j0]
    rw [hm, hw, hi, if_neg (by simp), if_neg (by omega), if_pos (show (0 : Int) ≤ ((p + 1 : Nat) : Int) by omega), if_pos (by omega)]
    rfl
  by_cases cx : ex ≤ A l (p + 1)
  · refine Ev.step (f := fun k => sundiallaw08_LeapWarned.j1 k x2 ((p + 1 : Nat) : Int) true l ex (A l (p + 1)) (Of l (p + 1))) (fun k => by rw [hj0, if_pos cx]) ?_
    exact Ev.step (f := fun _ => some true) (fun k => by simp only [sundiallaw08_LeapWarned.j1]; rfl) (Ev.now _)
  · refine Ev.step (f := fun k => sundiallaw08_LeapWarned.j1 k x2 ((p + 1 : Nat) : Int) (decide (A l (p + 1) > 144115188075855872)) l ex (A l (p + 1)) (Of l (p + 1))) (fun k => by rw [hj0, if_neg cx]) ?_
    exact warned_j1 hr hR x2 hp1 _ (fun hd => by have := of_decide_eq_false hd; omega) (by omega)
end Go.Proofs.Ythblkmdknelpbaa.C
namespace Go.Proofs.Ythblkmdknelpbaa.Pure
open Go.RowKit Go.Proofs.Ythblkmdknelpbaa.Q Go.Proofs.YthblkmdknelpbaaW.PrintWords Go.Proofs.YthblkmdknelpbaaW.PrintLast

theorem LeapWarned : ∀ (x0 : S25) (x1 : Int) (x2 : Int), ((x0.f0.length ≤ maxLen ∧ x0.f0.length * 16 ≤ 140737488351232 ∧ ∀ y ∈ x0.f0, ((Lit.int .i64 y.f0).wf = true) ∧ ((Lit.int .i64 y.f1).wf = true)) ∧ ((Lit.int .i64 x0.f1).wf = true)) → ((Lit.int .i64 x1).wf = true) → ((Lit.int .i64 x2).wf = true) → ∃ k, sundiallaw08_LeapWarned.f k x0.f0 x0.f1 x1 x2 = some true := by
  intro x0 x1 x2 h _ _
  exact (C.LeapWarned_ev x0.f0 x0.f1 x1 x2 (by omega)).rounds

end Go.Proofs.Ythblkmdknelpbaa.Pure
