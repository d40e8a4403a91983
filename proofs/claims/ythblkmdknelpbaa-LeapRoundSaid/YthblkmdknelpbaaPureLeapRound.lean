/- LeapRound, as plain Lean: no program in sight. -/
import Derived.Test.YthblkmdknelpbaaQx6
import Derived.Test.YthblkmdknelpbaaOpens
import Derived.Test.YthblkmdknelpbaaLEven
namespace Go.Proofs.Ythblkmdknelpbaa.C
open Go.RowKit Go.Proofs.Ythblkmdknelpbaa.Q Go.Proofs.YthblkmdknelpbaaW.PrintWords Go.Proofs.YthblkmdknelpbaaW.PrintLast
open Go.Proofs.YthblkmdknelpbaaU (utcP utcL st)

/-- The end of the law, as the print tells it. -/
def fin (d t : Int) (inn : Bool) (bt : Int × Bool × Int) : Option Bool :=
  if bt.2.2 = 0 then (if (wrap64 (bt.1 - t)) = d then (some true) else (if (wrap64 (bt.1 - t)) = (wrap64 (d - 1048576)) then (if bt.2.1 = true then (if inn = true then (if (wrap64 (bt.1 - t)) = (wrap64 (d + 1048576)) then (some (!bt.2.1)) else (none)) else (some true)) else (if (wrap64 (bt.1 - t)) = (wrap64 (d + 1048576)) then (some (!bt.2.1)) else (none))) else (if (wrap64 (bt.1 - t)) = (wrap64 (d + 1048576)) then (some (!bt.2.1)) else (none)))) else (some (bt.2.2 == 2))
theorem fin_ev {l : List S36} {ex : Int} (h : Ev (fun k => leap_Check.f k l ex) 0) (hR : Right l ex) {u d : Int} (h0 : 0 ≤ u) (h1 : u ≤ 288230376151711744) (hd0 : 0 ≤ d) (hd1 : d < 1048576) :
    Ev (fun k => (leap_UTC.f k l ex (wrap64 (u + d))).bind fun bt => fin d (utcP (lf36 l) u l.length).1 (utcP (lf36 l) u l.length).2 bt) true := by
  rw [wrap_id (x := u + d) (by omega) (by omega)]
  by_cases c : u + d ≤ 288230376151711744
  · refine Ev.bind (utcC_ok h hR (by omega) c) ?_
    obtain ⟨i, b, hi, hs, he⟩ := utc_sits hR h0 (by omega)
    obtain ⟨i', b', hi', hs', he'⟩ := utc_sits hR (u := u + d) (by omega) (by omega)
    rw [he, he']
    have g := hR.g i hi
    have g' := hR.g i' hi'
    have o0 := g.o0; have o1 := g.o1; have p0 := g'.o0; have p1 := g'.o1
    have hc := sits_step hR hd0 hd1 hi hi' hs hs'
    refine Ev.congr (f := fun _ => some true) (fun k => ?_) (Ev.now _)
    unfold fin
    simp only [if_true]
    rw [wrap_id (x := u + d - Of l i' * 1048576 - (u - Of l i * 1048576)) (by omega) (by omega), wrap_id (x := d - 1048576) (by omega) (by omega), wrap_id (x := d + 1048576) (by omega) (by omega)]
    rcases hc with rfl | ⟨_, e, rfl, rfl⟩ | ⟨_, e, rfl⟩
    · rw [if_pos (by omega)]
    · rw [if_neg (by omega), if_pos (by omega), if_pos rfl, if_neg (by simp)]
    · rw [if_neg (by omega), if_neg (by omega), if_pos (by omega)]; rfl
  · refine Ev.bind (utcC_out h (by omega)) ?_
    exact Ev.congr (f := fun _ => some true) (fun k => rfl) (Ev.now _)
theorem round_j1 {l : List S36} {ex : Int} (h : Ev (fun k => leap_Check.f k l ex) 0) (hR : Right l ex) {u x2 : Int} (h0 : 0 ≤ u) (h1 : u ≤ 288230376151711744) :
    Ev (fun k => sundiallaw08_LeapRound.j1 k u x2 (utcP (lf36 l) u l.length).1 (utcP (lf36 l) u l.length).2 false l ex) true := by
  refine Ev.step (f := fun k => (leap_UTC.f k l ex (wrap64 (u + (Int.tmod (wrap64 ((Int.tmod x2 1048576) + 1048576)) 1048576)))).bind fun bt => fin (Int.tmod (wrap64 ((Int.tmod x2 1048576) + 1048576)) 1048576) (utcP (lf36 l) u l.length).1 (utcP (lf36 l) u l.length).2 bt) (fun k => by simp only [sundiallaw08_LeapRound.j1]; rfl) ?_
  have a := Int.tmod_lt_of_pos x2 (show (0 : Int) < 1048576 by decide)
  have a' := Int.lt_tmod_of_pos x2 (show (0 : Int) < 1048576 by decide)
  rw [wrap_id (x := Int.tmod x2 1048576 + 1048576) (by omega) (by omega)]
  have b := Int.tmod_lt_of_pos (Int.tmod x2 1048576 + 1048576) (show (0 : Int) < 1048576 by decide)
  have b' := Int.tmod_nonneg 1048576 (show 0 ≤ Int.tmod x2 1048576 + 1048576 by omega)
  exact fin_ev h hR h0 h1 b' b
theorem rdb {l : List Int} {i : Nat} (h : i < l.length) : rd l (i : Int) = l[i] := by simp [rd, h]
theorem round_l0 {l : List S36} {ex : Int} (h : Ev (fun k => leap_Check.f k l ex) 0) (hR : Right l ex) {u x2 : Int} (h0 : 0 ≤ u) (h1 : u ≤ 288230376151711744) (bk : List Int) (hbl : bk.length ≤ l.length)
    (hb : ∀ (i : Nat) (hi : i < bk.length), 0 ≤ bk[i] ∧ bk[i] ≤ 288230376151711744 ∧ (utcP (lf36 l) bk[i] l.length).1 = (utcP (lf36 l) u l.length).1 ∧ ∀ (hi0 : 0 < i), bk[i - 1] < bk[i]) :
    ∀ (j i : Nat) (hit : Bool), i + j = bk.length → (hit = true ∨ ∃ q, ∃ (hq : q < bk.length), i ≤ q ∧ bk[q] = u) →
    Ev (fun k => sundiallaw08_LeapRound.l0 k u x2 (utcP (lf36 l) u l.length).1 (utcP (lf36 l) u l.length).2 bk 0 hit (i : Int) l ex) true := by
  have hbig := hR.big
  intro j
  induction j with
  | zero =>
    intro i hit hi hh
    have hh' : hit = true := by
      rcases hh with hh | ⟨q, hq, h2, _⟩
      · exact hh
      · omega
    subst hh'
    refine Ev.step (f := fun k => sundiallaw08_LeapRound.j1 k u x2 (utcP (lf36 l) u l.length).1 (utcP (lf36 l) u l.length).2 false l ex) (fun k => ?_) (round_j1 h hR h0 h1)
    simp only [sundiallaw08_LeapRound.l0]
    rw [if_neg (by omega)]
    simp only [if_true]
    by_cases c : (bk.length : Int) > 2
    · rw [if_pos c, show decide ((l.length : Int) < 3) = false from decide_eq_false (by omega)]
    · rw [if_neg c]
  | succ j ih =>
    intro i hit hi hh
    have hlt : i < bk.length := by omega
    obtain ⟨b0, b1, b2, b3⟩ := hb i hlt
    have hU := utcC_ok h hR b0 b1
    refine Ev.step (f := fun k => (leap_UTC.f k l ex bk[i]).bind fun bt => if bt.2.2 = 0 then (if bt.1 = (utcP (lf36 l) u l.length).1 then sundiallaw08_LeapRound.l0 k u x2 (utcP (lf36 l) u l.length).1 (utcP (lf36 l) u l.length).2 bk 0 (hit || (bk[i] == u)) ((i + 1 : Nat) : Int) l ex else none) else none) (fun k => ?_) (Ev.bind hU ?_)
    · simp only [sundiallaw08_LeapRound.l0]
      rw [if_pos (by omega), if_pos (by omega), rdb hlt, wrap_id (x := (i : Int) + 1) (by omega) (by omega)]
      congr 1
      funext bt
      have hlow : (i : Int) > 0 → (0 ≤ wrap64 ((i : Int) - 1) ∧ wrap64 ((i : Int) - 1) < (bk.length : Int) ∧ ¬ (rd bk (wrap64 ((i : Int) - 1)) ≥ bk[i])) := fun c => by
        have c' : 0 < i := by omega
        have e : wrap64 ((i : Int) - 1) = ((i - 1 : Nat) : Int) := by rw [wrap_id (by omega) (by omega)]; omega
        have := b3 c'
        rw [e, rdb (show i - 1 < bk.length by omega)]
        exact ⟨by omega, by omega, by omega⟩
      have tail : ∀ X : Option Bool, (if (i : Int) > 0 then (if 0 ≤ (wrap64 ((i : Int) - 1)) then (if (wrap64 ((i : Int) - 1)) < (bk.length : Int) then (if (rd bk (wrap64 ((i : Int) - 1))) ≥ bk[i] then (none) else X) else (none)) else (none)) else X) = X := fun X => by
        by_cases c : (i : Int) > 0
        · obtain ⟨q1, q2, q3⟩ := hlow c
          rw [if_pos c, if_pos q1, if_pos q2, if_neg q3]
        · rw [if_neg c]
      rw [tail, tail]
      cases hit <;> simp <;> rfl
    · refine Ev.congr (f := fun k => sundiallaw08_LeapRound.l0 k u x2 (utcP (lf36 l) u l.length).1 (utcP (lf36 l) u l.length).2 bk 0 (hit || (bk[i] == u)) ((i + 1 : Nat) : Int) l ex) (fun k => by rw [if_pos rfl, if_pos b2]) ?_
      refine ih (i + 1) _ (by omega) ?_
      rcases hh with rfl | ⟨q, hq, hq2, hq3⟩
      · exact .inl (by simp)
      · by_cases c : q = i
        · subst c
          exact .inl (by simp [hq3])
        · exact .inr ⟨q, hq, by omega, hq3⟩
theorem LeapRound_ev (l : List S36) (ex x1 x2 : Int) (hl : l.length ≤ 8796093022208) : Ev (fun k => sundiallaw08_LeapRound.f k l ex x1 x2) true := by
  unfold sundiallaw08_LeapRound.f
  refine Ev.bind awakeE ?_
  obtain ⟨r, hr, hc⟩ := check_ev l hl ex
  simp only [if_true]
  rcases hc with rfl | ⟨rfl, hR⟩
  · refine Ev.bind (utcC_bad hr x1) ?_
    exact Ev.congr (f := fun _ => some true) (fun k => by simp) (Ev.now _)
  by_cases c : 0 ≤ x1 ∧ x1 ≤ 288230376151711744
  · refine Ev.bind (utcC_ok hr hR c.1 c.2) ?_
    simp only [if_true]
    obtain ⟨i, b, hi, hs, he⟩ := utc_sits hR c.1 (by omega)
    have g := hR.g i hi
    have o0 := g.o0; have o1 := g.o1
    by_cases ct : (utcP (lf36 l) x1 l.length).1 ≥ 0
    · have ht : (utcP (lf36 l) x1 l.length).1 = x1 - Of l i * 1048576 := by rw [he]
      refine Ev.bind (even_ev hr hR ct (by omega)) ?_
      refine Ev.congr (f := fun k => sundiallaw08_LeapRound.l0 k x1 x2 (utcP (lf36 l) x1 l.length).1 (utcP (lf36 l) x1 l.length).2 (tidy (outs l (utcP (lf36 l) x1 l.length).1 l)) 0 false ((0 : Nat) : Int) l ex) (fun k => by rw [if_pos ct]; rfl) ?_
      obtain ⟨f1, f2⟩ := tidy_facts (outs l (utcP (lf36 l) x1 l.length).1 l)
      refine round_l0 hr hR c.1 c.2 _ (Nat.le_trans (tidy_length _) (outs_length _ _ _)) (fun q hq => ?_) (tidy (outs l (utcP (lf36 l) x1 l.length).1 l)).length 0 false (by omega) (.inr ?_)
      · have hm := List.getElem_mem hq
        obtain ⟨cc, hcc, e1, e2, e3⟩ := outs_mem l _ ((f2 _).1 hm)
        obtain ⟨p, hp, rfl⟩ := List.getElem_of_mem hcc
        have gp := (hR.g p hp).o0
        rw [Of_eq, rd36 hp] at gp
        exact ⟨by omega, e3, e2, fun h0 => List.pairwise_iff_getElem.1 f1 (q - 1) q (by omega) hq (by omega)⟩
      · have hx : x1 = (utcP (lf36 l) x1 l.length).1 + l[i].f1 * 1048576 := by rw [ht, Of_eq, rd36 hi]; omega
        have hm : x1 ∈ outs l (utcP (lf36 l) x1 l.length).1 l := by
          have := mem_outs l (utcP (lf36 l) x1 l.length).1 (c := l[i]) (by rw [← hx]) (by rw [← hx]; exact c.2) (List.getElem_mem hi)
          rw [← hx] at this; exact this
        obtain ⟨q, hq, e⟩ := List.getElem_of_mem ((f2 _).2 hm)
        exact ⟨q, hq, by omega, e⟩
    · refine Ev.bind (even_out hr (by omega)) ?_
      have a := Int.tmod_lt_of_pos x2 (show (0 : Int) < 1048576 by decide)
      have a' := Int.lt_tmod_of_pos x2 (show (0 : Int) < 1048576 by decide)
      have hw : wrap64 (Int.tmod x2 1048576 + 1048576) = Int.tmod x2 1048576 + 1048576 := wrap_id (by omega) (by omega)
      have b := Int.tmod_lt_of_pos (Int.tmod x2 1048576 + 1048576) (show (0 : Int) < 1048576 by decide)
      have b' := Int.tmod_nonneg 1048576 (show 0 ≤ Int.tmod x2 1048576 + 1048576 by omega)
      refine Ev.congr (fun k => ?_) (fin_ev hr hR c.1 c.2 b' b)
      rw [if_neg ct, hw]
      rfl
  · refine Ev.bind (utcC_out hr c) ?_
    exact Ev.congr (f := fun _ => some true) (fun k => by simp) (Ev.now _)
end Go.Proofs.Ythblkmdknelpbaa.C
namespace Go.Proofs.Ythblkmdknelpbaa.Pure
open Go.RowKit Go.Proofs.Ythblkmdknelpbaa.Q Go.Proofs.YthblkmdknelpbaaW.PrintWords Go.Proofs.YthblkmdknelpbaaW.PrintLast

theorem LeapRound : ∀ (x0 : S25) (x1 : Int) (x2 : Int), ((x0.f0.length ≤ maxLen ∧ x0.f0.length * 16 ≤ 140737488351232 ∧ ∀ y ∈ x0.f0, ((Lit.int .i64 y.f0).wf = true) ∧ ((Lit.int .i64 y.f1).wf = true)) ∧ ((Lit.int .i64 x0.f1).wf = true)) → ((Lit.int .i64 x1).wf = true) → ((Lit.int .i64 x2).wf = true) → ∃ k, sundiallaw08_LeapRound.f k x0.f0 x0.f1 x1 x2 = some true := by
  intro x0 x1 x2 h _ _
  exact (C.LeapRound_ev x0.f0 x0.f1 x1 x2 (by omega)).rounds

end Go.Proofs.Ythblkmdknelpbaa.Pure
