/- The liars, and the law's own call whose answer is fixed. -/
import Derived.Test.YtopeelklnjbdoaaHCount
namespace Go.Proofs.Ytopeelklnjbdoaa.H
open Go.RowKit Go.Proofs.Ytopeelklnjbdoaa.Q Go.Proofs.YtopeelklnjbdoaaW.PrintWords Go.Proofs.YtopeelklnjbdoaaW.PrintLast

def liesB (x : S25) (a b : Int) : Bool := decide (x.f1 < a) || decide (b < x.f0)
def liars (a b : Int) : List S25 → Nat → List Int
  | [], _ => []
  | x :: xs, i => (if liesB x a b = true then [(i : Int)] else []) ++ liars a b xs (i + 1)

theorem liars_l0 (l : List S25) (a b : Int) (hl : l.length ≤ 32) : ∀ (d i : Nat) (acc : List Int), i + d = l.length → acc.length ≤ i → Ev (fun k => hull_Liars.l0 k acc l (l.length : Int) (i : Int) a b) (acc ++ liars a b (l.drop i) i, 0) := by
  intro d
  induction d with
  | zero =>
    intro i acc hi ha
    refine Ev.step (f := fun _ => some (acc, 0)) (fun k => ?_) ?_
    · simp only [hull_Liars.l0]
      rw [if_neg (by omega)]
    · rw [List.drop_eq_nil_of_le (by omega)]
      simp only [liars, List.append_nil]
      exact Ev.now _
  | succ d ih =>
    intro i acc hi ha
    have hlt : i < l.length := by omega
    refine Ev.step (f := fun k => hull_Liars.l0 k (acc ++ (if liesB l[i] a b = true then [(i : Int)] else [])) l (l.length : Int) ((i + 1 : Nat) : Int) a b) (fun k => ?_) ?_
    · simp only [hull_Liars.l0]
      rw [if_pos (by omega), if_pos (by omega), if_pos (by omega), rd25 hlt, wrapS (by omega)]
      by_cases h1 : l[i].f1 < a
      · rw [if_pos h1, if_pos (by omega)]
        simp [liesB, h1]
      · rw [if_neg h1]
        by_cases h2 : b < l[i].f0
        · rw [if_pos h2, if_pos (by omega)]
          simp [liesB, h2]
        · rw [if_neg (show ¬ l[i].f0 > b from h2)]
          simp [liesB, h1, h2]
    · have := ih (i + 1) (acc ++ (if liesB l[i] a b = true then [(i : Int)] else [])) (by omega) (by
        rw [List.length_append]
        split <;> simp <;> omega)
      rw [drop_cons hlt]
      simp only [liars]
      rw [← List.append_assoc]
      exact this

def liarsR (l : List S25) (s : S25) : List Int × Int := if okL l = true ∧ okS s = true then (liars s.f0 s.f1 l 0, 0) else ([], 3)

theorem liars_ev (l : List S25) (s : S25) : Ev (fun k => hull_Liars.f k l s.f0 s.f1) (liarsR l s) := by
  unfold hull_Liars.f liarsR
  refine Ev.bind (check_ev l) ?_
  simp only [check1_eq, Option.bind_some]
  have hs : okS ⟨s.f0, s.f1⟩ = okS s := rfl
  rw [hs]
  by_cases h : okL l = true <;> by_cases h2 : okS s = true
  · simp only [h, h2, if_true, and_self]
    rw [show mx 0 0 = 0 from rfl]
    simp only [if_true]
    have := liars_l0 l s.f0 s.f1 (okL_iff.1 h).1 l.length 0 [] (by omega) (by simp)
    simpa using this
  · simp only [h, h2, if_true, if_false, Bool.false_eq_true, and_false]
    rw [show mx 0 3 = 3 from rfl]
    exact Ev.now _
  · simp only [h, h2, if_true, if_false, Bool.false_eq_true, false_and]
    rw [show mx 3 0 = 3 from rfl]
    exact Ev.now _
  · simp only [h, h2, if_false, Bool.false_eq_true, and_self]
    rw [show mx 3 3 = 3 from rfl]
    exact Ev.now _

theorem meet_ev (x s : S25) (hx : okS x = true) (hs : okS s = true) : ∃ a b, Ev (fun k => sundialref01_Meet.f k x.f0 x.f1 s.f0 s.f1) (a, b, if liesB x s.f0 s.f1 = true then 5 else 0) := by
  have hx' := okS_iff.1 hx
  have hs' := okS_iff.1 hs
  refine ⟨if liesB x s.f0 s.f1 = true then 0 else mx x.f0 s.f0, if liesB x s.f0 s.f1 = true then 0 else mn x.f1 s.f1, ?_⟩
  unfold sundialref01_Meet.f
  simp only [checkR_eq, Option.bind_some]
  rw [show okS ⟨x.f0, x.f1⟩ = true from hx, show okS ⟨s.f0, s.f1⟩ = true from hs]
  simp only [if_true]
  refine Ev.step (f := fun _ => if mx x.f0 s.f0 > mn x.f1 s.f1 then some (0, 0, 5) else some (mx x.f0 s.f0, mn x.f1 s.f1, 0)) (fun k => ?_) ?_
  · simp [sundialref01_Meet.j0]
  · have hiff : mx x.f0 s.f0 > mn x.f1 s.f1 ↔ liesB x s.f0 s.f1 = true := by
      simp only [mx, mn, liesB, Bool.or_eq_true, decide_eq_true_eq]
      split <;> split <;> omega
    by_cases h : liesB x s.f0 s.f1 = true
    · simp only [hiff, h, if_true]; exact Ev.now _
    · simp only [hiff, h, if_false, Bool.false_eq_true]; exact Ev.now _

theorem liarsRef_l0 (l : List S25) (s : S25) (hl : okL l = true) (hs : okS s = true) : ∀ (d i : Nat) (acc : List Int), i + d = l.length → acc.length ≤ i → Ev (fun k => sundialref15_Liars.l0 k l acc (i : Int) s.f0 s.f1) (acc ++ liars s.f0 s.f1 (l.drop i) i, 0) := by
  have hll := okL_iff.1 hl
  intro d
  induction d with
  | zero =>
    intro i acc hi ha
    refine Ev.step (f := fun _ => some (acc, 0)) (fun k => ?_) ?_
    · simp only [sundialref15_Liars.l0]
      rw [if_neg (by omega)]
    · rw [List.drop_eq_nil_of_le (by omega)]
      simp only [liars, List.append_nil]
      exact Ev.now _
  | succ d ih =>
    intro i acc hi ha
    have hlt : i < l.length := by omega
    obtain ⟨a, b, hm⟩ := meet_ev l[i] s (hll.2 _ (List.getElem_mem hlt)) hs
    refine Ev.step (f := fun k => (sundialref01_Meet.f k l[i].f0 l[i].f1 s.f0 s.f1).bind fun bt => if bt.2.2 = 0 then sundialref15_Liars.l0 k l acc ((i + 1 : Nat) : Int) s.f0 s.f1 else if acc.length < 17592186044416 then sundialref15_Liars.l0 k l (acc ++ [(i : Int)]) ((i + 1 : Nat) : Int) s.f0 s.f1 else none) (fun k => ?_) ?_
    · simp only [sundialref15_Liars.l0]
      rw [if_pos (by omega), if_pos (by omega), rd25 hlt, wrapS (by omega)]
    · refine Ev.bind hm ?_
      rw [drop_cons hlt]
      simp only [liars]
      by_cases h : liesB l[i] s.f0 s.f1 = true
      · simp only [h, if_true]
        refine Ev.congr (f := fun k => sundialref15_Liars.l0 k l (acc ++ [(i : Int)]) ((i + 1 : Nat) : Int) s.f0 s.f1) (fun k => by rw [if_neg (by decide), if_pos (by omega)]) ?_
        have := ih (i + 1) (acc ++ [(i : Int)]) (by omega) (by simp; omega)
        rw [List.append_assoc] at this
        exact this
      · simp only [h, if_false, Bool.false_eq_true, if_true, List.nil_append]
        exact ih (i + 1) acc (by omega) (by omega)

theorem liarsRef_ev (l : List S25) (s : S25) (hm : l.length ≤ 1000000000000000) : Ev (fun k => sundialref15_Liars.f k l s.f0 s.f1) (liarsR l s) := by
  unfold sundialref15_Liars.f liarsR
  refine Ev.bind (checkRef_ev l hm) ?_
  simp only [checkR_eq, Option.bind_some]
  have hs : okS ⟨s.f0, s.f1⟩ = okS s := rfl
  rw [hs]
  by_cases h : okL l = true
  · by_cases h2 : okS s = true
    · simp only [h, h2, if_true, and_self]
      refine Ev.step (f := fun k => sundialref15_Liars.l0 k l ([] : List Int) ((0 : Nat) : Int) s.f0 s.f1) (fun k => ?_) ?_
      · simp [sundialref15_Liars.j0]
      · have := liarsRef_l0 l s h h2 l.length 0 [] (by omega) (by simp)
        simpa using this
    · simp only [h, h2, if_true, if_false, Bool.false_eq_true, and_false]
      refine Ev.step (f := fun _ => some (([] : List Int), 3)) (fun k => ?_) (Ev.now _)
      simp [sundialref15_Liars.j0]
  · simp only [h, if_false, Bool.false_eq_true, false_and]
    refine Ev.step (f := fun _ => some (([] : List Int), 3)) (fun k => ?_) (Ev.now _)
    simp [sundialref15_Liars.j0]

/-- The call whose answer the document fixes. -/
def three : List S25 := [⟨0, 10⟩, ⟨5, 15⟩, ⟨100, 101⟩]
theorem three_hull : hullR three 1 = (5, 10, 0) := by
  have h1 : okL three = true := by decide
  unfold hullR
  rw [if_pos h1, if_neg (by decide), if_neg (by decide)]
  refine (sweep_hull three (by decide) ((three.length : Int) - 1) (by decide)).unique (.inr ⟨5, 10, rfl, ⟨⟨5, 15⟩, by simp [three], rfl, by decide⟩, by decide, ⟨⟨0, 10⟩, by simp [three], rfl, by decide⟩, by decide⟩)
theorem awake_ev : Ev (fun k => sundiallaw15_awake.f k) true := by
  unfold sundiallaw15_awake.f
  simp only [Option.bind_some]
  refine Ev.bind (a := (5, 10, 0)) (by have := hull_ev three 1 (by decide); rw [three_hull] at this; exact this) ?_
  refine Ev.bind (a := (2, 0)) (by have := held_ev three 7; rw [show heldR three 7 = (2, 0) from by decide] at this; exact this) ?_
  refine Ev.bind (a := ([2], 0)) (by have := liars_ev three ⟨5, 10⟩; rw [show liarsR three ⟨5, 10⟩ = ([2], 0) from by decide] at this; exact this) ?_
  exact Ev.congr (fun k => by simp [rd]) (Ev.now true)
end Go.Proofs.Ytopeelklnjbdoaa.H
