/- The hull: the sweep over the sorted edges and the reference's search come to one answer, told by how many spans hold a time. -/
import Derived.Test.YtopeelklnjbdoaaHBase
namespace Go.Proofs.Ytopeelklnjbdoaa.H
open Go.RowKit Go.Proofs.Ytopeelklnjbdoaa.Q Go.Proofs.YtopeelklnjbdoaaW.PrintWords Go.Proofs.YtopeelklnjbdoaaW.PrintLast

def eds (l : List S25) : List S49 := l.flatMap fun s => [⟨s.f0, 1⟩, ⟨s.f1, -1⟩]
theorem eds_length (l : List S25) : (eds l).length = 2 * l.length := by
  induction l with
  | nil => rfl
  | cons s l ih => simp only [eds, List.flatMap_cons, List.length_append, List.length_cons] at *; simp at *; omega
theorem eds_cons (s : S25) (l : List S25) : eds (s :: l) = [⟨s.f0, 1⟩, ⟨s.f1, -1⟩] ++ eds l := rfl

theorem edges_l0 (l : List S25) (hl : l.length ≤ 32) : ∀ (d i : Nat) (acc : List S49), i + d = l.length → acc.length = 2 * i → Ev (fun k => hull_edges.l0 k acc l (l.length : Int) (i : Int)) (sortE (acc ++ eds (l.drop i))) := by
  intro d
  induction d with
  | zero =>
    intro i acc hi ha
    refine Ev.step (f := fun _ => some (sortE acc)) (fun k => ?_) ?_
    · simp only [hull_edges.l0]
      rw [if_neg (by omega)]
      unfold hull_edge.f
      rw [if_pos (by omega)]
      rfl
    · rw [List.drop_eq_nil_of_le (by omega)]
      simp only [eds, List.flatMap_nil, List.append_nil]
      exact Ev.now _
  | succ d ih =>
    intro i acc hi ha
    have hlt : i < l.length := by omega
    refine Ev.step (f := fun k => hull_edges.l0 k (acc ++ [(⟨l[i].f0, 1⟩ : S49), ⟨l[i].f1, -1⟩]) l (l.length : Int) ((i + 1 : Nat) : Int)) (fun k => ?_) ?_
    · simp only [hull_edges.l0]
      rw [if_pos (by omega), if_pos (by omega), if_pos (by omega), rd25 hlt, wrapS (by omega)]
      simp only [Option.bind_some]
      rw [if_pos (by simp; omega)]
    · have := ih (i + 1) (acc ++ [(⟨l[i].f0, 1⟩ : S49), ⟨l[i].f1, -1⟩]) (by omega) (by simp; omega)
      rw [drop_cons hlt, eds_cons, ← List.append_assoc]
      exact this
theorem edges_ev (l : List S25) (hl : l.length ≤ 32) : Ev (fun k => hull_edges.f k l) (sortE (eds l)) := by
  have := edges_l0 l hl l.length 0 [] (by omega) rfl
  simpa [hull_edges.f] using this

def sweep (n : Int) : List S49 → Int → Bool → Int → Int → Int × Int × Int
  | [], _, found, lo, hi => if found = true then (lo, hi, 0) else (0, 0, 60)
  | x :: xs, held, found, lo, hi =>
    if 0 < x.f1 ∧ n ≤ held + x.f1 ∧ found = false then sweep n xs (held + x.f1) true x.f0 (if x.f1 < 0 ∧ n ≤ held then x.f0 else hi)
    else sweep n xs (held + x.f1) found lo (if x.f1 < 0 ∧ n ≤ held then x.f0 else hi)

theorem sweep_l0 (n : Int) (es : List S49) (he : es.length ≤ 64) (hst : ∀ x ∈ es, x.f1 = 1 ∨ x.f1 = -1) : ∀ (d i : Nat) (held : Int) (found : Bool) (lo hi : Int), i + d = es.length → -(i : Int) ≤ held → held ≤ i →
    Ev (fun k => hull_Hull.l0 k n found held es (es.length : Int) (i : Int) lo hi) (sweep n (es.drop i) held found lo hi) := by
  intro d
  induction d with
  | zero =>
    intro i held found lo hi hi' h1 h2
    refine Ev.step (f := fun _ => some (sweep n [] held found lo hi)) (fun k => ?_) ?_
    · simp only [hull_Hull.l0]
      rw [if_neg (by omega)]
      simp only [sweep]
      cases found <;> rfl
    · rw [List.drop_eq_nil_of_le (by omega)]
      exact Ev.now _
  | succ d ih =>
    intro i held found lo hi hi' h1 h2
    have hlt : i < es.length := by omega
    have hs := hst es[i] (List.getElem_mem hlt)
    rw [drop_cons hlt]
    simp only [sweep]
    generalize hx : es[i] = x at hs ⊢
    refine Ev.step (f := fun k => hull_Hull.j1 k n found held es (es.length : Int) (i : Int) (if x.f1 < 0 then decide (held ≥ n) else false) lo hi x.f0 x.f1) (fun k => ?_) ?_
    · simp only [hull_Hull.l0]
      rw [if_pos (by omega), if_pos (by omega), if_pos (by omega), rd49 hlt, hx]
      by_cases h : x.f1 < 0 <;> simp [h]
    · refine Ev.step (f := fun k => if 0 < x.f1 ∧ n ≤ held + x.f1 ∧ found = false then hull_Hull.l0 k n true (held + x.f1) es (es.length : Int) ((i + 1 : Nat) : Int) x.f0 (if x.f1 < 0 ∧ n ≤ held then x.f0 else hi) else hull_Hull.l0 k n found (held + x.f1) es (es.length : Int) ((i + 1 : Nat) : Int) lo (if x.f1 < 0 ∧ n ≤ held then x.f0 else hi)) (fun k => ?_) ?_
      · simp only [hull_Hull.j1]
        rw [wrapS (by omega), wrap_id (x := held + x.f1) (by omega) (by omega)]
        rcases hs with hs | hs
        · by_cases hn : n ≤ held + x.f1 <;> cases found <;> simp [hs] at hn ⊢ <;> simp [hn] <;> omega
        · by_cases hn : n ≤ held <;> simp [hs, hn]
      · by_cases hc : 0 < x.f1 ∧ n ≤ held + x.f1 ∧ found = false
        · simp only [if_pos hc]
          exact ih (i + 1) _ _ _ _ (by omega) (by omega) (by omega)
        · simp only [if_neg hc]
          exact ih (i + 1) _ _ _ _ (by omega) (by omega) (by omega)

def hullR (l : List S25) (f : Int) : Int × Int × Int := if okL l = true then if f < 0 then (0, 0, 2) else if (l.length : Int) ≤ f then (0, 0, 61) else sweep ((l.length : Int) - f) (sortE (eds l)) 0 false 0 0 else (0, 0, 3)

theorem sortE_perm (l : List S49) : (sortE l).Perm l := List.mergeSort_perm _ _
theorem sortE_length (l : List S49) : (sortE l).length = l.length := (sortE_perm l).length_eq
theorem eds_step (l : List S25) : ∀ x ∈ eds l, x.f1 = 1 ∨ x.f1 = -1 := by
  intro x hx
  simp only [eds, List.mem_flatMap] at hx
  obtain ⟨s, _, hx⟩ := hx
  simp at hx
  rcases hx with rfl | rfl <;> simp

theorem hull_ev (l : List S25) (f : Int) (hf : f ≤ 9223372036854775807) : Ev (fun k => hull_Hull.f k l f) (hullR l f) := by
  unfold hull_Hull.f hullR
  refine Ev.bind (check_ev l) ?_
  by_cases h : okL l = true
  · have hl := (okL_iff.1 h).1
    simp only [h, if_true]
    by_cases h1 : f < 0
    · simp only [if_pos h1]; exact Ev.now _
    · simp only [if_neg h1]
      by_cases h2 : (l.length : Int) ≤ f
      · simp only [if_pos h2]; exact Ev.now _
      · simp only [if_neg h2]
        refine Ev.bind (edges_ev l hl) ?_
        rw [wrap_id (x := (l.length : Int) - f) (by omega) (by omega)]
        have := sweep_l0 ((l.length : Int) - f) (sortE (eds l)) (by rw [sortE_length, eds_length]; omega) (fun x hx => eds_step l x ((sortE_perm _).mem_iff.1 hx)) (sortE (eds l)).length 0 0 false 0 0 (by omega) (by omega) (by omega)
        simpa using this
  · simp only [h, if_false, Bool.false_eq_true]
    exact Ev.now _

/-- The reference's search. -/
def rsw (n : Int) (L : List S25) : List S25 → Bool → Int → Int → Int × Int × Int
  | [], found, lo, hi => if found = true then (lo, hi, 0) else (0, 0, 60)
  | s :: r, found, lo, hi => rsw n L r (decide (n ≤ (cnt L s.f0 : Int)) || found) (if n ≤ (cnt L s.f0 : Int) then mn lo s.f0 else lo) (if n ≤ (cnt L s.f1 : Int) then mx hi s.f1 else hi)

theorem ref_l0 (l : List S25) (f : Int) (hl : l.length ≤ 32) (h0 : 0 ≤ f) (h1 : f < l.length) : ∀ (d i : Nat) (found : Bool) (lo hi : Int), i + d = l.length → Ev (fun k => sundialref15_Hull.l0 k l f found (i : Int) lo hi) (rsw ((l.length : Int) - f) l (l.drop i) found lo hi) := by
  intro d
  induction d with
  | zero =>
    intro i found lo hi hi'
    refine Ev.step (f := fun _ => some (rsw ((l.length : Int) - f) l [] found lo hi)) (fun k => ?_) ?_
    · simp only [sundialref15_Hull.l0]
      rw [if_neg (by omega)]
      simp only [rsw]
      cases found <;> rfl
    · rw [List.drop_eq_nil_of_le (by omega)]
      exact Ev.now _
  | succ d ih =>
    intro i found lo hi hi'
    have hlt : i < l.length := by omega
    rw [drop_cons hlt]
    simp only [rsw]
    refine Ev.step (f := fun k => (sundialref15_count.f k l l[i].f0).bind fun t174 => (sundialref15_count.f k l l[i].f1).bind fun t177 => sundialref15_Hull.l0 k l f (decide ((l.length : Int) - f ≤ t174) || found) ((i + 1 : Nat) : Int) (if (l.length : Int) - f ≤ t174 then mn lo l[i].f0 else lo) (if (l.length : Int) - f ≤ t177 then mx hi l[i].f1 else hi)) (fun k => ?_) ?_
    · simp only [sundialref15_Hull.l0]
      rw [if_pos (by omega), if_pos (by omega), rd25 hlt, wrapS (by omega), wrap_id (x := (l.length : Int) - f) (by omega) (by omega)]
      congr 1
      funext t174
      by_cases ha : t174 ≥ (l.length : Int) - f
      · rw [if_pos ha]
        congr 1
        funext t177
        have ha' : (l.length : Int) - f ≤ t174 := ha
        by_cases hb : t177 ≥ (l.length : Int) - f
        · have hb' : (l.length : Int) - f ≤ t177 := hb
          rw [if_pos hb, if_pos ha', if_pos hb']
          simp [ha']
        · have hb' : ¬ (l.length : Int) - f ≤ t177 := hb
          rw [if_neg hb, if_pos ha', if_neg hb']
          simp [ha']
      · rw [if_neg ha]
        congr 1
        funext t177
        have ha' : ¬ (l.length : Int) - f ≤ t174 := ha
        by_cases hb : t177 ≥ (l.length : Int) - f
        · have hb' : (l.length : Int) - f ≤ t177 := hb
          rw [if_pos hb, if_neg ha', if_pos hb']
          simp [ha']
        · have hb' : ¬ (l.length : Int) - f ≤ t177 := hb
          rw [if_neg hb, if_neg ha', if_neg hb']
          simp [ha']
    · refine Ev.bind (count_ev l _ hl) ?_
      refine Ev.bind (count_ev l _ hl) ?_
      exact ih (i + 1) _ _ _ (by omega)

def refR (l : List S25) (f : Int) : Int × Int × Int := if okL l = true then if f < 0 then (0, 0, 2) else if (l.length : Int) ≤ f then (0, 0, 61) else rsw ((l.length : Int) - f) l l false 2305843009213693952 (-2305843009213693952) else (0, 0, 3)
theorem ref_ev (l : List S25) (f : Int) (hm : l.length ≤ 1000000000000000) : Ev (fun k => sundialref15_Hull.f k l f) (refR l f) := by
  unfold sundialref15_Hull.f refR
  refine Ev.bind (checkRef_ev l hm) ?_
  by_cases h : okL l = true
  · have hl := (okL_iff.1 h).1
    simp only [h, if_true]
    by_cases h1 : f < 0
    · simp only [if_pos h1]; exact Ev.now _
    · simp only [if_neg h1]
      by_cases h2 : (l.length : Int) ≤ f
      · simp only [if_pos h2]; exact Ev.now _
      · simp only [if_neg h2]
        have := ref_l0 l f hl (by omega) (by omega) l.length 0 false 2305843009213693952 (-2305843009213693952) (by omega)
        simpa using this
  · simp only [h, if_false, Bool.false_eq_true]
    exact Ev.now _
end Go.Proofs.Ytopeelklnjbdoaa.H
