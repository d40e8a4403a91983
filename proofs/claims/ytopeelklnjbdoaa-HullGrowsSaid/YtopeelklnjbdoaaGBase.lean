/- The hull's functions in plain Lean: what each comes to, and what a hull is: the least beginning and the greatest end that enough spans hold. -/
import Derived.Test.YtopeelklnjbdoaaQx4
namespace Go.Proofs.Ytopeelklnjbdoaa.H
open Go.RowKit Go.Proofs.Ytopeelklnjbdoaa.Q Go.Proofs.YtopeelklnjbdoaaW.PrintWords Go.Proofs.YtopeelklnjbdoaaW.PrintLast


def okT (t : Int) : Bool := decide (-2305843009213693952 ≤ t) && decide (t ≤ 2305843009213693952)
def okS (s : S25) : Bool := okT s.f0 && okT s.f1 && decide (s.f0 ≤ s.f1)
def okL (l : List S25) : Bool := decide (l.length ≤ 32) && l.all okS
def holds (s : S25) (t : Int) : Bool := decide (s.f0 ≤ t) && decide (t ≤ s.f1)
def cnt (l : List S25) (t : Int) : Nat := l.countP (fun s => holds s t)

theorem okT_iff {t : Int} : okT t = true ↔ -2305843009213693952 ≤ t ∧ t ≤ 2305843009213693952 := by simp [okT]
theorem okS_iff {s : S25} : okS s = true ↔ (-2305843009213693952 ≤ s.f0 ∧ s.f0 ≤ 2305843009213693952) ∧ (-2305843009213693952 ≤ s.f1 ∧ s.f1 ≤ 2305843009213693952) ∧ s.f0 ≤ s.f1 := by
  simp [okS, okT, and_assoc]
theorem okL_iff {l : List S25} : okL l = true ↔ l.length ≤ 32 ∧ ∀ s ∈ l, okS s = true := by simp [okL]
theorem holds_iff {s : S25} {t : Int} : holds s t = true ↔ s.f0 ≤ t ∧ t ≤ s.f1 := by simp [holds]

theorem rd25 {l : List S25} {i : Nat} (h : i < l.length) : rd_T25 l (i : Int) = l[i] := by simp [rd_T25, h]
theorem rd49 {l : List S49} {i : Nat} (h : i < l.length) : rd_T49 l (i : Int) = l[i] := by simp [rd_T49, h]
theorem wrapS {i : Nat} (h : i < 4611686018427387904) : wrap64 ((i : Int) + 1) = ((i + 1 : Nat) : Int) := by unfold wrap64; omega
theorem wrap_id {x : Int} (h : -9223372036854775808 ≤ x) (h2 : x ≤ 9223372036854775807) : wrap64 x = x := by unfold wrap64; omega

theorem is_eq (t : Int) : fix_is.f t = some (okT t) := by
  unfold fix_is.f okT
  by_cases h : -2305843009213693952 ≤ t
  · rw [if_pos h]; simp [h]
  · rw [if_neg h]; simp [h]
theorem check1_eq (a b : Int) : fix_Check.f a b = some (if okS ⟨a, b⟩ = true then 0 else 3) := by
  unfold fix_Check.f
  simp only [is_eq, Option.bind_some]
  simp only [okS]
  by_cases h1 : okT a = true <;> by_cases h2 : okT b = true <;> by_cases h3 : a ≤ b <;> simp [h1, h2, h3] <;> omega
theorem drop_cons {α : Type} {l : List α} {i : Nat} (h : i < l.length) : l.drop i = l[i] :: l.drop (i + 1) := List.drop_eq_getElem_cons h

theorem check_l0 (l : List S25) (hl : l.length ≤ 32) : ∀ (d i : Nat), i + d = l.length → Ev (fun k => hull_check.l0 k l (l.length : Int) (i : Int)) (if (l.drop i).all okS = true then 0 else 3) := by
  intro d
  induction d with
  | zero =>
    intro i hi
    refine Ev.step (f := fun _ => some 0) (fun k => ?_) ?_
    · simp only [hull_check.l0]
      rw [if_neg (by omega)]
    · rw [List.drop_eq_nil_of_le (by omega)]
      exact Ev.now 0
  | succ d ih =>
    intro i hi
    have hlt : i < l.length := by omega
    refine Ev.step (f := fun k => if okS l[i] = true then hull_check.l0 k l (l.length : Int) ((i + 1 : Nat) : Int) else some 3) (fun k => ?_) ?_
    · simp only [hull_check.l0]
      rw [if_pos (by omega), if_pos (by omega), if_pos (by omega), rd25 hlt, check1_eq, wrapS (by omega)]
      simp only [Option.bind_some]
      by_cases h : okS l[i] = true <;> simp [h]
    · rw [drop_cons hlt]
      by_cases h : okS l[i] = true
      · simp only [h, if_true, List.all_cons, Bool.true_and]
        exact ih (i + 1) (by omega)
      · simp only [Bool.not_eq_true] at h
        simp only [h, List.all_cons, Bool.false_and, if_false, Bool.false_eq_true]
        exact Ev.now 3

theorem check_ev (l : List S25) : Ev (fun k => hull_check.f k l) (if okL l = true then 0 else 3) := by
  unfold hull_check.f
  by_cases h : l.length ≤ 32
  · refine Ev.congr (f := fun k => hull_check.l0 k l (l.length : Int) ((0 : Nat) : Int)) (fun k => by rw [if_neg (by omega)]; rfl) ?_
    have := check_l0 l h l.length 0 (by omega)
    simpa [okL, h] using this
  · refine Ev.congr (f := fun _ => some 3) (fun k => by rw [if_pos (by omega)]) ?_
    have : okL l = false := by simp [okL, h]
    rw [this]
    exact Ev.now 3

theorem cnt_le (l : List S25) (t : Int) : cnt l t ≤ l.length := List.countP_le_length
theorem cnt_cons (s : S25) (l : List S25) (t : Int) : cnt (s :: l) t = (if holds s t = true then 1 else 0) + cnt l t := by
  unfold cnt
  rw [List.countP_cons]
  omega

theorem held_l0 (l : List S25) (t : Int) (hl : l.length ≤ 32) : ∀ (d i n : Nat), i + d = l.length → n ≤ 32 → n ≤ i → Ev (fun k => hull_Held.l0 k t (n : Int) l (l.length : Int) (i : Int)) (((n + cnt (l.drop i) t : Nat) : Int), 0) := by
  intro d
  induction d with
  | zero =>
    intro i n hi hn hni
    refine Ev.step (f := fun _ => some ((n : Int), 0)) (fun k => ?_) ?_
    · simp only [hull_Held.l0]
      rw [if_neg (by omega)]
    · rw [List.drop_eq_nil_of_le (by omega)]
      exact Ev.now _
  | succ d ih =>
    intro i n hi hn hni
    have hlt : i < l.length := by omega
    refine Ev.step (f := fun k => hull_Held.l0 k t (((n + (if holds l[i] t = true then 1 else 0)) : Nat) : Int) l (l.length : Int) ((i + 1 : Nat) : Int)) (fun k => ?_) ?_
    · simp only [hull_Held.l0]
      rw [if_pos (by omega), if_pos (by omega), if_pos (by omega), rd25 hlt, wrapS (by omega), wrapS (by omega)]
      by_cases h1 : l[i].f0 ≤ t <;> by_cases h2 : t ≤ l[i].f1 <;> simp [h1, h2, holds]
    · have hle : (if holds l[i] t = true then 1 else 0) ≤ 1 := by split <;> omega
      have := ih (i + 1) (n + (if holds l[i] t = true then 1 else 0)) (by omega) (by omega) (by omega)
      rw [drop_cons hlt, cnt_cons]
      rw [Nat.add_assoc] at this
      exact this

theorem sum0 (t : Int) (h : okT t = true) : fix_Sum.f t 0 = some (t, 0) := by
  have hb := okT_iff.1 h
  unfold fix_Sum.f
  simp only [is_eq, Option.bind_some, h, if_true, show okT 0 = true from by decide, fix_bound.f, Int.add_zero]
  rw [wrap_id (by omega) (by omega)]
  rw [show mx t (-2305843009213693952) = t from by unfold mx; rw [if_neg (by omega)], show mn t 2305843009213693952 = t from by unfold mn; rw [if_neg (by omega)]]
theorem sum0_no (t : Int) (h : ¬ okT t = true) : fix_Sum.f t 0 = some (0, 2) := by
  unfold fix_Sum.f
  simp only [is_eq, Option.bind_some]
  simp [h]

def heldR (l : List S25) (t : Int) : Int × Int := if okL l = true then if okT t = true then ((cnt l t : Int), 0) else (0, 2) else (0, 3)

theorem held_ev (l : List S25) (t : Int) : Ev (fun k => hull_Held.f k l t) (heldR l t) := by
  unfold hull_Held.f heldR
  refine Ev.bind (check_ev l) ?_
  by_cases h : okL l = true
  · simp only [h, if_true]
    by_cases ht : okT t = true
    · simp only [ht, if_true, sum0 t ht, Option.bind_some]
      have := held_l0 l t (okL_iff.1 h).1 l.length 0 0 (by omega) (by omega) (by omega)
      simpa using this
    · simp only [ht, sum0_no t ht, Option.bind_some, if_false, Bool.false_eq_true]
      exact Ev.now _
  · simp only [h, if_false, Bool.false_eq_true]
    exact Ev.now _



def eds (l : List S25) : List S49 := l.flatMap fun s => [⟨s.f0, 1⟩, ⟨s.f1, -1⟩]
theorem eds_length (l : List S25) : (eds l).length = 2 * l.length := by
  induction l with
  | nil => rfl
  | cons s l ih => simp only [eds, List.flatMap_cons, List.length_append, List.length_cons] at *; simp at *; omega
theorem eds_cons (s : S25) (l : List S25) : eds (s :: l) = [⟨s.f0, 1⟩, ⟨s.f1, -1⟩] ++ eds l := rfl

theorem edges_l0 (l : List S25) (hl : l.length ≤ 32) : ∀ (d i : Nat) (acc : List S49), i + d = l.length → acc.length = 2 * i → Ev (fun k => hull_edges.l0 k acc l (l.length : Int) (i : Int)) (sortE (acc ++ eds (l.drop i))) := by
  intro d
  induction d with
  | zero =>
    intro i acc hi ha
    refine Ev.step (f := fun _ => some (sortE acc)) (fun k => ?_) ?_
    · simp only [hull_edges.l0]
      rw [if_neg (by omega)]
      unfold hull_edge.f
      rw [if_pos (by omega)]
      rfl
    · rw [List.drop_eq_nil_of_le (by omega)]
      simp only [eds, List.flatMap_nil, List.append_nil]
      exact Ev.now _
  | succ d ih =>
    intro i acc hi ha
    have hlt : i < l.length := by omega
    refine Ev.step (f := fun k => hull_edges.l0 k (acc ++ [(⟨l[i].f0, 1⟩ : S49), ⟨l[i].f1, -1⟩]) l (l.length : Int) ((i + 1 : Nat) : Int)) (fun k => ?_) ?_
    · simp only [hull_edges.l0]
      rw [if_pos (by omega), if_pos (by omega), if_pos (by omega), rd25 hlt, wrapS (by omega)]
      simp only [Option.bind_some]
      rw [if_pos (by simp; omega)]
    · have := ih (i + 1) (acc ++ [(⟨l[i].f0, 1⟩ : S49), ⟨l[i].f1, -1⟩]) (by omega) (by simp; omega)
      rw [drop_cons hlt, eds_cons, ← List.append_assoc]
      exact this
theorem edges_ev (l : List S25) (hl : l.length ≤ 32) : Ev (fun k => hull_edges.f k l) (sortE (eds l)) := by
  have := edges_l0 l hl l.length 0 [] (by omega) rfl
  simpa [hull_edges.f] using this

def sweep (n : Int) : List S49 → Int → Bool → Int → Int → Int × Int × Int
  | [], _, found, lo, hi => if found = true then (lo, hi, 0) else (0, 0, 60)
  | x :: xs, held, found, lo, hi =>
    if 0 < x.f1 ∧ n ≤ held + x.f1 ∧ found = false then sweep n xs (held + x.f1) true x.f0 (if x.f1 < 0 ∧ n ≤ held then x.f0 else hi)
    else sweep n xs (held + x.f1) found lo (if x.f1 < 0 ∧ n ≤ held then x.f0 else hi)

theorem sweep_l0 (n : Int) (es : List S49) (he : es.length ≤ 64) (hst : ∀ x ∈ es, x.f1 = 1 ∨ x.f1 = -1) : ∀ (d i : Nat) (held : Int) (found : Bool) (lo hi : Int), i + d = es.length → -(i : Int) ≤ held → held ≤ i →
    Ev (fun k => hull_Hull.l0 k n found held es (es.length : Int) (i : Int) lo hi) (sweep n (es.drop i) held found lo hi) := by
  intro d
  induction d with
  | zero =>
    intro i held found lo hi hi' h1 h2
    refine Ev.step (f := fun _ => some (sweep n [] held found lo hi)) (fun k => ?_) ?_
    · simp only [hull_Hull.l0]
      rw [if_neg (by omega)]
      simp only [sweep]
      cases found <;> rfl
    · rw [List.drop_eq_nil_of_le (by omega)]
      exact Ev.now _
  | succ d ih =>
    intro i held found lo hi hi' h1 h2
    have hlt : i < es.length := by omega
    have hs := hst es[i] (List.getElem_mem hlt)
    rw [drop_cons hlt]
    simp only [sweep]
    generalize hx : es[i] = x at hs ⊢
    refine Ev.step (f := fun k => hull_Hull.j1 k n found held es (es.length : Int) (i : Int) (if x.f1 < 0 then decide (held ≥ n) else false) lo hi x.f0 x.f1) (fun k => ?_) ?_
    · simp only [hull_Hull.l0]
      rw [if_pos (by omega), if_pos (by omega), if_pos (by omega), rd49 hlt, hx]
      by_cases h : x.f1 < 0 <;> simp [h]
    · refine Ev.step (f := fun k => if 0 < x.f1 ∧ n ≤ held + x.f1 ∧ found = false then hull_Hull.l0 k n true (held + x.f1) es (es.length : Int) ((i + 1 : Nat) : Int) x.f0 (if x.f1 < 0 ∧ n ≤ held then x.f0 else hi) else hull_Hull.l0 k n found (held + x.f1) es (es.length : Int) ((i + 1 : Nat) : Int) lo (if x.f1 < 0 ∧ n ≤ held then x.f0 else hi)) (fun k => ?_) ?_
      · simp only [hull_Hull.j1]
        rw [wrapS (by omega), wrap_id (x := held + x.f1) (by omega) (by omega)]
        rcases hs with hs | hs
        · by_cases hn : n ≤ held + x.f1 <;> cases found <;> simp [hs] at hn ⊢ <;> simp [hn] <;> omega
        · by_cases hn : n ≤ held <;> simp [hs, hn]
      · by_cases hc : 0 < x.f1 ∧ n ≤ held + x.f1 ∧ found = false
        · simp only [if_pos hc]
          exact ih (i + 1) _ _ _ _ (by omega) (by omega) (by omega)
        · simp only [if_neg hc]
          exact ih (i + 1) _ _ _ _ (by omega) (by omega) (by omega)

def hullR (l : List S25) (f : Int) : Int × Int × Int := if okL l = true then if f < 0 then (0, 0, 2) else if (l.length : Int) ≤ f then (0, 0, 61) else sweep ((l.length : Int) - f) (sortE (eds l)) 0 false 0 0 else (0, 0, 3)

theorem sortE_perm (l : List S49) : (sortE l).Perm l := List.mergeSort_perm _ _
theorem sortE_length (l : List S49) : (sortE l).length = l.length := (sortE_perm l).length_eq
theorem eds_step (l : List S25) : ∀ x ∈ eds l, x.f1 = 1 ∨ x.f1 = -1 := by
  intro x hx
  simp only [eds, List.mem_flatMap] at hx
  obtain ⟨s, _, hx⟩ := hx
  simp at hx
  rcases hx with rfl | rfl <;> simp

theorem hull_ev (l : List S25) (f : Int) (hf : f ≤ 9223372036854775807) : Ev (fun k => hull_Hull.f k l f) (hullR l f) := by
  unfold hull_Hull.f hullR
  refine Ev.bind (check_ev l) ?_
  by_cases h : okL l = true
  · have hl := (okL_iff.1 h).1
    simp only [h, if_true]
    by_cases h1 : f < 0
    · simp only [if_pos h1]; exact Ev.now _
    · simp only [if_neg h1]
      by_cases h2 : (l.length : Int) ≤ f
      · simp only [if_pos h2]; exact Ev.now _
      · simp only [if_neg h2]
        refine Ev.bind (edges_ev l hl) ?_
        rw [wrap_id (x := (l.length : Int) - f) (by omega) (by omega)]
        have := sweep_l0 ((l.length : Int) - f) (sortE (eds l)) (by rw [sortE_length, eds_length]; omega) (fun x hx => eds_step l x ((sortE_perm _).mem_iff.1 hx)) (sortE (eds l)).length 0 0 false 0 0 (by omega) (by omega) (by omega)
        simpa using this
  · simp only [h, if_false, Bool.false_eq_true]
    exact Ev.now _



/-- Sums over lists. -/
def sumI {α : Type} (g : α → Int) : List α → Int
  | [] => 0
  | x :: xs => g x + sumI g xs
theorem sumI_append {α : Type} (g : α → Int) (a b : List α) : sumI g (a ++ b) = sumI g a + sumI g b := by
  induction a with
  | nil => simp [sumI]
  | cons x a ih => simp only [List.cons_append, sumI, ih]; omega
theorem sumI_perm {α : Type} (g : α → Int) {a b : List α} (h : a.Perm b) : sumI g a = sumI g b := by
  induction h with
  | nil => rfl
  | cons x _ ih => simp only [sumI, ih]
  | swap x y l => simp only [sumI]; omega
  | trans _ _ h1 h2 => exact h1.trans h2
theorem sumI_le {α : Type} (g h : α → Int) (l : List α) (hl : ∀ x ∈ l, g x ≤ h x) : sumI g l ≤ sumI h l := by
  induction l with
  | nil => exact Int.le_refl _
  | cons x l ih =>
    have h1 := hl x (List.mem_cons_self ..)
    have h2 := ih (fun y hy => hl y (List.mem_cons_of_mem _ hy))
    simp only [sumI]; omega
theorem sumI_congr {α : Type} (g h : α → Int) (l : List α) (hl : ∀ x ∈ l, g x = h x) : sumI g l = sumI h l := by
  have h1 := sumI_le g h l (fun x hx => Int.le_of_eq (hl x hx))
  have h2 := sumI_le h g l (fun x hx => Int.le_of_eq (hl x hx).symm)
  omega
theorem sumI_nonneg {α : Type} (g : α → Int) (l : List α) (hl : ∀ x ∈ l, 0 ≤ g x) : 0 ≤ sumI g l := by
  have := sumI_le (fun _ => 0) g l hl
  have h0 : sumI (fun _ : α => (0 : Int)) l = 0 := by
    clear this hl
    induction l with
    | nil => rfl
    | cons x l ih => simp [sumI, ih]
  omega
theorem sumI_zero {α : Type} (g : α → Int) (l : List α) (hl : ∀ x ∈ l, g x = 0) : sumI g l = 0 := by
  induction l with
  | nil => rfl
  | cons x l ih => simp only [sumI, hl x (List.mem_cons_self ..), ih (fun y hy => hl y (List.mem_cons_of_mem _ hy))]; omega

/-- What an edge adds to how many spans hold t. -/
def adds (t : Int) (x : S49) : Int := if 0 < x.f1 then (if x.f0 ≤ t then 1 else 0) else (if x.f0 < t then -1 else 0)
theorem cnt_adds (l : List S25) (t : Int) (h : ∀ s ∈ l, s.f0 ≤ s.f1) : (cnt l t : Int) = sumI (adds t) (eds l) := by
  induction l with
  | nil => rfl
  | cons s l ih =>
    have hs := h s (List.mem_cons_self ..)
    rw [cnt_cons, eds_cons, sumI_append, ← ih (fun x hx => h x (List.mem_cons_of_mem _ hx))]
    simp only [sumI, adds]
    by_cases h1 : s.f0 ≤ t <;> by_cases h2 : t ≤ s.f1 <;> simp [holds, h1, h2] <;> omega

/-- Ahead of each other: earlier ones, and beginnings ahead of ends. -/
def ahead (x y : S49) : Prop := x.f0 < y.f0 ∨ x.f0 = y.f0 ∧ y.f1 ≤ x.f1
theorem sortE_sorted (l : List S49) : (sortE l).Pairwise ahead := by
  have h := List.pairwise_mergeSort (le := fun x y => !(ltOf cfE) y x) (fun a b c h1 h2 => by
    simp only [ltE, Bool.not_eq_true', decide_eq_false_iff_not] at *
    omega) (fun a b => by
    simp only [ltE, Bool.or_eq_true, Bool.not_eq_true', decide_eq_false_iff_not]
    omega) l
  refine h.imp ?_
  intro x y hxy
  simp only [ltE, Bool.not_eq_true', decide_eq_false_iff_not] at hxy
  unfold ahead
  omega

theorem split_sorted {es p q : List S49} {x : S49} (hs : es.Pairwise ahead) (he : es = p ++ x :: q) : (∀ y ∈ p, ahead y x) ∧ (∀ y ∈ q, ahead x y) := by
  subst he
  rw [List.pairwise_append] at hs
  obtain ⟨_, h2, h3⟩ := hs
  rw [List.pairwise_cons] at h2
  exact ⟨fun y hy => h3 y hy x (List.mem_cons_self ..), h2.1⟩
def stp (x : S49) : Int := x.f1
def isE (es : List S49) : Prop := ∀ x ∈ es, x.f1 = 1 ∨ x.f1 = -1

theorem sum_split (es p q : List S49) (x : S49) (t : Int) (he : es = p ++ x :: q) : sumI (adds t) es = sumI (adds t) p + adds t x + sumI (adds t) q := by
  subst he
  rw [sumI_append]
  simp only [sumI]
  omega

/-- No more are open behind a beginning than hold its time. -/
theorem begin_le {es p q : List S49} {x : S49} (hs : es.Pairwise ahead) (hE : isE es) (he : es = p ++ x :: q) (hx : x.f1 = 1) : sumI stp p + 1 ≤ sumI (adds x.f0) es := by
  obtain ⟨hp, hq⟩ := split_sorted hs he
  rw [sum_split es p q x x.f0 he]
  have h1 : sumI stp p ≤ sumI (adds x.f0) p := sumI_le _ _ _ (fun y hy => by
    have := hp y hy
    have hy2 := hE y (by rw [he]; simp [hy])
    unfold ahead at this
    simp only [stp, adds]
    rcases hy2 with h | h <;> rw [h] <;> simp <;> split <;> omega)
  have h2 : 0 ≤ sumI (adds x.f0) q := sumI_nonneg _ _ (fun y hy => by
    have := hq y hy
    have hy2 := hE y (by rw [he]; simp [hy])
    unfold ahead at this
    simp only [adds]
    rcases hy2 with h | h <;> rw [h] <;> simp <;> split <;> omega)
  have h3 : adds x.f0 x = 1 := by simp [adds, hx]
  omega
theorem end_le {es p q : List S49} {x : S49} (hs : es.Pairwise ahead) (hE : isE es) (he : es = p ++ x :: q) (hx : x.f1 = -1) : sumI stp p ≤ sumI (adds x.f0) es := by
  obtain ⟨hp, hq⟩ := split_sorted hs he
  rw [sum_split es p q x x.f0 he]
  have h1 : sumI stp p ≤ sumI (adds x.f0) p := sumI_le _ _ _ (fun y hy => by
    have := hp y hy
    have hy2 := hE y (by rw [he]; simp [hy])
    unfold ahead at this
    simp only [stp, adds]
    rcases hy2 with h | h <;> rw [h] <;> simp <;> split <;> omega)
  have h2 : 0 ≤ sumI (adds x.f0) q := sumI_nonneg _ _ (fun y hy => by
    have := hq y hy
    have hy2 := hE y (by rw [he]; simp [hy])
    unfold ahead at this
    simp only [adds]
    rcases hy2 with h | h <;> rw [h] <;> simp <;> split <;> omega)
  have h3 : adds x.f0 x = 0 := by simp [adds, hx]
  omega

theorem last_of {α : Type} (P : α → Prop) [DecidablePred P] : ∀ (l : List α), (∃ x ∈ l, P x) → ∃ p x q, l = p ++ x :: q ∧ P x ∧ ∀ y ∈ q, ¬ P y
  | [], h => by obtain ⟨x, hx, _⟩ := h; simp at hx
  | a :: l, h => by
    by_cases hl : ∃ x ∈ l, P x
    · obtain ⟨p, x, q, he, hx, hq⟩ := last_of P l hl
      exact ⟨a :: p, x, q, by rw [he]; rfl, hx, hq⟩
    · obtain ⟨x, hx, hP⟩ := h
      rcases List.mem_cons.1 hx with rfl | hx
      · exact ⟨[], x, l, rfl, hP, fun y hy hPy => hl ⟨y, hy, hPy⟩⟩
      · exact absurd ⟨x, hx, hP⟩ hl
theorem first_of {α : Type} (P : α → Prop) [DecidablePred P] : ∀ (l : List α), (∃ x ∈ l, P x) → ∃ p x q, l = p ++ x :: q ∧ P x ∧ ∀ y ∈ p, ¬ P y
  | [], h => by obtain ⟨x, hx, _⟩ := h; simp at hx
  | a :: l, h => by
    by_cases ha : P a
    · exact ⟨[], a, l, rfl, ha, fun y hy => by simp at hy⟩
    · obtain ⟨x, hx, hP⟩ := h
      rcases List.mem_cons.1 hx with rfl | hx
      · exact absurd hP ha
      · obtain ⟨p, z, q, he, hz, hp⟩ := first_of P l ⟨x, hx, hP⟩
        exact ⟨a :: p, z, q, by rw [he]; rfl, hz, fun y hy => by
          rcases List.mem_cons.1 hy with rfl | hy
          · exact ha
          · exact hp y hy⟩

theorem begin_eq {es : List S49} (hs : es.Pairwise ahead) (hE : isE es) {t : Int} (h : ∃ x ∈ es, x.f1 = 1 ∧ x.f0 = t) : ∃ p x q, es = p ++ x :: q ∧ x.f1 = 1 ∧ x.f0 = t ∧ sumI stp p + 1 = sumI (adds t) es := by
  obtain ⟨p, x, q, he, ⟨hx, ht⟩, hq'⟩ := last_of (fun x : S49 => x.f1 = 1 ∧ x.f0 = t) es h
  obtain ⟨hp, hq⟩ := split_sorted hs he
  refine ⟨p, x, q, he, hx, ht, ?_⟩
  subst ht
  rw [sum_split es p q x x.f0 he]
  have h1 : sumI stp p = sumI (adds x.f0) p := sumI_congr _ _ _ (fun y hy => by
    have := hp y hy
    have hy2 := hE y (by rw [he]; simp [hy])
    unfold ahead at this
    simp only [stp, adds]
    rcases hy2 with h | h <;> rw [h] at this ⊢ <;> simp <;> omega)
  have h2 : sumI (adds x.f0) q = 0 := sumI_zero _ _ (fun y hy => by
    have := hq y hy
    have h3 := hq' y hy
    have hy2 := hE y (by rw [he]; simp [hy])
    unfold ahead at this
    simp only [adds]
    rcases hy2 with h | h <;> rw [h] at this h3 ⊢ <;> simp at h3 ⊢ <;> omega)
  have h3 : adds x.f0 x = 1 := by simp [adds, hx]
  omega
theorem end_eq {es : List S49} (hs : es.Pairwise ahead) (hE : isE es) {t : Int} (h : ∃ x ∈ es, x.f1 = -1 ∧ x.f0 = t) : ∃ p x q, es = p ++ x :: q ∧ x.f1 = -1 ∧ x.f0 = t ∧ sumI stp p = sumI (adds t) es := by
  obtain ⟨p, x, q, he, ⟨hx, ht⟩, hp'⟩ := first_of (fun x : S49 => x.f1 = -1 ∧ x.f0 = t) es h
  obtain ⟨hp, hq⟩ := split_sorted hs he
  refine ⟨p, x, q, he, hx, ht, ?_⟩
  subst ht
  rw [sum_split es p q x x.f0 he]
  have h1 : sumI stp p = sumI (adds x.f0) p := sumI_congr _ _ _ (fun y hy => by
    have := hp y hy
    have h3 := hp' y hy
    have hy2 := hE y (by rw [he]; simp [hy])
    unfold ahead at this
    simp only [stp, adds]
    rcases hy2 with h | h <;> rw [h] at this h3 ⊢ <;> simp at h3 ⊢ <;> omega)
  have h2 : sumI (adds x.f0) q = 0 := sumI_zero _ _ (fun y hy => by
    have := hq y hy
    have hy2 := hE y (by rw [he]; simp [hy])
    unfold ahead at this
    simp only [adds]
    rcases hy2 with h | h <;> rw [h] at this ⊢ <;> simp <;> omega)
  have h3 : adds x.f0 x = 0 := by simp [adds, hx]
  omega

/-- What the sweep comes to, told by the edges: the first beginning behind which enough are open, the last end ahead of which enough are. -/
theorem sweep_tells (n : Int) (_hn : 1 ≤ n) (es : List S49) (hE : isE es) : ∀ (suf pre : List S49) (found : Bool) (lo hi : Int), es = pre ++ suf →
    (found = false → ∀ p x q, es = p ++ x :: q → p.length < pre.length → x.f1 = 1 → sumI stp p + 1 < n) →
    (found = true → ∃ p x q, es = p ++ x :: q ∧ x.f1 = 1 ∧ lo = x.f0 ∧ n ≤ sumI stp p + 1 ∧ ∀ p' x' q', es = p' ++ x' :: q' → p'.length < p.length → x'.f1 = 1 → sumI stp p' + 1 < n) →
    ((∀ p x q, es = p ++ x :: q → p.length < pre.length → x.f1 = -1 → sumI stp p < n) ∨ (∃ p x q, es = p ++ x :: q ∧ x.f1 = -1 ∧ hi = x.f0 ∧ n ≤ sumI stp p ∧ ∀ p' x' q', es = p' ++ x' :: q' → p.length < p'.length → p'.length < pre.length → x'.f1 = -1 → sumI stp p' < n)) →
    (sweep n suf (sumI stp pre) found lo hi = (0, 0, 60) ∧ ∀ p x q, es = p ++ x :: q → x.f1 = 1 → sumI stp p + 1 < n) ∨
    (∃ a b, sweep n suf (sumI stp pre) found lo hi = (a, b, 0) ∧ (∃ p x q, es = p ++ x :: q ∧ x.f1 = 1 ∧ a = x.f0 ∧ n ≤ sumI stp p + 1 ∧ ∀ p' x' q', es = p' ++ x' :: q' → p'.length < p.length → x'.f1 = 1 → sumI stp p' + 1 < n) ∧
      ((∀ p x q, es = p ++ x :: q → x.f1 = -1 → sumI stp p < n) ∨ (∃ p x q, es = p ++ x :: q ∧ x.f1 = -1 ∧ b = x.f0 ∧ n ≤ sumI stp p ∧ ∀ p' x' q', es = p' ++ x' :: q' → p.length < p'.length → x'.f1 = -1 → sumI stp p' < n))) := by
  intro suf
  induction suf with
  | nil =>
    intro pre found lo hi he hf ht hh
    have hlen : ∀ p x q, es = p ++ x :: q → p.length < pre.length := by
      intro p x q h
      rw [List.append_nil] at he
      rw [← he, h]
      simp
    cases found with
    | false => exact .inl ⟨by simp [sweep], fun p x q h hx => hf rfl p x q h (hlen p x q h) hx⟩
    | true =>
      refine .inr ⟨lo, hi, by simp [sweep], ht rfl, ?_⟩
      rcases hh with hh | ⟨p, x, q, h1, h2, h3, h4, h5⟩
      · exact .inl (fun p x q h hx => hh p x q h (hlen p x q h) hx)
      · exact .inr ⟨p, x, q, h1, h2, h3, h4, fun p' x' q' h hl hx => h5 p' x' q' h hl (hlen p' x' q' h) hx⟩
  | cons x suf ih =>
    intro pre found lo hi he hf ht hh
    have hx := hE x (by rw [he]; simp)
    have hpre : sumI stp (pre ++ [x]) = sumI stp pre + x.f1 := by rw [sumI_append]; simp [sumI, stp]
    have he' : es = (pre ++ [x]) ++ suf := by rw [he]; simp
    have huniq : ∀ p y q, es = p ++ y :: q → p.length < (pre ++ [x]).length → ¬ p.length < pre.length → p = pre ∧ y = x := by
      intro p y q h h1 h2
      have hl : p.length = pre.length := by simp at h1; omega
      rw [he] at h
      have h3 := List.append_inj h hl.symm
      obtain ⟨h4, h5⟩ := h3
      injection h5 with h5 h6
      exact ⟨h4.symm, h5.symm⟩
    simp only [sweep]
    rw [← hpre]
    have hh' : (∀ p y q, es = p ++ y :: q → p.length < (pre ++ [x]).length → y.f1 = -1 → sumI stp p < n) ∨ (∃ p y q, es = p ++ y :: q ∧ y.f1 = -1 ∧ (if x.f1 < 0 ∧ n ≤ sumI stp pre then x.f0 else hi) = y.f0 ∧ n ≤ sumI stp p ∧ ∀ p' x' q', es = p' ++ x' :: q' → p.length < p'.length → p'.length < (pre ++ [x]).length → x'.f1 = -1 → sumI stp p' < n) := by
      by_cases hc : x.f1 < 0 ∧ n ≤ sumI stp pre
      · rw [if_pos hc]
        refine .inr ⟨pre, x, suf, he, by omega, rfl, hc.2, fun p' x' q' h h1 h2 _ => ?_⟩
        simp at h2
        omega
      · rw [if_neg hc]
        rcases hh with hh | ⟨p, y, q, h1, h2, h3, h4, h5⟩
        · refine .inl (fun p y q h h1 h2 => ?_)
          by_cases hl : p.length < pre.length
          · exact hh p y q h hl h2
          · obtain ⟨rfl, rfl⟩ := huniq p y q h h1 hl
            omega
        · refine .inr ⟨p, y, q, h1, h2, h3, h4, fun p' x' q' h hl hl2 hx' => ?_⟩
          by_cases hl3 : p'.length < pre.length
          · exact h5 p' x' q' h hl hl3 hx'
          · obtain ⟨rfl, rfl⟩ := huniq p' x' q' h hl2 hl3
            omega
    by_cases hc : 0 < x.f1 ∧ n ≤ sumI stp (pre ++ [x]) ∧ found = false
    · rw [if_pos hc]
      obtain ⟨hc1, hc2, rfl⟩ := hc
      refine ih (pre ++ [x]) true x.f0 _ he' (fun h => by cases h) (fun _ => ⟨pre, x, suf, he, by omega, rfl, by rw [hpre] at hc2; omega, fun p' x' q' h hl hx' => hf rfl p' x' q' h hl hx'⟩) hh'
    · rw [if_neg hc]
      refine ih (pre ++ [x]) found lo _ he' (fun h p y q hp hl hy => ?_) (fun h => ht h) hh'
      by_cases hl2 : p.length < pre.length
      · exact hf h p y q hp hl2 hy
      · obtain ⟨rfl, rfl⟩ := huniq p y q hp hl hl2
        rw [hpre] at hc
        have : ¬ n ≤ sumI stp p + y.f1 := fun hle => hc ⟨by omega, hle, h⟩
        omega

/-- What a hull is: n spans are enough. -/
def IsHull (l : List S25) (n : Int) (r : Int × Int × Int) : Prop :=
  (r = (0, 0, 60) ∧ ∀ s ∈ l, (cnt l s.f0 : Int) < n) ∨
  (∃ a b, r = (a, b, 0) ∧ (∃ s ∈ l, s.f0 = a ∧ n ≤ (cnt l a : Int)) ∧ (∀ s ∈ l, n ≤ (cnt l s.f0 : Int) → a ≤ s.f0) ∧ (∃ s ∈ l, s.f1 = b ∧ n ≤ (cnt l b : Int)) ∧ (∀ s ∈ l, n ≤ (cnt l s.f1 : Int) → s.f1 ≤ b))
theorem IsHull.unique {l : List S25} {n : Int} {r r' : Int × Int × Int} (h : IsHull l n r) (h' : IsHull l n r') : r = r' := by
  rcases h with ⟨rfl, h⟩ | ⟨a, b, rfl, ⟨s, hs, hsa, hsn⟩, h2, ⟨u, hu, hub, hun⟩, h4⟩ <;> rcases h' with ⟨rfl, h'⟩ | ⟨a', b', rfl, ⟨s', hs', hsa', hsn'⟩, h2', ⟨u', hu', hub', hun'⟩, h4'⟩
  · rfl
  · have := h s' hs'
    rw [hsa'] at this
    omega
  · have := h' s hs
    rw [hsa] at this
    omega
  · have e1 := h2 s' hs' (by rw [hsa']; exact hsn')
    have e2 := h2' s hs (by rw [hsa]; exact hsn)
    have e3 := h4 u' hu' (by rw [hub']; exact hun')
    have e4 := h4' u hu (by rw [hub]; exact hun)
    have ea : a = a' := by omega
    have eb : b = b' := by omega
    rw [ea, eb]

theorem mem_eds {l : List S25} {x : S49} : x ∈ eds l ↔ ∃ s ∈ l, x = ⟨s.f0, 1⟩ ∨ x = ⟨s.f1, -1⟩ := by
  simp only [eds, List.mem_flatMap]
  constructor
  · rintro ⟨s, hs, hx⟩
    simp at hx
    exact ⟨s, hs, hx⟩
  · rintro ⟨s, hs, hx⟩
    exact ⟨s, hs, by simp; exact hx⟩

/-- Where a time is held enough, some end is, too. -/
theorem end_enough {l : List S25} {n : Int} (hn : 1 ≤ n) {t : Int} (h : n ≤ (cnt l t : Int)) : ∃ s ∈ l, t ≤ s.f1 ∧ s.f0 ≤ t ∧ n ≤ (cnt l s.f1 : Int) := by
  have hex : ∃ s, s ∈ l.filter (fun s => holds s t) := by
    have h2 : 0 < (l.filter (fun s => holds s t)).length := by
      rw [← List.countP_eq_length_filter]
      unfold cnt at h
      omega
    cases hf : l.filter (fun s => holds s t) with
    | nil => rw [hf] at h2; simp at h2
    | cons s r => exact ⟨s, List.mem_cons_self ..⟩
  have hmin : ∀ (L : List S25), (∃ s, s ∈ L) → ∃ s ∈ L, ∀ u ∈ L, s.f1 ≤ u.f1 := by
    intro L
    induction L with
    | nil => rintro ⟨s, hs⟩; simp at hs
    | cons a L ih =>
      intro _
      cases L with
      | nil => exact ⟨a, List.mem_cons_self .., fun u hu => by simp at hu; subst hu; exact Int.le_refl _⟩
      | cons b L =>
        obtain ⟨s, hs, hm⟩ := ih ⟨b, List.mem_cons_self ..⟩
        by_cases hab : a.f1 ≤ s.f1
        · exact ⟨a, List.mem_cons_self .., fun u hu => by
            rcases List.mem_cons.1 hu with rfl | hu
            · exact Int.le_refl _
            · exact Int.le_trans hab (hm u hu)⟩
        · exact ⟨s, List.mem_cons_of_mem _ hs, fun u hu => by
            rcases List.mem_cons.1 hu with rfl | hu
            · omega
            · exact hm u hu⟩
  obtain ⟨s, hs, hm⟩ := hmin _ hex
  rw [List.mem_filter] at hs
  obtain ⟨hsl, hst⟩ := hs
  have hst := holds_iff.1 hst
  refine ⟨s, hsl, hst.2, hst.1, Int.le_trans h ?_⟩
  have : cnt l t ≤ cnt l s.f1 := by
    unfold cnt
    refine List.countP_mono_left (fun u hu hut => ?_)
    have hh := holds_iff.1 hut
    have := hm u (List.mem_filter.2 ⟨hu, hut⟩)
    exact holds_iff.2 ⟨by omega, this⟩
  omega
/-- .. and some beginning. -/
theorem begin_enough {l : List S25} {n : Int} (hn : 1 ≤ n) {t : Int} (h : n ≤ (cnt l t : Int)) : ∃ s ∈ l, s.f0 ≤ t ∧ t ≤ s.f1 ∧ n ≤ (cnt l s.f0 : Int) := by
  have hex : ∃ s, s ∈ l.filter (fun s => holds s t) := by
    have h2 : 0 < (l.filter (fun s => holds s t)).length := by
      rw [← List.countP_eq_length_filter]
      unfold cnt at h
      omega
    cases hf : l.filter (fun s => holds s t) with
    | nil => rw [hf] at h2; simp at h2
    | cons s r => exact ⟨s, List.mem_cons_self ..⟩
  have hmax : ∀ (L : List S25), (∃ s, s ∈ L) → ∃ s ∈ L, ∀ u ∈ L, u.f0 ≤ s.f0 := by
    intro L
    induction L with
    | nil => rintro ⟨s, hs⟩; simp at hs
    | cons a L ih =>
      intro _
      cases L with
      | nil => exact ⟨a, List.mem_cons_self .., fun u hu => by simp at hu; subst hu; exact Int.le_refl _⟩
      | cons b L =>
        obtain ⟨s, hs, hm⟩ := ih ⟨b, List.mem_cons_self ..⟩
        by_cases hab : s.f0 ≤ a.f0
        · exact ⟨a, List.mem_cons_self .., fun u hu => by
            rcases List.mem_cons.1 hu with rfl | hu
            · exact Int.le_refl _
            · exact Int.le_trans (hm u hu) hab⟩
        · exact ⟨s, List.mem_cons_of_mem _ hs, fun u hu => by
            rcases List.mem_cons.1 hu with rfl | hu
            · omega
            · exact hm u hu⟩
  obtain ⟨s, hs, hm⟩ := hmax _ hex
  rw [List.mem_filter] at hs
  obtain ⟨hsl, hst⟩ := hs
  have hst := holds_iff.1 hst
  refine ⟨s, hsl, hst.1, hst.2, Int.le_trans h ?_⟩
  have : cnt l t ≤ cnt l s.f0 := by
    unfold cnt
    refine List.countP_mono_left (fun u hu hut => ?_)
    have hh := holds_iff.1 hut
    have := hm u (List.mem_filter.2 ⟨hu, hut⟩)
    exact holds_iff.2 ⟨this, by omega⟩
  omega

/-- The sweep finds the hull. -/
theorem sweep_hull (l : List S25) (h : ∀ s ∈ l, s.f0 ≤ s.f1) (n : Int) (hn : 1 ≤ n) : IsHull l n (sweep n (sortE (eds l)) 0 false 0 0) := by
  have hs := sortE_sorted (eds l)
  have hE : isE (sortE (eds l)) := fun x hx => eds_step l x ((sortE_perm _).mem_iff.1 hx)
  have hc : ∀ t, sumI (adds t) (sortE (eds l)) = (cnt l t : Int) := fun t => by rw [cnt_adds l t h]; exact sumI_perm _ (sortE_perm _)
  have hb : ∀ s ∈ l, ∃ x ∈ sortE (eds l), x.f1 = 1 ∧ x.f0 = s.f0 := fun s hsl => ⟨⟨s.f0, 1⟩, (sortE_perm _).mem_iff.2 (mem_eds.2 ⟨s, hsl, .inl rfl⟩), rfl, rfl⟩
  have he : ∀ s ∈ l, ∃ x ∈ sortE (eds l), x.f1 = -1 ∧ x.f0 = s.f1 := fun s hsl => ⟨⟨s.f1, -1⟩, (sortE_perm _).mem_iff.2 (mem_eds.2 ⟨s, hsl, .inr rfl⟩), rfl, rfl⟩
  have hb' : ∀ x ∈ sortE (eds l), x.f1 = 1 → ∃ s ∈ l, s.f0 = x.f0 := fun x hx h1 => by
    obtain ⟨s, hsl, rfl | rfl⟩ := mem_eds.1 ((sortE_perm _).mem_iff.1 hx)
    · exact ⟨s, hsl, rfl⟩
    · simp at h1
  have he' : ∀ x ∈ sortE (eds l), x.f1 = -1 → ∃ s ∈ l, s.f1 = x.f0 := fun x hx h1 => by
    obtain ⟨s, hsl, rfl | rfl⟩ := mem_eds.1 ((sortE_perm _).mem_iff.1 hx)
    · simp at h1
    · exact ⟨s, hsl, rfl⟩
  generalize sortE (eds l) = es at *
  have ht := sweep_tells n hn es hE es [] false 0 0 rfl (fun _ p x q _ hl => by simp at hl) (fun h => by cases h) (.inl (fun p x q _ hl => by simp at hl))
  simp only [sumI] at ht
  rcases ht with ⟨h1, h2⟩ | ⟨a, b, h1, ⟨p, x, q, hp, hx, hxa, hxn, hxf⟩, hbb⟩
  · refine .inl ⟨h1, fun s hsl => ?_⟩
    obtain ⟨p, x, q, hp, hx, hxt, hsum⟩ := begin_eq hs hE (hb s hsl)
    have := h2 p x q hp hx
    rw [hc] at hsum
    omega
  · have hxm : x ∈ es := by rw [hp]; simp
    have hacnt : n ≤ (cnt l a : Int) := by
      have := begin_le hs hE hp hx
      rw [hc, ← hxa] at this
      omega
    refine .inr ⟨a, b, h1, ?_, ?_, ?_⟩
    · obtain ⟨s, hsl, hsx⟩ := hb' x hxm hx
      exact ⟨s, hsl, by rw [hsx, hxa], hacnt⟩
    · intro s hsl hsn
      obtain ⟨p', x', q', hp', hx', hxt', hsum'⟩ := begin_eq hs hE (hb s hsl)
      rw [hc] at hsum'
      rcases Nat.lt_trichotomy p'.length p.length with hl | hl | hl
      · have := hxf p' x' q' hp' hl hx'
        omega
      · have h3 := List.append_inj (hp.symm.trans hp') hl.symm
        obtain ⟨_, h5⟩ := h3
        injection h5 with h5 _
        rw [hxa, h5, hxt']
        exact Int.le_refl _
      · -- x stands ahead of x'
        obtain ⟨hpa, _⟩ := split_sorted hs hp'
        have hmem : x ∈ p' := by
          have h3 : es[p.length]? = some x := by rw [hp]; simp
          rw [hp', List.getElem?_append_left hl] at h3
          exact List.mem_of_getElem? h3
        have := hpa x hmem
        unfold ahead at this
        omega
    · obtain ⟨s0, hs0, hs0a, hs0b, hs0n⟩ := end_enough hn hacnt
      obtain ⟨p0, x0, q0, hp0, hx0, hxt0, hsum0⟩ := end_eq hs hE (he s0 hs0)
      rw [hc] at hsum0
      rcases hbb with hbb | ⟨p1, x1, q1, hp1, hx1, hx1b, hx1n, hx1f⟩
      · have := hbb p0 x0 q0 hp0 hx0
        omega
      · have hx1m : x1 ∈ es := by rw [hp1]; simp
        have hbcnt : n ≤ (cnt l b : Int) := by
          have := end_le hs hE hp1 hx1
          rw [hc, ← hx1b] at this
          omega
        refine ⟨?_, ?_⟩
        · obtain ⟨s, hsl, hsx⟩ := he' x1 hx1m hx1
          exact ⟨s, hsl, by rw [hsx, hx1b], hbcnt⟩
        · intro s hsl hsn
          obtain ⟨p', x', q', hp', hx', hxt', hsum'⟩ := end_eq hs hE (he s hsl)
          rw [hc] at hsum'
          rcases Nat.lt_trichotomy p1.length p'.length with hl | hl | hl
          · have := hx1f p' x' q' hp' hl hx'
            omega
          · have h3 := List.append_inj (hp1.symm.trans hp') hl
            obtain ⟨_, h5⟩ := h3
            injection h5 with h5 _
            rw [hx1b, h5, hxt']
            exact Int.le_refl _
          · obtain ⟨hpa, _⟩ := split_sorted hs hp1
            have hmem : x' ∈ p1 := by
              have h3 : es[p'.length]? = some x' := by rw [hp']; simp
              rw [hp1, List.getElem?_append_left hl] at h3
              exact List.mem_of_getElem? h3
            have := hpa x' hmem
            unfold ahead at this
            omega



def liesB (x : S25) (a b : Int) : Bool := decide (x.f1 < a) || decide (b < x.f0)
def liars (a b : Int) : List S25 → Nat → List Int
  | [], _ => []
  | x :: xs, i => (if liesB x a b = true then [(i : Int)] else []) ++ liars a b xs (i + 1)

theorem liars_l0 (l : List S25) (a b : Int) (hl : l.length ≤ 32) : ∀ (d i : Nat) (acc : List Int), i + d = l.length → acc.length ≤ i → Ev (fun k => hull_Liars.l0 k acc l (l.length : Int) (i : Int) a b) (acc ++ liars a b (l.drop i) i, 0) := by
  intro d
  induction d with
  | zero =>
    intro i acc hi ha
    refine Ev.step (f := fun _ => some (acc, 0)) (fun k => ?_) ?_
    · simp only [hull_Liars.l0]
      rw [if_neg (by omega)]
    · rw [List.drop_eq_nil_of_le (by omega)]
      simp only [liars, List.append_nil]
      exact Ev.now _
  | succ d ih =>
    intro i acc hi ha
    have hlt : i < l.length := by omega
    refine Ev.step (f := fun k => hull_Liars.l0 k (acc ++ (if liesB l[i] a b = true then [(i : Int)] else [])) l (l.length : Int) ((i + 1 : Nat) : Int) a b) (fun k => ?_) ?_
    · simp only [hull_Liars.l0]
      rw [if_pos (by omega), if_pos (by omega), if_pos (by omega), rd25 hlt, wrapS (by omega)]
      by_cases h1 : l[i].f1 < a
      · rw [if_pos h1, if_pos (by omega)]
        simp [liesB, h1]
      · rw [if_neg h1]
        by_cases h2 : b < l[i].f0
        · rw [if_pos h2, if_pos (by omega)]
          simp [liesB, h2]
        · rw [if_neg (show ¬ l[i].f0 > b from h2)]
          simp [liesB, h1, h2]
    · have := ih (i + 1) (acc ++ (if liesB l[i] a b = true then [(i : Int)] else [])) (by omega) (by
        rw [List.length_append]
        split <;> simp <;> omega)
      rw [drop_cons hlt]
      simp only [liars]
      rw [← List.append_assoc]
      exact this

def liarsR (l : List S25) (s : S25) : List Int × Int := if okL l = true ∧ okS s = true then (liars s.f0 s.f1 l 0, 0) else ([], 3)

theorem liars_ev (l : List S25) (s : S25) : Ev (fun k => hull_Liars.f k l s.f0 s.f1) (liarsR l s) := by
  unfold hull_Liars.f liarsR
  refine Ev.bind (check_ev l) ?_
  simp only [check1_eq, Option.bind_some]
  have hs : okS ⟨s.f0, s.f1⟩ = okS s := rfl
  rw [hs]
  by_cases h : okL l = true <;> by_cases h2 : okS s = true
  · simp only [h, h2, if_true, and_self]
    rw [show mx 0 0 = 0 from rfl]
    simp only [if_true]
    have := liars_l0 l s.f0 s.f1 (okL_iff.1 h).1 l.length 0 [] (by omega) (by simp)
    simpa using this
  · simp only [h, h2, if_true, if_false, Bool.false_eq_true, and_false]
    rw [show mx 0 3 = 3 from rfl]
    exact Ev.now _
  · simp only [h, h2, if_true, if_false, Bool.false_eq_true, false_and]
    rw [show mx 3 0 = 3 from rfl]
    exact Ev.now _
  · simp only [h, h2, if_false, Bool.false_eq_true, and_self]
    rw [show mx 3 3 = 3 from rfl]
    exact Ev.now _

/-- The call whose answer the document fixes. -/
def three : List S25 := [⟨0, 10⟩, ⟨5, 15⟩, ⟨100, 101⟩]
theorem three_hull : hullR three 1 = (5, 10, 0) := by
  have h1 : okL three = true := by decide
  unfold hullR
  rw [if_pos h1, if_neg (by decide), if_neg (by decide)]
  refine (sweep_hull three (by decide) ((three.length : Int) - 1) (by decide)).unique (.inr ⟨5, 10, rfl, ⟨⟨5, 15⟩, by simp [three], rfl, by decide⟩, by decide, ⟨⟨0, 10⟩, by simp [three], rfl, by decide⟩, by decide⟩)
theorem awake_ev : Ev (fun k => sundiallaw15_awake.f k) true := by
  unfold sundiallaw15_awake.f
  simp only [Option.bind_some]
  refine Ev.bind (a := (5, 10, 0)) (by have := hull_ev three 1 (by decide); rw [three_hull] at this; exact this) ?_
  refine Ev.bind (a := (2, 0)) (by have := held_ev three 7; rw [show heldR three 7 = (2, 0) from by decide] at this; exact this) ?_
  refine Ev.bind (a := ([2], 0)) (by have := liars_ev three ⟨5, 10⟩; rw [show liarsR three ⟨5, 10⟩ = ([2], 0) from by decide] at this; exact this) ?_
  exact Ev.congr (fun k => by simp [rd]) (Ev.now true)

end Go.Proofs.Ytopeelklnjbdoaa.H
