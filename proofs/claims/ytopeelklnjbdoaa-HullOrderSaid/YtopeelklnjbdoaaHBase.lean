/- The hull's functions in plain Lean: what each comes to, whatever the number of rounds. -/
import Derived.Test.YtopeelklnjbdoaaQx8
namespace Go.Proofs.Ytopeelklnjbdoaa.H
open Go.RowKit Go.Proofs.Ytopeelklnjbdoaa.Q Go.Proofs.YtopeelklnjbdoaaW.PrintWords Go.Proofs.YtopeelklnjbdoaaW.PrintLast

def okT (t : Int) : Bool := decide (-2305843009213693952 ≤ t) && decide (t ≤ 2305843009213693952)
def okS (s : S25) : Bool := okT s.f0 && okT s.f1 && decide (s.f0 ≤ s.f1)
def okL (l : List S25) : Bool := decide (l.length ≤ 32) && l.all okS
def holds (s : S25) (t : Int) : Bool := decide (s.f0 ≤ t) && decide (t ≤ s.f1)
def cnt (l : List S25) (t : Int) : Nat := l.countP (fun s => holds s t)

theorem okT_iff {t : Int} : okT t = true ↔ -2305843009213693952 ≤ t ∧ t ≤ 2305843009213693952 := by simp [okT]
theorem okS_iff {s : S25} : okS s = true ↔ (-2305843009213693952 ≤ s.f0 ∧ s.f0 ≤ 2305843009213693952) ∧ (-2305843009213693952 ≤ s.f1 ∧ s.f1 ≤ 2305843009213693952) ∧ s.f0 ≤ s.f1 := by
  simp [okS, okT, and_assoc]
theorem okL_iff {l : List S25} : okL l = true ↔ l.length ≤ 32 ∧ ∀ s ∈ l, okS s = true := by simp [okL]
theorem holds_iff {s : S25} {t : Int} : holds s t = true ↔ s.f0 ≤ t ∧ t ≤ s.f1 := by simp [holds]

theorem rd25 {l : List S25} {i : Nat} (h : i < l.length) : rd_T25 l (i : Int) = l[i] := by simp [rd_T25, h]
theorem rd49 {l : List S49} {i : Nat} (h : i < l.length) : rd_T49 l (i : Int) = l[i] := by simp [rd_T49, h]
theorem wrapS {i : Nat} (h : i < 4611686018427387904) : wrap64 ((i : Int) + 1) = ((i + 1 : Nat) : Int) := by unfold wrap64; omega
theorem wrap_id {x : Int} (h : -9223372036854775808 ≤ x) (h2 : x ≤ 9223372036854775807) : wrap64 x = x := by unfold wrap64; omega

theorem is_eq (t : Int) : fix_is.f t = some (okT t) := by
  unfold fix_is.f okT
  by_cases h : -2305843009213693952 ≤ t
  · rw [if_pos h]; simp [h]
  · rw [if_neg h]; simp [h]
theorem isR_eq (t : Int) : sundialref01_Is.f t = some (okT t) := by
  unfold sundialref01_Is.f okT
  by_cases h : -2305843009213693952 ≤ t
  · rw [if_pos h]; simp [h]
  · rw [if_neg h]; simp [h]
theorem check1_eq (a b : Int) : fix_Check.f a b = some (if okS ⟨a, b⟩ = true then 0 else 3) := by
  unfold fix_Check.f
  simp only [is_eq, Option.bind_some]
  simp only [okS]
  by_cases h1 : okT a = true <;> by_cases h2 : okT b = true <;> by_cases h3 : a ≤ b <;> simp [h1, h2, h3] <;> omega
theorem checkR_eq (a b : Int) : sundialref01_Check.f a b = some (if okS ⟨a, b⟩ = true then 0 else 3) := by
  unfold sundialref01_Check.f
  simp only [isR_eq, Option.bind_some]
  simp only [okS]
  by_cases h1 : okT a = true <;> by_cases h2 : okT b = true <;> by_cases h3 : a ≤ b <;> simp [h1, h2, h3] <;> omega

theorem drop_cons {α : Type} {l : List α} {i : Nat} (h : i < l.length) : l.drop i = l[i] :: l.drop (i + 1) := List.drop_eq_getElem_cons h

theorem check_l0 (l : List S25) (hl : l.length ≤ 32) : ∀ (d i : Nat), i + d = l.length → Ev (fun k => hull_check.l0 k l (l.length : Int) (i : Int)) (if (l.drop i).all okS = true then 0 else 3) := by
  intro d
  induction d with
  | zero =>
    intro i hi
    refine Ev.step (f := fun _ => some 0) (fun k => ?_) ?_
    · simp only [hull_check.l0]
      rw [if_neg (by omega)]
    · rw [List.drop_eq_nil_of_le (by omega)]
      exact Ev.now 0
  | succ d ih =>
    intro i hi
    have hlt : i < l.length := by omega
    refine Ev.step (f := fun k => if okS l[i] = true then hull_check.l0 k l (l.length : Int) ((i + 1 : Nat) : Int) else some 3) (fun k => ?_) ?_
    · simp only [hull_check.l0]
      rw [if_pos (by omega), if_pos (by omega), if_pos (by omega), rd25 hlt, check1_eq, wrapS (by omega)]
      simp only [Option.bind_some]
      by_cases h : okS l[i] = true <;> simp [h]
    · rw [drop_cons hlt]
      by_cases h : okS l[i] = true
      · simp only [h, if_true, List.all_cons, Bool.true_and]
        exact ih (i + 1) (by omega)
      · simp only [Bool.not_eq_true] at h
        simp only [h, List.all_cons, Bool.false_and, if_false, Bool.false_eq_true]
        exact Ev.now 3

theorem check_ev (l : List S25) : Ev (fun k => hull_check.f k l) (if okL l = true then 0 else 3) := by
  unfold hull_check.f
  by_cases h : l.length ≤ 32
  · refine Ev.congr (f := fun k => hull_check.l0 k l (l.length : Int) ((0 : Nat) : Int)) (fun k => by rw [if_neg (by omega)]; rfl) ?_
    have := check_l0 l h l.length 0 (by omega)
    simpa [okL, h] using this
  · refine Ev.congr (f := fun _ => some 3) (fun k => by rw [if_pos (by omega)]) ?_
    have : okL l = false := by simp [okL, h]
    rw [this]
    exact Ev.now 3

theorem checkRef_l0 (l : List S25) (hm : l.length ≤ 1000000000000000) : ∀ (d i : Nat), i + d = l.length → Ev (fun k => sundialref15_check.l0 k l (i : Int)) ((l.drop i).all okS && decide (l.length ≤ 32)) := by
  intro d
  induction d with
  | zero =>
    intro i hi
    refine Ev.step (f := fun _ => some (decide (l.length ≤ 32))) (fun k => ?_) ?_
    · simp only [sundialref15_check.l0]
      rw [if_neg (by omega)]
      congr 1
      rw [Bool.eq_iff_iff, decide_eq_true_eq, decide_eq_true_eq]
      omega
    · rw [List.drop_eq_nil_of_le (by omega)]
      simp only [List.all_nil, Bool.true_and]
      exact Ev.now _
  | succ d ih =>
    intro i hi
    have hlt : i < l.length := by omega
    refine Ev.step (f := fun k => if okS l[i] = true then sundialref15_check.l0 k l ((i + 1 : Nat) : Int) else some false) (fun k => ?_) ?_
    · simp only [sundialref15_check.l0]
      rw [if_pos (by omega), if_pos (by omega), rd25 hlt, checkR_eq, wrapS (by omega)]
      simp only [Option.bind_some]
      by_cases h : okS l[i] = true <;> simp [h]
    · rw [drop_cons hlt]
      by_cases h : okS l[i] = true
      · simp only [h, if_true, List.all_cons, Bool.true_and]
        exact ih (i + 1) (by omega)
      · simp only [Bool.not_eq_true] at h
        simp only [h, List.all_cons, Bool.false_and, if_false, Bool.false_eq_true]
        exact Ev.now false

theorem checkRef_ev (l : List S25) (hm : l.length ≤ 1000000000000000) : Ev (fun k => sundialref15_check.f k l) (okL l) := by
  have := checkRef_l0 l hm l.length 0 (by omega)
  simp only [List.drop_zero] at this
  rw [show okL l = (l.all okS && decide (l.length ≤ 32)) from by simp [okL, Bool.and_comm]]
  exact this

theorem cnt_le (l : List S25) (t : Int) : cnt l t ≤ l.length := List.countP_le_length
theorem cnt_cons (s : S25) (l : List S25) (t : Int) : cnt (s :: l) t = (if holds s t = true then 1 else 0) + cnt l t := by
  unfold cnt
  rw [List.countP_cons]
  omega

theorem held_l0 (l : List S25) (t : Int) (hl : l.length ≤ 32) : ∀ (d i n : Nat), i + d = l.length → n ≤ 32 → n ≤ i → Ev (fun k => hull_Held.l0 k t (n : Int) l (l.length : Int) (i : Int)) (((n + cnt (l.drop i) t : Nat) : Int), 0) := by
  intro d
  induction d with
  | zero =>
    intro i n hi hn hni
    refine Ev.step (f := fun _ => some ((n : Int), 0)) (fun k => ?_) ?_
    · simp only [hull_Held.l0]
      rw [if_neg (by omega)]
    · rw [List.drop_eq_nil_of_le (by omega)]
      exact Ev.now _
  | succ d ih =>
    intro i n hi hn hni
    have hlt : i < l.length := by omega
    refine Ev.step (f := fun k => hull_Held.l0 k t (((n + (if holds l[i] t = true then 1 else 0)) : Nat) : Int) l (l.length : Int) ((i + 1 : Nat) : Int)) (fun k => ?_) ?_
    · simp only [hull_Held.l0]
      rw [if_pos (by omega), if_pos (by omega), if_pos (by omega), rd25 hlt, wrapS (by omega), wrapS (by omega)]
      by_cases h1 : l[i].f0 ≤ t <;> by_cases h2 : t ≤ l[i].f1 <;> simp [h1, h2, holds]
    · have hle : (if holds l[i] t = true then 1 else 0) ≤ 1 := by split <;> omega
      have := ih (i + 1) (n + (if holds l[i] t = true then 1 else 0)) (by omega) (by omega) (by omega)
      rw [drop_cons hlt, cnt_cons]
      rw [Nat.add_assoc] at this
      exact this

theorem sum0 (t : Int) (h : okT t = true) : fix_Sum.f t 0 = some (t, 0) := by
  have hb := okT_iff.1 h
  unfold fix_Sum.f
  simp only [is_eq, Option.bind_some, h, if_true, show okT 0 = true from by decide, fix_bound.f, Int.add_zero]
  rw [wrap_id (by omega) (by omega)]
  rw [show mx t (-2305843009213693952) = t from by unfold mx; rw [if_neg (by omega)], show mn t 2305843009213693952 = t from by unfold mn; rw [if_neg (by omega)]]
theorem sum0_no (t : Int) (h : ¬ okT t = true) : fix_Sum.f t 0 = some (0, 2) := by
  unfold fix_Sum.f
  simp only [is_eq, Option.bind_some]
  simp [h]

def heldR (l : List S25) (t : Int) : Int × Int := if okL l = true then if okT t = true then ((cnt l t : Int), 0) else (0, 2) else (0, 3)

theorem held_ev (l : List S25) (t : Int) : Ev (fun k => hull_Held.f k l t) (heldR l t) := by
  unfold hull_Held.f heldR
  refine Ev.bind (check_ev l) ?_
  by_cases h : okL l = true
  · simp only [h, if_true]
    by_cases ht : okT t = true
    · simp only [ht, if_true, sum0 t ht, Option.bind_some]
      have := held_l0 l t (okL_iff.1 h).1 l.length 0 0 (by omega) (by omega) (by omega)
      simpa using this
    · simp only [ht, sum0_no t ht, Option.bind_some, if_false, Bool.false_eq_true]
      exact Ev.now _
  · simp only [h, if_false, Bool.false_eq_true]
    exact Ev.now _

theorem count_l0 (l : List S25) (t : Int) (hl : l.length ≤ 32) : ∀ (d i n : Nat), i + d = l.length → n ≤ 32 → n ≤ i → Ev (fun k => sundialref15_count.l0 k l t (n : Int) (i : Int)) ((n + cnt (l.drop i) t : Nat) : Int) := by
  intro d
  induction d with
  | zero =>
    intro i n hi hn hni
    refine Ev.step (f := fun _ => some (n : Int)) (fun k => ?_) ?_
    · simp only [sundialref15_count.l0]
      rw [if_neg (by omega)]
    · rw [List.drop_eq_nil_of_le (by omega)]
      exact Ev.now _
  | succ d ih =>
    intro i n hi hn hni
    have hlt : i < l.length := by omega
    refine Ev.step (f := fun k => sundialref15_count.l0 k l t (((n + (if holds l[i] t = true then 1 else 0)) : Nat) : Int) ((i + 1 : Nat) : Int)) (fun k => ?_) ?_
    · simp only [sundialref15_count.l0]
      rw [if_pos (by omega), if_pos (by omega), rd25 hlt, wrapS (by omega), wrapS (by omega)]
      unfold sundialref01_Has.f
      by_cases h1 : l[i].f0 ≤ t <;> by_cases h2 : t ≤ l[i].f1 <;> simp [h1, h2, holds]
    · have hle : (if holds l[i] t = true then 1 else 0) ≤ 1 := by split <;> omega
      have := ih (i + 1) (n + (if holds l[i] t = true then 1 else 0)) (by omega) (by omega) (by omega)
      rw [drop_cons hlt, cnt_cons]
      rw [Nat.add_assoc] at this
      exact this
theorem count_ev (l : List S25) (t : Int) (hl : l.length ≤ 32) : Ev (fun k => sundialref15_count.f k l t) (cnt l t : Int) := by
  have := count_l0 l t hl l.length 0 0 (by omega) (by omega) (by omega)
  simpa [sundialref15_count.f] using this

theorem heldRef_ev (l : List S25) (t : Int) (hm : l.length ≤ 1000000000000000) : Ev (fun k => sundialref15_Held.f k l t) (heldR l t) := by
  unfold sundialref15_Held.f heldR
  refine Ev.bind (checkRef_ev l hm) ?_
  by_cases h : okL l = true
  · simp only [h, if_true, isR_eq, Option.bind_some]
    by_cases ht : okT t = true
    · simp only [ht, if_true]
      refine Ev.bind (count_ev l t (okL_iff.1 h).1) ?_
      exact Ev.now _
    · simp only [ht, if_false, Bool.false_eq_true]
      exact Ev.now _
  · simp only [h, if_false, Bool.false_eq_true]
    exact Ev.now _
end Go.Proofs.Ytopeelklnjbdoaa.H
