-- Written by wip/print2.py (the kit's printer, with functions given by hand).
import Derived.Test.YtgpnmhlpcjmehaaDoorRx0
import Derived.Test.YtgpnmhlpcjmehaaDoorRx3
import Derived.Test.YtgpnmhlpcjmehaaDoorRx4
import Derived.Test.YtgpnmhlpcjmehaaDoorRx6
import Derived.Test.YtgpnmhlpcjmehaaDoorRx7
namespace Go.Proofs.YtgpnmhlpcjmehaaDoor.R
open Go.RowKit Go.Proofs.YtgpnmhlpcjmehaaDoorW.PrintWords Go.Proofs.YtgpnmhlpcjmehaaDoorW.PrintLast Go.Proofs.YtgpnmhlpcjmehaaDoorW.PrintMore
attribute [local go_sem] max2_int min2_int max_two min_two max_three min_three max_four min_four   -- for this text's walks alone
open Go.Shelf Go.Proofs.YtgpnmhlpcjmehaaDoorG
set_option linter.unusedVariables false
set_option linter.unusedSimpArgs false

/-! ### sundialref03_digits: function 35 -/
def sundialref03_digits.l0 : Nat → Int → Int → ByteArray → Int → Option (ByteArray)
  | 0, _, _, _, _ => none
  | k + 1, x0, x1, x5, x6 => if x6 < x1 then ((some (([(wrap64 (48 + (Int.tmod x0 10))) % 256] : List Int) : List Int)).bind fun y133 => (if (strOfNums y133).size + x5.size ≤ 9223372036854775807 then (sundialref03_digits.l0 k (wrap64 (Int.tdiv x0 10)) x1 ((strOfNums y133) ++ x5) (wrap64 (x6 + 1))) else (none))) else (some x5)
def sundialref03_digits.f (k : Nat) (a0 : Int) (a1 : Int) : Option (ByteArray) := sundialref03_digits.l0 k a0 a1 (⟨#[]⟩ : ByteArray) 0
theorem sundialref03_digits.mono_l : ∀ k, (∀ y0 y1 y2 y3, LeO (sundialref03_digits.l0 k y0 y1 y2 y3) (sundialref03_digits.l0 (k + 1) y0 y1 y2 y3))
  | 0 => fun _ _ _ _ r h => by simp [sundialref03_digits.l0] at h
  | k + 1 => by
    have ih0 := sundialref03_digits.mono_l k
    · intro y0 y1 y2 y3
      unfold sundialref03_digits.l0
      repeat' first
      | (with_reducible exact ih0 _ _ _ _)
      | (with_reducible exact LeO.refl _)
      | (with_reducible exact LeO.none _)
      | (with_reducible refine LeO.ite ?_ ?_)
      | (with_reducible refine LeO.bind ?_ (fun _ => ?_))
      | exact ih0 _ _ _ _
      | exact LeO.none _
      | refine LeO.ite ?_ ?_
      | refine LeO.bind ?_ (fun _ => ?_)
theorem sundialref03_digits.mono : ∀ a0 a1 k, LeO (sundialref03_digits.f k a0 a1) (sundialref03_digits.f (k + 1) a0 a1) := by
  intro a0 a1 k
  have ih0 := sundialref03_digits.mono_l k
  unfold sundialref03_digits.f
  repeat' first
      | (with_reducible exact ih0 _ _ _ _)
      | (with_reducible exact LeO.refl _)
      | (with_reducible exact LeO.none _)
      | (with_reducible refine LeO.ite ?_ ?_)
      | (with_reducible refine LeO.bind ?_ (fun _ => ?_))
      | exact ih0 _ _ _ _
      | exact LeO.none _
      | refine LeO.ite ?_ ?_
      | refine LeO.bind ?_ (fun _ => ?_)
set_option maxHeartbeats 8000000 in
set_option maxRecDepth 100000 in
theorem sundialref03_digits.calls (k : Nat) (a0 : Int) (a1 : Int) (r : ByteArray) (w : World) (h : sundialref03_digits.f k a0 a1 = some r) :
    Calls Tryd.prog 35 #[.int .i64 a0, .int .i64 a1] w fun e w' => e = .returned (.string r) ∧ Below w.heap.size w w' := by
  have HB := Aside0.mk (Below.refl w.heap.size w)
  have H : (sundialref03_digits.l0 k a0 a1 (⟨#[]⟩ : ByteArray) 0) = some r := h
  clear h
  have H' := Aside0.mk H
  clear H
  go_enter Tryd.func35, Tryd.ntmps35
  go_wp2
  go_loopg [0, 5, 6] k (fun kq v0 v5 v6 w' => ∃ (x0_1 : Int) (x5_1 : ByteArray) (x6_1 : Int), v0 = .int .i64 x0_1 ∧ v5 = .string x5_1 ∧ v6 = .int .i64 x6_1 ∧ Aside0 (sundialref03_digits.l0 kq x0_1 a1 x5_1 x6_1 = some r) ∧ Aside0 (kq ≤ k) ∧ Aside0 (Below w.heap.size w w'))
  case atStart => exact ⟨(a0), ((⟨#[]⟩ : ByteArray)), (0), (by first | rfl | (simp; done) | (simp [*]; done)), (by first | rfl | (simp; done) | (simp [*]; done)), (by first | rfl | (simp; done) | (simp [*]; done)), H', ⟨Nat.le_refl _⟩, ⟨by repeat (first | (with_reducible first | exact HB.out | apply below_alloc | apply pw_below_drewN | apply below_drew1) | exact HB.out)⟩⟩
  case round =>
    clear H'
    try clear p2
    obtain ⟨x0_1, x5_1, x6_1, rfl, rfl, rfl, HA, HK1, HB⟩ := hrel
    cases gk with
    | zero => exact absurd HA.out (by simp [sundialref03_digits.l0])
    | succ k1 =>
      have H := HA.out
      clear HA
      simp only [sundialref03_digits.l0] at H
      by_cases c3 : x6_1 < a1
      · rw [if_pos c3] at H
        have c3b0 : decide (x6_1 < a1) = true := decide_eq_true c3
        clear c3
        obtain ⟨y133, hy133⟩ : ∃ y_ : List Int, y_ = (([(wrap64 (48 + (Int.tmod x0_1 10))) % 256] : List Int)) := ⟨_, rfl⟩
        replace H : (if (strOfNums y133).size + x5_1.size ≤ 9223372036854775807 then (sundialref03_digits.l0 k1 (wrap64 (Int.tdiv x0_1 10)) a1 ((strOfNums y133) ++ x5_1) (wrap64 (x6_1 + 1))) else (none)) = some r := by first | (rw [hy133]; with_reducible exact H) | (have H2_ := (Option.bind_some _ _).symm.trans H; rw [hy133]; with_reducible exact H2_) | (have H2_ := (Option.bind_some _ _).symm.trans H; with_reducible exact H2_) | with_reducible exact H | (rw [hy133]; exact H) | exact H
        have Ny133 := Aside0.mk hy133
        clear hy133
        by_cases c4 : (strOfNums y133).size + x5_1.size ≤ 9223372036854775807
        · rw [if_pos c4] at H
          have c4b0 := eq_true c4
          have c4b1 : decide ((strOfNums y133).size + x5_1.size ≤ 9223372036854775807) = true := decide_eq_true c4
          try have c4b2 : (9223372036854775807 < (strOfNums y133).size + x5_1.size) = False := eq_false (Nat.not_lt.2 c4)
          have H' := Aside0.mk H
          clear H
          go_wp2_with (first | ((with_reducible refine gate_dst (N := 16) rfl ?_); refine Kd.R_lit (Kd.int .u8) _ 5 ?hg (N := 16) ?hd (xs := ([(wrap64 (48 + (Int.tmod x0_1 10))) % 256] : List Int)) (inner := [.int .u8 ((wrap64 (48 + (Int.tmod x0_1 10))) % 256)]) (ok := fun _ => True) (okp := fun _ => True) ?hr ?hp (fun _ hk => hk) trivial (Below.refl _ _) (Nat.le_refl _) (by simp) ?_; (case hd => rfl); (case hg => rfl); (case hr => first | (go_simp; done) | (go_simp; rfl)); (case hp => exact (Reps.one (show Kd.M (Kd.int .u8) _ _ _ ((wrap64 (48 + (Int.tmod x0_1 10))) % 256) [.int .u8 ((wrap64 (48 + (Int.tmod x0_1 10))) % 256)] from rfl) (Reps.none _ _))); intro v134 w5 ho6 hb hg_ hnew_; clear hg_ hnew_; (first | rw [← Ny133.out] at ho6 | (simp only [Int.reduceToNat] at ho6; rw [← Ny133.out] at ho6)); have n0_ := Aside0.mk (Kd.R_lower ho6 (below_size (by repeat (first | (with_reducible first | exact HB.out | apply below_alloc | apply pw_below_drewN | apply below_drew1) | exact HB.out)))); have n1_ := Aside0.mk (below_step (by repeat (first | (with_reducible first | exact HB.out | apply below_alloc | apply pw_below_drewN | apply below_drew1) | exact HB.out)) hb); clear HB; have HO135 := n0_; have HB := n1_; clear n0_ n1_; clear hb ho6; have hcv7 := own_string (P := Tryd.prog) Tryd.underlying67 Tryd.underlying5 Tryd.underlying9 (Kd.own_of_R HO135.out)))
          go_roundg k1
          case measure => have := HK1.out; omega
          case rel => exact ⟨(wrap64 (Int.tdiv x0_1 10)), ((strOfNums y133) ++ x5_1), (wrap64 (x6_1 + 1)), (by first | rfl | (simp; done) | (simp [*]; done)), (by first | rfl | (simp; done) | (simp [*]; done)), (by first | rfl | (simp; done) | (simp [*]; done)), H', ⟨by have := HK1.out; omega⟩, ⟨by repeat (first | (with_reducible first | exact HB.out | apply below_alloc | apply pw_below_drewN | apply below_drew1) | exact HB.out)⟩⟩
        · rw [if_neg c4] at H
          exact absurd H (by simp)
      · rw [if_neg c3] at H
        have c3b0 : decide (x6_1 < a1) = false := decide_eq_false c3
        clear c3
        obtain rfl := Option.some.inj H
        go_wp2
        go_ret
        exact ⟨by first | rfl | (simp [errW_none, errW_some] <;> rfl) | (simp [*, errW_none, errW_some] <;> rfl), by repeat (first | (with_reducible first | exact HB.out | apply below_alloc | apply pw_below_drewN | apply below_drew1) | exact HB.out)⟩

/-! ### sundialref03_Text: function 20 -/
def sundialref03_Text.f (k : Nat) (a0_0 : Int) (a0_1 : Int) (a0_2 : Int) : Option (ByteArray × Int) := (sundialref03_Is.f k a0_0 a0_1 a0_2).bind fun t137 => (if t137 = true then ((sundialref03_digits.f k a0_0 4).bind fun t138 => (if t138.size + 1 ≤ 9223372036854775807 then ((sundialref03_digits.f k a0_1 2).bind fun t139 => (if (t138 ++ (⟨#[45]⟩ : ByteArray)).size + t139.size ≤ 9223372036854775807 then (if ((t138 ++ (⟨#[45]⟩ : ByteArray)) ++ t139).size + 1 ≤ 9223372036854775807 then ((sundialref03_digits.f k a0_2 2).bind fun t140 => (if (((t138 ++ (⟨#[45]⟩ : ByteArray)) ++ t139) ++ (⟨#[45]⟩ : ByteArray)).size + t140.size ≤ 9223372036854775807 then (some ((((t138 ++ (⟨#[45]⟩ : ByteArray)) ++ t139) ++ (⟨#[45]⟩ : ByteArray)) ++ t140, 0)) else (none))) else (none)) else (none))) else (none))) else (some ((⟨#[]⟩ : ByteArray), 3)))
theorem sundialref03_Text.mono : ∀ a0 a1 a2 k, LeO (sundialref03_Text.f k a0 a1 a2) (sundialref03_Text.f (k + 1) a0 a1 a2) := by
  intro a0 a1 a2 k
  unfold sundialref03_Text.f
  repeat' first
      | (with_reducible exact sundialref03_Is.mono _ _ _ _)
      | (with_reducible exact sundialref03_digits.mono _ _ _)
      | (with_reducible exact LeO.refl _)
      | (with_reducible exact LeO.none _)
      | (with_reducible refine LeO.ite ?_ ?_)
      | (with_reducible refine LeO.bind ?_ (fun _ => ?_))
      | exact sundialref03_Is.mono _ _ _ _
      | exact sundialref03_digits.mono _ _ _
      | exact LeO.none _
      | refine LeO.ite ?_ ?_
      | refine LeO.bind ?_ (fun _ => ?_)
def sundialref03_Text.T3 : Bool × List (List Nat × List Nat) := (true, [([], []), ([0], [0]), ([1], [1]), ([2], [2]), ([], []), ([4], [4]), ([5, 2], [5]), ([3, 6], [3, 6]), ([7], [7]), ([], []), ([9], [9]), ([10, 6], [10]), ([8, 11], [8, 11]), ([12, 11, 0, 1, 2, 3, 4, 5, 6, 7, 8, 9, 10, 11, 12], [12]), ([13, 0, 1, 2, 3, 4, 5, 6, 7, 8, 9, 10, 11, 12, 13], [])])
def sundialref03_Text.B3 : List Nat := [0, 1, 3, 7, 0, 16, 55, 127, 255, 0, 512, 1655, 4095, 8191, 16383]
theorem sundialref03_Text.tab3 : rtab .any (opsOf Tryd.f20 3) = sundialref03_Text.T3 := by kernel_rfl
theorem sundialref03_Text.bits3 : waitsOk sundialref03_Text.T3.2 sundialref03_Text.B3 = true := by kernel_rfl
set_option maxHeartbeats 8000000 in
set_option maxRecDepth 100000 in
theorem sundialref03_Text.calls (k : Nat) (a0_0 : Int) (a0_1 : Int) (a0_2 : Int) (r1 : ByteArray) (r2 : Int) (w : World) (h : sundialref03_Text.f k a0_0 a0_1 a0_2 = some (r1, r2)) :
    Calls Tryd.prog 20 #[.agg #[.int .i64 a0_0, .int .i64 a0_1, .int .i64 a0_2]] w fun e w' => e = .returned (.tuple #[.string r1, .int .i64 r2]) ∧ Below w.heap.size w w' := by
  have hu23 := Tryd.underlying23
  have HB := Aside0.mk (Below.refl w.heap.size w)
  have H : ((sundialref03_Is.f k a0_0 a0_1 a0_2).bind fun t137 => (if t137 = true then ((sundialref03_digits.f k a0_0 4).bind fun t138 => (if t138.size + 1 ≤ 9223372036854775807 then ((sundialref03_digits.f k a0_1 2).bind fun t139 => (if (t138 ++ (⟨#[45]⟩ : ByteArray)).size + t139.size ≤ 9223372036854775807 then (if ((t138 ++ (⟨#[45]⟩ : ByteArray)) ++ t139).size + 1 ≤ 9223372036854775807 then ((sundialref03_digits.f k a0_2 2).bind fun t140 => (if (((t138 ++ (⟨#[45]⟩ : ByteArray)) ++ t139) ++ (⟨#[45]⟩ : ByteArray)).size + t140.size ≤ 9223372036854775807 then (some ((((t138 ++ (⟨#[45]⟩ : ByteArray)) ++ t139) ++ (⟨#[45]⟩ : ByteArray)) ++ t140, 0)) else (none))) else (none)) else (none))) else (none))) else (some ((⟨#[]⟩ : ByteArray), 3)))) = some (r1, r2) := h
  clear h
  replace H := Option.bind_eq_some_iff.mp H
  obtain ⟨t137, A20, H⟩ := H
  replace H : (if t137 = true then ((sundialref03_digits.f k a0_0 4).bind fun t138 => (if t138.size + 1 ≤ 9223372036854775807 then ((sundialref03_digits.f k a0_1 2).bind fun t139 => (if (t138 ++ (⟨#[45]⟩ : ByteArray)).size + t139.size ≤ 9223372036854775807 then (if ((t138 ++ (⟨#[45]⟩ : ByteArray)) ++ t139).size + 1 ≤ 9223372036854775807 then ((sundialref03_digits.f k a0_2 2).bind fun t140 => (if (((t138 ++ (⟨#[45]⟩ : ByteArray)) ++ t139) ++ (⟨#[45]⟩ : ByteArray)).size + t140.size ≤ 9223372036854775807 then (some ((((t138 ++ (⟨#[45]⟩ : ByteArray)) ++ t139) ++ (⟨#[45]⟩ : ByteArray)) ++ t140, 0)) else (none))) else (none)) else (none))) else (none))) else (some ((⟨#[]⟩ : ByteArray), 3))) = some (r1, r2) := H
  have A2 := Aside0.mk A20
  clear A20
  by_cases c3 : t137 = true
  · subst c3
    have H1 : ((sundialref03_digits.f k a0_0 4).bind fun t138 => (if t138.size + 1 ≤ 9223372036854775807 then ((sundialref03_digits.f k a0_1 2).bind fun t139 => (if (t138 ++ (⟨#[45]⟩ : ByteArray)).size + t139.size ≤ 9223372036854775807 then (if ((t138 ++ (⟨#[45]⟩ : ByteArray)) ++ t139).size + 1 ≤ 9223372036854775807 then ((sundialref03_digits.f k a0_2 2).bind fun t140 => (if (((t138 ++ (⟨#[45]⟩ : ByteArray)) ++ t139) ++ (⟨#[45]⟩ : ByteArray)).size + t140.size ≤ 9223372036854775807 then (some ((((t138 ++ (⟨#[45]⟩ : ByteArray)) ++ t139) ++ (⟨#[45]⟩ : ByteArray)) ++ t140, 0)) else (none))) else (none)) else (none))) else (none))) = some (r1, r2) := by rw [if_pos rfl] at H; exact H
    clear H
    have H := H1
    clear H1
    replace H := Option.bind_eq_some_iff.mp H
    obtain ⟨t138, A40, H⟩ := H
    replace H : (if t138.size + 1 ≤ 9223372036854775807 then ((sundialref03_digits.f k a0_1 2).bind fun t139 => (if (t138 ++ (⟨#[45]⟩ : ByteArray)).size + t139.size ≤ 9223372036854775807 then (if ((t138 ++ (⟨#[45]⟩ : ByteArray)) ++ t139).size + 1 ≤ 9223372036854775807 then ((sundialref03_digits.f k a0_2 2).bind fun t140 => (if (((t138 ++ (⟨#[45]⟩ : ByteArray)) ++ t139) ++ (⟨#[45]⟩ : ByteArray)).size + t140.size ≤ 9223372036854775807 then (some ((((t138 ++ (⟨#[45]⟩ : ByteArray)) ++ t139) ++ (⟨#[45]⟩ : ByteArray)) ++ t140, 0)) else (none))) else (none)) else (none))) else (none)) = some (r1, r2) := H
    have A4 := Aside0.mk A40
    clear A40
    by_cases c5 : t138.size + 1 ≤ 9223372036854775807
    · rw [if_pos c5] at H
      have c5b0 := eq_true c5
      have c5b1 : decide (t138.size + 1 ≤ 9223372036854775807) = true := decide_eq_true c5
      try have c5b2 : (9223372036854775807 < t138.size + 1) = False := eq_false (Nat.not_lt.2 c5)
      replace H := Option.bind_eq_some_iff.mp H
      obtain ⟨t139, A60, H⟩ := H
      replace H : (if (t138 ++ (⟨#[45]⟩ : ByteArray)).size + t139.size ≤ 9223372036854775807 then (if ((t138 ++ (⟨#[45]⟩ : ByteArray)) ++ t139).size + 1 ≤ 9223372036854775807 then ((sundialref03_digits.f k a0_2 2).bind fun t140 => (if (((t138 ++ (⟨#[45]⟩ : ByteArray)) ++ t139) ++ (⟨#[45]⟩ : ByteArray)).size + t140.size ≤ 9223372036854775807 then (some ((((t138 ++ (⟨#[45]⟩ : ByteArray)) ++ t139) ++ (⟨#[45]⟩ : ByteArray)) ++ t140, 0)) else (none))) else (none)) else (none)) = some (r1, r2) := H
      have A6 := Aside0.mk A60
      clear A60
      by_cases c7 : (t138 ++ (⟨#[45]⟩ : ByteArray)).size + t139.size ≤ 9223372036854775807
      · rw [if_pos c7] at H
        have c7b0 := eq_true c7
        have c7b1 : decide ((t138 ++ (⟨#[45]⟩ : ByteArray)).size + t139.size ≤ 9223372036854775807) = true := decide_eq_true c7
        try have c7b2 : (9223372036854775807 < (t138 ++ (⟨#[45]⟩ : ByteArray)).size + t139.size) = False := eq_false (Nat.not_lt.2 c7)
        try have c7b3 : (9223372036854775807 < t138.size + 1 + t139.size) = False := eq_false (by have z := c7; simp only [ByteArray.size_append] at z; exact Nat.not_lt.2 z)
        by_cases c8 : ((t138 ++ (⟨#[45]⟩ : ByteArray)) ++ t139).size + 1 ≤ 9223372036854775807
        · rw [if_pos c8] at H
          have c8b0 := eq_true c8
          have c8b1 : decide (((t138 ++ (⟨#[45]⟩ : ByteArray)) ++ t139).size + 1 ≤ 9223372036854775807) = true := decide_eq_true c8
          try have c8b2 : (9223372036854775807 < ((t138 ++ (⟨#[45]⟩ : ByteArray)) ++ t139).size + 1) = False := eq_false (Nat.not_lt.2 c8)
          try have c8b3 : (9223372036854775807 < t138.size + 1 + t139.size + 1) = False := eq_false (by have z := c8; simp only [ByteArray.size_append] at z; exact Nat.not_lt.2 z)
          replace H := Option.bind_eq_some_iff.mp H
          obtain ⟨t140, A90, H⟩ := H
          replace H : (if (((t138 ++ (⟨#[45]⟩ : ByteArray)) ++ t139) ++ (⟨#[45]⟩ : ByteArray)).size + t140.size ≤ 9223372036854775807 then (some ((((t138 ++ (⟨#[45]⟩ : ByteArray)) ++ t139) ++ (⟨#[45]⟩ : ByteArray)) ++ t140, 0)) else (none)) = some (r1, r2) := H
          have A9 := Aside0.mk A90
          clear A90
          by_cases c10 : (((t138 ++ (⟨#[45]⟩ : ByteArray)) ++ t139) ++ (⟨#[45]⟩ : ByteArray)).size + t140.size ≤ 9223372036854775807
          · rw [if_pos c10] at H
            have c10b0 := eq_true c10
            have c10b1 : decide ((((t138 ++ (⟨#[45]⟩ : ByteArray)) ++ t139) ++ (⟨#[45]⟩ : ByteArray)).size + t140.size ≤ 9223372036854775807) = true := decide_eq_true c10
            try have c10b2 : (9223372036854775807 < (((t138 ++ (⟨#[45]⟩ : ByteArray)) ++ t139) ++ (⟨#[45]⟩ : ByteArray)).size + t140.size) = False := eq_false (Nat.not_lt.2 c10)
            try have c10b3 : (9223372036854775807 < t138.size + 1 + t139.size + 1 + t140.size) = False := eq_false (by have z := c10; simp only [ByteArray.size_append] at z; exact Nat.not_lt.2 z)
            simp only [Option.some.injEq, Prod.mk.injEq] at H
            obtain ⟨rfl, rfl⟩ := H
            go_enter Tryd.func20, Tryd.ntmps20
            try go_wp2_with (first | ((with_reducible refine gate_dst (N := 1) rfl ?_); refine box_event ?hg (N := 1) ?hd (cs := #[.int .i64 a0_0, .int .i64 a0_1, .int .i64 a0_2]) (t := 23) ?hr ?_; (case hd => rfl); (case hg => rfl); (case hr => first | (go_simp; done) | (go_simp; rfl)); intro gb136 hg w11 hbox hb; have n0_ := Aside0.mk (below_step (by repeat (first | (with_reducible first | exact HB.out | apply below_alloc | apply pw_below_drewN | apply below_drew1) | exact HB.out)) hb); have n1_ := Aside0.mk (hbox); have n2_ := Aside0.mk ((by rw [hg]; exact (below_size (by repeat (first | (with_reducible first | exact HB.out | apply below_alloc | apply pw_below_drewN | apply below_drew1) | exact HB.out))) : w.heap.size ≤ gb136)); have n3_ := Aside0.mk ((by rw [hg]; exact (below_size (by repeat (first | (with_reducible first | exact HB.out | apply below_alloc | apply pw_below_drewN | apply below_drew1) | exact HB.out))) : w.heap.size ≤ gb136)); clear HB; have HB := n0_; have BK136 := n1_; have GW136 := n2_; have GE136 := n3_; clear n0_ n1_ n2_ n3_; clear hb hbox hg; have hcz12_0 : w11.cell? ⟨gb136, 0, none⟩ = some (.int .i64 a0_0) := (blk_cell BK136.out 0).trans rfl; have hcz12_1 : w11.cell? ⟨gb136, 1, none⟩ = some (.int .i64 a0_1) := (blk_cell BK136.out 1).trans rfl; have hcz12_2 : w11.cell? ⟨gb136, 2, none⟩ = some (.int .i64 a0_2) := (blk_cell BK136.out 2).trans rfl; have hfz12_0 := blk_frozen BK136.out 0; have hfz12_1 := blk_frozen BK136.out 1; have hfz12_2 := blk_frozen BK136.out 2) | ((with_reducible refine gate_callee (f := 30) rfl ?_); refine goesL_ (some 5) rfl rfl Tryd.func30 (by kernel_rfl) rfl #[.agg #[.int .i64 a0_0, .int .i64 a0_1, .int .i64 a0_2]] rfl (by (try simp only [List.map_toArray, List.map_cons, List.map_nil]); first | done | rfl | (simp only [List.length_drop, List.length_take]; rfl)) ?_; (with_reducible refine (sundialref03_Is.calls k a0_0 a0_1 a0_2 true _ A2.out).mono ?_); rintro e w13 ⟨rfl, hb⟩; refine ⟨_, rfl, ?_⟩; have n0_ := Aside0.mk (blk_below (g := gb136) (o := .cells #[.int .i64 a0_0, .int .i64 a0_1, .int .i64 a0_2] 23 (0, 0)) (by (with_reducible repeat (first | refine blk_drewN ?_ _ | refine blk_drew ?_ | refine blk_alloc ?_ _)); exact BK136.out) hb); have n1_ := Aside0.mk (below_step (by repeat (first | (with_reducible first | exact HB.out | apply below_alloc | apply pw_below_drewN | apply below_drew1 | refine below_set ?_ GE136.out) | exact HB.out)) hb); clear BK136; clear HB; have BK136 := n0_; have HB := n1_; clear n0_ n1_; (try clear hb); (try clear hb2); (try clear hk); (try clear hi)))
            have n0_ := Aside0.mk (blk_drew BK136.out)
            have n1_ := Aside0.mk (below_drew1 HB.out)
            clear BK136
            clear HB
            have BK136 := n0_
            have HB := n1_
            clear n0_ n1_
            refine start_ (n := 15) (S := fun w' => w'.cell? ⟨gb136, 0, none⟩ = some (.int .i64 a0_0) ∧ w'.cell? ⟨gb136, 1, none⟩ = some (.int .i64 a0_1) ∧ w'.cell? ⟨gb136, 2, none⟩ = some (.int .i64 a0_2)) (ds := []) #[false, false, false, false, false, false, false, false, false, false, false, false, false, false, false] (by kernel_rfl) rfl rfl ⟨(blk_cell BK136.out 0).trans rfl, (blk_cell BK136.out 1).trans rfl, (blk_cell BK136.out 2).trans rfl⟩ (fun hHeld => ?_); refine with_tabW sundialref03_Text.tab3 sundialref03_Text.bits3 (fun HT_ HW_ => ?_)
            generalize w13.drew = w14 at BK136 HB hHeld ⊢
            refine pure_ (i := 0) (N := some 7) (v := ?_) (a' := ?_) #[true, false, false, false, false, false, false, false, false, false, false, false, false, false, false] rfl rfl (any_of HT_.out (by kernel_rfl)) (fun _ _ _ h => h) (Or.inl ⟨by rfl, ?_⟩) ?_ ?_
            rotate_left
            · intro w'
              go_simp
              with_reducible rfl
            rotate_left
            · simp only [Act.put, List.setIfInBounds_toArray, List.set_cons_zero, List.set_cons_succ, i64_w, i32_w]
              rfl
            refine pure_ (i := 4) (N := some 11) (v := ?_) (a' := ?_) #[true, false, false, false, true, false, false, false, false, false, false, false, false, false, false] rfl rfl (any_of HT_.out (by kernel_rfl)) (fun _ _ _ h => h) (Or.inl ⟨by rfl, ?_⟩) ?_ ?_
            rotate_left
            · intro w'
              go_simp
              with_reducible rfl
            rotate_left
            · simp only [Act.put, List.setIfInBounds_toArray, List.set_cons_zero, List.set_cons_succ, i64_w, i32_w]
              rfl
            refine pure_ (i := 9) (N := some 16) (v := ?_) (a' := ?_) #[true, false, false, false, true, false, false, false, false, true, false, false, false, false, false] rfl rfl (any_of HT_.out (by kernel_rfl)) (fun _ _ _ h => h) (Or.inl ⟨by rfl, ?_⟩) ?_ ?_
            rotate_left
            · intro w'
              go_simp
              with_reducible rfl
            rotate_left
            · simp only [Act.put, List.setIfInBounds_toArray, List.set_cons_zero, List.set_cons_succ, i64_w, i32_w]
              rfl
            refine take_ (i := 1) (N := some 8) (v := ?_) (a' := ?_) #[true, true, false, false, true, false, false, false, false, true, false, false, false, false, false] rfl rfl (take_ofW HT_.out HW_.out (by kernel_rfl)) (fun _ _ _ h => h) (Or.inl ⟨by rfl, ?_⟩) hHeld ?_ ?_
            rotate_left
            · rintro w' ⟨s0, s1, s2⟩
              go_simp
              with_reducible rfl
            rotate_left
            · simp only [Act.put, List.setIfInBounds_toArray, List.set_cons_zero, List.set_cons_succ, i64_w, i32_w]
              rfl
            refine take_ (i := 5) (N := some 12) (v := ?_) (a' := ?_) #[true, true, false, false, true, true, false, false, false, true, false, false, false, false, false] rfl rfl (take_ofW HT_.out HW_.out (by kernel_rfl)) (fun _ _ _ h => h) (Or.inl ⟨by rfl, ?_⟩) hHeld ?_ ?_
            rotate_left
            · rintro w' ⟨s0, s1, s2⟩
              go_simp
              with_reducible rfl
            rotate_left
            · simp only [Act.put, List.setIfInBounds_toArray, List.set_cons_zero, List.set_cons_succ, i64_w, i32_w]
              rfl
            refine take_ (i := 10) (N := some 17) (v := ?_) (a' := ?_) #[true, true, false, false, true, true, false, false, false, true, true, false, false, false, false] rfl rfl (take_ofW HT_.out HW_.out (by kernel_rfl)) (fun _ _ _ h => h) (Or.inl ⟨by rfl, ?_⟩) hHeld ?_ ?_
            rotate_left
            · rintro w' ⟨s0, s1, s2⟩
              go_simp
              with_reducible rfl
            rotate_left
            · simp only [Act.put, List.setIfInBounds_toArray, List.set_cons_zero, List.set_cons_succ, i64_w, i32_w]
              rfl
            refine one_ (i := 2) (N := some 9) #[true, true, true, false, true, true, false, false, false, true, true, false, false, false, false] rfl rfl (one_of HT_.out (by kernel_rfl)) (by decide) (fun K hK => ?_)
            refine goes_ Tryd.func35 (by kernel_rfl) rfl #[.int .i64 a0_0, .int .i64 4] (by rfl) rfl rfl (by (try simp only [List.map_toArray, List.map_cons, List.map_nil]); first | done | rfl | (simp only [List.length_drop, List.length_take]; rfl)) ?_
            with_reducible refine (sundialref03_digits.calls k a0_0 4 t138 _ A4.out).mono ?_
            rintro e w15 ⟨rfl, hb⟩
            refine ⟨_, rfl, ?_⟩
            have n0_ := Aside0.mk (blk_below (g := gb136) (o := .cells #[.int .i64 a0_0, .int .i64 a0_1, .int .i64 a0_2] 23 (0, 0)) (by (with_reducible repeat (first | refine blk_drewN ?_ _ | refine blk_drew ?_ | refine blk_alloc ?_ _)); exact BK136.out) hb)
            have n1_ := Aside0.mk (below_step (by repeat (first | (with_reducible first | exact HB.out | apply below_alloc | apply pw_below_drewN | apply below_drew1 | refine below_set ?_ GE136.out) | exact HB.out)) hb)
            clear BK136
            clear HB
            have BK136 := n0_
            have HB := n1_
            clear n0_ n1_
            (try clear hb)
            (try clear hb2)
            (try clear hk)
            (try clear hi)
            refine hK.out _ _ ⟨(blk_cell BK136.out 0).trans rfl, (blk_cell BK136.out 1).trans rfl, (blk_cell BK136.out 2).trans rfl⟩ (fun hHeld => ?_)
            clear hK K
            refine norm_ (a' := ?_) ?_ ?_
            rotate_left
            · show Act.put _ (some 9) _ = _
              simp only [Act.put, List.setIfInBounds_toArray, List.set_cons_zero, List.set_cons_succ, i64_w, i32_w]
              rfl
            refine pure_ (i := 3) (N := some 10) (v := ?_) (a' := ?_) #[true, true, true, true, true, true, false, false, false, true, true, false, false, false, false] rfl rfl (any_of HT_.out (by kernel_rfl)) (fun _ _ _ h => h) (Or.inl ⟨by rfl, ?_⟩) ?_ ?_
            rotate_left
            · intro w'
              go_simp
              with_reducible rfl
            rotate_left
            · simp only [Act.put, List.setIfInBounds_toArray, List.set_cons_zero, List.set_cons_succ, i64_w, i32_w]
              rfl
            refine one_ (i := 6) (N := some 13) #[true, true, true, true, true, true, true, false, false, true, true, false, false, false, false] rfl rfl (one_of HT_.out (by kernel_rfl)) (by decide) (fun K hK => ?_)
            refine goes_ Tryd.func35 (by kernel_rfl) rfl #[.int .i64 a0_1, .int .i64 2] (by rfl) rfl rfl (by (try simp only [List.map_toArray, List.map_cons, List.map_nil]); first | done | rfl | (simp only [List.length_drop, List.length_take]; rfl)) ?_
            with_reducible refine (sundialref03_digits.calls k a0_1 2 t139 _ A6.out).mono ?_
            rintro e w16 ⟨rfl, hb⟩
            refine ⟨_, rfl, ?_⟩
            have n0_ := Aside0.mk (blk_below (g := gb136) (o := .cells #[.int .i64 a0_0, .int .i64 a0_1, .int .i64 a0_2] 23 (0, 0)) (by (with_reducible repeat (first | refine blk_drewN ?_ _ | refine blk_drew ?_ | refine blk_alloc ?_ _)); exact BK136.out) hb)
            have n1_ := Aside0.mk (below_step (by repeat (first | (with_reducible first | exact HB.out | apply below_alloc | apply pw_below_drewN | apply below_drew1 | refine below_set ?_ GE136.out) | exact HB.out)) hb)
            clear BK136
            clear HB
            have BK136 := n0_
            have HB := n1_
            clear n0_ n1_
            (try clear hb)
            (try clear hb2)
            (try clear hk)
            (try clear hi)
            refine hK.out _ _ ⟨(blk_cell BK136.out 0).trans rfl, (blk_cell BK136.out 1).trans rfl, (blk_cell BK136.out 2).trans rfl⟩ (fun hHeld => ?_)
            clear hK K
            refine norm_ (a' := ?_) ?_ ?_
            rotate_left
            · show Act.put _ (some 13) _ = _
              simp only [Act.put, List.setIfInBounds_toArray, List.set_cons_zero, List.set_cons_succ, i64_w, i32_w]
              rfl
            refine pure_ (i := 7) (N := some 14) (v := ?_) (a' := ?_) #[true, true, true, true, true, true, true, true, false, true, true, false, false, false, false] rfl rfl (any_of HT_.out (by kernel_rfl)) (fun _ _ _ h => h) (Or.inl ⟨by rfl, ?_⟩) ?_ ?_
            rotate_left
            · intro w'
              go_simp
              with_reducible rfl
            rotate_left
            · simp only [Act.put, List.setIfInBounds_toArray, List.set_cons_zero, List.set_cons_succ, i64_w, i32_w]
              rfl
            refine pure_ (i := 8) (N := some 15) (v := ?_) (a' := ?_) #[true, true, true, true, true, true, true, true, true, true, true, false, false, false, false] rfl rfl (any_of HT_.out (by kernel_rfl)) (fun _ _ _ h => h) (Or.inl ⟨by rfl, ?_⟩) ?_ ?_
            rotate_left
            · intro w'
              go_simp
              with_reducible rfl
            rotate_left
            · simp only [Act.put, List.setIfInBounds_toArray, List.set_cons_zero, List.set_cons_succ, i64_w, i32_w]
              rfl
            refine one_ (i := 11) (N := some 18) #[true, true, true, true, true, true, true, true, true, true, true, true, false, false, false] rfl rfl (one_of HT_.out (by kernel_rfl)) (by decide) (fun K hK => ?_)
            refine goes_ Tryd.func35 (by kernel_rfl) rfl #[.int .i64 a0_2, .int .i64 2] (by rfl) rfl rfl (by (try simp only [List.map_toArray, List.map_cons, List.map_nil]); first | done | rfl | (simp only [List.length_drop, List.length_take]; rfl)) ?_
            with_reducible refine (sundialref03_digits.calls k a0_2 2 t140 _ A9.out).mono ?_
            rintro e w17 ⟨rfl, hb⟩
            refine ⟨_, rfl, ?_⟩
            have n0_ := Aside0.mk (blk_below (g := gb136) (o := .cells #[.int .i64 a0_0, .int .i64 a0_1, .int .i64 a0_2] 23 (0, 0)) (by (with_reducible repeat (first | refine blk_drewN ?_ _ | refine blk_drew ?_ | refine blk_alloc ?_ _)); exact BK136.out) hb)
            have n1_ := Aside0.mk (below_step (by repeat (first | (with_reducible first | exact HB.out | apply below_alloc | apply pw_below_drewN | apply below_drew1 | refine below_set ?_ GE136.out) | exact HB.out)) hb)
            clear BK136
            clear HB
            have BK136 := n0_
            have HB := n1_
            clear n0_ n1_
            (try clear hb)
            (try clear hb2)
            (try clear hk)
            (try clear hi)
            refine hK.out _ _ ⟨(blk_cell BK136.out 0).trans rfl, (blk_cell BK136.out 1).trans rfl, (blk_cell BK136.out 2).trans rfl⟩ (fun hHeld => ?_)
            clear hK K
            refine norm_ (a' := ?_) ?_ ?_
            rotate_left
            · show Act.put _ (some 18) _ = _
              simp only [Act.put, List.setIfInBounds_toArray, List.set_cons_zero, List.set_cons_succ, i64_w, i32_w]
              rfl
            refine pure_ (i := 12) (N := some 19) (v := ?_) (a' := ?_) #[true, true, true, true, true, true, true, true, true, true, true, true, true, false, false] rfl rfl (any_of HT_.out (by kernel_rfl)) (fun _ _ _ h => h) (Or.inl ⟨by rfl, ?_⟩) ?_ ?_
            rotate_left
            · intro w'
              go_simp
              with_reducible rfl
            rotate_left
            · simp only [Act.put, List.setIfInBounds_toArray, List.set_cons_zero, List.set_cons_succ, i64_w, i32_w]
              rfl
            refine pure_ (i := 13) (N := some 2) (v := ?_) (a' := ?_) #[true, true, true, true, true, true, true, true, true, true, true, true, true, true, false] rfl rfl (any_of HT_.out (by kernel_rfl)) (fun _ _ _ h => h) (Or.inl ⟨by rfl, ?_⟩) ?_ ?_
            rotate_left
            · intro w'
              go_simp
              with_reducible rfl
            rotate_left
            · simp only [Act.put, List.setIfInBounds_toArray, List.set_cons_zero, List.set_cons_succ, i64_w, i32_w]
              rfl
            refine pure_ (i := 14) (N := some 3) (v := ?_) (a' := ?_) #[true, true, true, true, true, true, true, true, true, true, true, true, true, true, true] rfl rfl (any_of HT_.out (by kernel_rfl)) (fun _ _ _ h => h) (Or.inl ⟨by rfl, ?_⟩) ?_ ?_
            rotate_left
            · intro w'
              go_simp
              with_reducible rfl
            rotate_left
            · simp only [Act.put, List.setIfInBounds_toArray, List.set_cons_zero, List.set_cons_succ, i64_w, i32_w]
              rfl
            refine done_ (done_of HT_.out (by kernel_rfl)) ?_
            try go_wp2
            go_ret2
            exact ⟨by first | rfl | (simp [errW_none, errW_some] <;> rfl) | (simp [*, errW_none, errW_some] <;> rfl), by repeat (first | (with_reducible first | exact HB.out | apply below_alloc | apply pw_below_drewN | apply below_drew1 | refine below_set ?_ GE136.out) | exact HB.out)⟩
          · rw [if_neg c10] at H
            exact absurd H (by simp)
        · rw [if_neg c8] at H
          exact absurd H (by simp)
      · rw [if_neg c7] at H
        exact absurd H (by simp)
    · rw [if_neg c5] at H
      exact absurd H (by simp)
  · replace c3 := Bool.eq_false_iff.mpr c3
    subst c3
    have H1 : (some ((⟨#[]⟩ : ByteArray), 3)) = some (r1, r2) := by rw [if_neg (show ¬ (false = true) by decide)] at H; exact H
    clear H
    have H := H1
    clear H1
    simp only [Option.some.injEq, Prod.mk.injEq] at H
    obtain ⟨rfl, rfl⟩ := H
    go_enter Tryd.func20, Tryd.ntmps20
    go_wp2_with (first | ((with_reducible refine gate_dst (N := 1) rfl ?_); refine box_event ?hg (N := 1) ?hd (cs := #[.int .i64 a0_0, .int .i64 a0_1, .int .i64 a0_2]) (t := 23) ?hr ?_; (case hd => rfl); (case hg => rfl); (case hr => first | (go_simp; done) | (go_simp; rfl)); intro gb136 hg w18 hbox hb; have n0_ := Aside0.mk (below_step (by repeat (first | (with_reducible first | exact HB.out | apply below_alloc | apply pw_below_drewN | apply below_drew1) | exact HB.out)) hb); have n1_ := Aside0.mk (hbox); have n2_ := Aside0.mk ((by rw [hg]; exact (below_size (by repeat (first | (with_reducible first | exact HB.out | apply below_alloc | apply pw_below_drewN | apply below_drew1) | exact HB.out))) : w.heap.size ≤ gb136)); have n3_ := Aside0.mk ((by rw [hg]; exact (below_size (by repeat (first | (with_reducible first | exact HB.out | apply below_alloc | apply pw_below_drewN | apply below_drew1) | exact HB.out))) : w.heap.size ≤ gb136)); clear HB; have HB := n0_; have BK136 := n1_; have GW136 := n2_; have GE136 := n3_; clear n0_ n1_ n2_ n3_; clear hb hbox hg; have hcz19_0 : w18.cell? ⟨gb136, 0, none⟩ = some (.int .i64 a0_0) := (blk_cell BK136.out 0).trans rfl; have hcz19_1 : w18.cell? ⟨gb136, 1, none⟩ = some (.int .i64 a0_1) := (blk_cell BK136.out 1).trans rfl; have hcz19_2 : w18.cell? ⟨gb136, 2, none⟩ = some (.int .i64 a0_2) := (blk_cell BK136.out 2).trans rfl; have hfz19_0 := blk_frozen BK136.out 0; have hfz19_1 := blk_frozen BK136.out 1; have hfz19_2 := blk_frozen BK136.out 2) | ((with_reducible refine gate_callee (f := 30) rfl ?_); refine goesL_ (some 5) rfl rfl Tryd.func30 (by kernel_rfl) rfl #[.agg #[.int .i64 a0_0, .int .i64 a0_1, .int .i64 a0_2]] rfl (by (try simp only [List.map_toArray, List.map_cons, List.map_nil]); first | done | rfl | (simp only [List.length_drop, List.length_take]; rfl)) ?_; (with_reducible refine (sundialref03_Is.calls k a0_0 a0_1 a0_2 false _ A2.out).mono ?_); rintro e w20 ⟨rfl, hb⟩; refine ⟨_, rfl, ?_⟩; have n0_ := Aside0.mk (blk_below (g := gb136) (o := .cells #[.int .i64 a0_0, .int .i64 a0_1, .int .i64 a0_2] 23 (0, 0)) (by (with_reducible repeat (first | refine blk_drewN ?_ _ | refine blk_drew ?_ | refine blk_alloc ?_ _)); exact BK136.out) hb); have n1_ := Aside0.mk (below_step (by repeat (first | (with_reducible first | exact HB.out | apply below_alloc | apply pw_below_drewN | apply below_drew1 | refine below_set ?_ GE136.out) | exact HB.out)) hb); clear BK136; clear HB; have BK136 := n0_; have HB := n1_; clear n0_ n1_; (try clear hb); (try clear hb2); (try clear hk); (try clear hi)))
    go_ret2
    exact ⟨by first | rfl | (simp [errW_none, errW_some] <;> rfl) | (simp [*, errW_none, errW_some] <;> rfl), by repeat (first | (with_reducible first | exact HB.out | apply below_alloc | apply pw_below_drewN | apply below_drew1 | refine below_set ?_ GE136.out) | exact HB.out)⟩

/-! ### civil_Parse: function 21 -/
/-- What the loop over a text's characters comes to: the three numbers, or none at a character that is no part of a date. -/
def prs (s : ByteArray) : Nat → Nat → Nat → Int → Int → Int → Option (Int × Int × Int)
  | 0, _, _, x, y, z => some (x, y, z)
  | f + 1, pos, a, x, y, z =>
    if pos < s.size then
      (if (Utf8.decode s pos).1 = 45 ∧ (pos = 4 ∨ pos = 7) then prs s f (pos + (Utf8.decode s pos).2) (a + 1) x y z
       else if 48 ≤ (Utf8.decode s pos).1 ∧ (Utf8.decode s pos).1 ≤ 57 ∧ pos ≠ 4 ∧ pos ≠ 7 ∧ a < 3 then
         (if a = 0 then prs s f (pos + (Utf8.decode s pos).2) a (wrap64 (wrap64 (10 * x) + (((Utf8.decode s pos).1 : Int) - 48))) y z
          else if a = 1 then prs s f (pos + (Utf8.decode s pos).2) a x (wrap64 (wrap64 (10 * y) + (((Utf8.decode s pos).1 : Int) - 48))) z
          else prs s f (pos + (Utf8.decode s pos).2) a x y (wrap64 (wrap64 (10 * z) + (((Utf8.decode s pos).1 : Int) - 48))))
       else none)
    else some (x, y, z)
def prsE (s : ByteArray) : Option (Int × Int × Int) := prs s s.size 0 0 0 0 0
def civil_Parse.f (a0 : ByteArray) : Option (Int × Int × Int × Int) :=
  if a0.size ≤ 140737488351232 then
    (match prsE a0 with
     | none => some (0, 0, 0, 4)
     | some (x, y, z) => if a0.size = 10 then ((civil_is.f x y z).bind fun b => if b = true then some (x, y, z, 0) else some (0, 0, 0, 4)) else some (0, 0, 0, 4))
  else none
theorem prs_end (s : ByteArray) (f pos a : Nat) (x y z : Int) (h : ¬ pos < s.size) : prs s f pos a x y z = some (x, y, z) := by
  cases f with
  | zero => rfl
  | succ f => simp only [prs]; rw [if_neg h]
theorem width1 (s : ByteArray) (pos : Nat) (h : pos < s.size) : 1 ≤ (Utf8.decode s pos).2 := by
  by_cases ha : (s[pos]'h).toNat < 128
  · rw [decode_ascii s pos h ha]; exact Nat.le_refl _
  · exact (decode_high s pos h (by omega)).2
theorem al0 (w : World) (a b c : Obj) : (((w.alloc a).alloc b).alloc c).heap[w.heap.size]? = some a := by
  show (((w.heap.push a).push b).push c)[w.heap.size]? = _
  rw [Array.getElem?_push, Array.getElem?_push, Array.getElem?_push]
  rw [if_neg (by simp; omega), if_neg (by simp), if_pos rfl]
theorem al1 (w : World) (a b c : Obj) : (((w.alloc a).alloc b).alloc c).heap[w.heap.size + 1]? = some b := by
  show (((w.heap.push a).push b).push c)[w.heap.size + 1]? = _
  rw [Array.getElem?_push, Array.getElem?_push]
  rw [if_neg (by simp), if_pos (by simp)]
theorem al2 (w : World) (a b c : Obj) : (((w.alloc a).alloc b).alloc c).heap[w.heap.size + 1 + 1]? = some c := by
  show (((w.heap.push a).push b).push c)[w.heap.size + 1 + 1]? = _
  rw [Array.getElem?_push]
  rw [if_pos (by simp)]
set_option maxRecDepth 1000000 in
set_option maxHeartbeats 4000000 in
theorem civil_Parse.calls (a0 : ByteArray) (r1 r2 r3 r4 : Int) (w : World) (h : civil_Parse.f a0 = some (r1, r2, r3, r4)) :
    Calls Tryd.prog 21 #[.string a0] w fun e w' => e = .returned (.tuple #[.agg #[.int .i64 r1, .int .i64 r2, .int .i64 r3], .int .i64 r4]) ∧ Below w.heap.size w w' := by
  unfold civil_Parse.f at h
  by_cases hs : a0.size ≤ 140737488351232
  rotate_left
  · rw [if_neg hs] at h; cases h
  rw [if_pos hs] at h
  have HH := Aside0.mk h
  clear h
  go_enter Tryd.func21, Tryd.ntmps21
  go_wp2
  go_loopw [5] (fun v wr => ∃ (pos fuel a : Nat) (x y z : Int), v = .int .i64 a ∧ wr.heap[w.heap.size + 1 + 1]? = some (.stringIter a0 pos) ∧ wr.heap[w.heap.size + 1]? = some (.cells #[.int .i64 x, .int .i64 y, .int .i64 z] 63 (0, 0)) ∧ wr.heap[w.heap.size]? = some (.cells #[.int .i64 0, .int .i64 0, .int .i64 0] 23 (0, 0)) ∧ Below w.heap.size w wr ∧ Hid (prs a0 fuel pos a x y z = prsE a0) ∧ a0.size ≤ pos + fuel ∧ a ≤ pos) (fun _ wr => a0.size - wr.iterPos (w.heap.size + 1 + 1))
  case atStart => exact ⟨0, a0.size, 0, 0, 0, 0, rfl, al2 _ _ _ _, al1 _ _ _ _, al0 _ _ _ _, ((((Below.refl _ _).alloc (Nat.le_refl _) _).alloc (by simp) _).alloc (by simp; omega) _), rfl, by omega, by omega⟩
  case round =>
    obtain ⟨pos, fuel, a, x, y, z, rfl, hit, hpt, hrs, hbw, HS, hb, hlen⟩ := hrel
    have hpos0 := iterPos_of hit
    by_cases hp : pos < a0.size
    · have hnx : ∀ ty, (Instr.next (.pointer (some ⟨w.heap.size + 1 + 1, 0, none⟩)) true ty).run Tryd.prog wr = _ := fun ty => Lib.run_next_any_at wr (w.heap.size + 1 + 1) a0 pos ty hit hp
      have hwd := width1 a0 pos hp
      obtain ⟨fuel, rfl⟩ : ∃ f', fuel = f' + 1 := ⟨fuel - 1, by omega⟩
      have hit2 := Lib.iterAt_heap wr (w.heap.size + 1 + 1) a0 pos (pos + (Utf8.decode a0 pos).2) hit
      have hbw2 := Lib.below_iterAt hbw (k := w.heap.size + 1 + 1) (by omega) a0 (pos + (Utf8.decode a0 pos).2)
      have hpt2 := (Lib.iterAt_other wr (w.heap.size + 1 + 1) (w.heap.size + 1) a0 (pos + (Utf8.decode a0 pos).2) (by omega)).trans hpt
      have hrs2 := (Lib.iterAt_other wr (w.heap.size + 1 + 1) (w.heap.size) a0 (pos + (Utf8.decode a0 pos).2) (by omega)).trans hrs
      obtain ⟨W1, hW1⟩ : ∃ W1, W1 = wr.iterAt (w.heap.size + 1 + 1) a0 (pos + (Utf8.decode a0 pos).2) := ⟨_, rfl⟩
      rw [← hW1] at hnx hit2 hbw2 hpt2 hrs2
      clear hW1 hit hbw hpt hrs
      have hdl := decode_le a0 pos
      have k0 : W1.cell? ⟨w.heap.size + 1, 0, none⟩ = some (.int .i64 x) := (blk_cell hpt2 0).trans rfl
      have k1 : W1.cell? ⟨w.heap.size + 1, 1, none⟩ = some (.int .i64 y) := (blk_cell hpt2 1).trans rfl
      have k2 : W1.cell? ⟨w.heap.size + 1, 2, none⟩ = some (.int .i64 z) := (blk_cell hpt2 2).trans rfl
      have kf0 := blk_frozen hpt2 0
      have kf1 := blk_frozen hpt2 1
      have kf2 := blk_frozen hpt2 2
      have n0 : W1.cell? ⟨w.heap.size, 0, none⟩ = some (.int .i64 0) := (blk_cell hrs2 0).trans rfl
      have n1 : W1.cell? ⟨w.heap.size, 1, none⟩ = some (.int .i64 0) := (blk_cell hrs2 1).trans rfl
      have n2 : W1.cell? ⟨w.heap.size, 2, none⟩ = some (.int .i64 0) := (blk_cell hrs2 2).trans rfl
      have nf0 := blk_frozen hrs2 0
      have nf1 := blk_frozen hrs2 1
      have nf2 := blk_frozen hrs2 2
      have HS' := HS.out
      clear HS
      simp only [prs] at HS'
      rw [if_pos hp] at HS'
      generalize (Utf8.decode a0 pos).1 = c at *
      generalize (Utf8.decode a0 pos).2 = wd at *
      by_cases hd : c = 45 ∧ (pos = 4 ∨ pos = 7)
      · rw [if_pos hd] at HS'
        have HS : Hid (prs a0 fuel (pos + wd) (a + 1) x y z = prsE a0) := HS'
        clear HS'
        obtain ⟨rfl, hd⟩ := hd
        rcases hd with rfl | rfl
        all_goals
          go_wp2
          go_roundw
          case rel => exact ⟨_, fuel, a + 1, x, y, z, by simp, hit2, hpt2, hrs2, hbw2, HS, by omega, by omega⟩
          case measure => rw [iterPos_of hit2, hpos0]; omega
      · rw [if_neg hd] at HS'
        by_cases hg : 48 ≤ c ∧ c ≤ 57 ∧ pos ≠ 4 ∧ pos ≠ 7 ∧ a < 3
        · rw [if_pos hg] at HS'
          obtain ⟨g1, g2, g3, g4, g5⟩ := hg
          have ha : a = 0 ∨ a = 1 ∨ a = 2 := by omega
          have q1 : (decide ((48 : Int) ≤ (c : Int))) = true := by simp; omega
          have q2 : (decide ((c : Int) ≤ (57 : Int))) = true := by simp; omega
          have q3 : ¬ ((pos : Int) = 4) := by omega
          have q4 : ¬ ((pos : Int) = 7) := by omega
          have q5 : ¬ ((c : Int) = 45) := by omega
          have b3 : ((pos : Int) != 4) = true := by simp; omega
          have b4 : ((pos : Int) != 7) = true := by simp; omega
          have b5 : ((c : Int) == 45) = false := by simp; omega
          rcases ha with rfl | rfl | rfl
          · have HS : Hid (prs a0 fuel (pos + wd) 0 (wrap64 (wrap64 (10 * x) + ((c : Int) - 48))) y z = prsE a0) := by rw [if_pos rfl] at HS'; exact HS'
            clear HS'
            go_wp2
            go_roundw
            case rel => exact ⟨_, fuel, 0, _, y, z, rfl, (Below.heap_setCell _ _ _ _ (by simp)).trans hit2, blk_put (cs := #[.int .i64 x, .int .i64 y, .int .i64 z]) hpt2 0 _ rfl, (Below.heap_setCell _ _ _ _ (by simp)).trans hrs2, hbw2.setCell (by simp) _, HS, by omega, by omega⟩
            case measure => rw [iterPos_of ((Below.heap_setCell _ _ _ _ (by simp)).trans hit2), hpos0]; omega
          · have HS : Hid (prs a0 fuel (pos + wd) 1 x (wrap64 (wrap64 (10 * y) + ((c : Int) - 48))) z = prsE a0) := by rw [if_neg (by decide), if_pos rfl] at HS'; exact HS'
            clear HS'
            go_wp2
            go_roundw
            case rel => exact ⟨_, fuel, 1, x, _, z, rfl, (Below.heap_setCell _ _ _ _ (by simp)).trans hit2, blk_put (cs := #[.int .i64 x, .int .i64 y, .int .i64 z]) hpt2 1 _ rfl, (Below.heap_setCell _ _ _ _ (by simp)).trans hrs2, hbw2.setCell (by simp) _, HS, by omega, by omega⟩
            case measure => rw [iterPos_of ((Below.heap_setCell _ _ _ _ (by simp)).trans hit2), hpos0]; omega
          · have HS : Hid (prs a0 fuel (pos + wd) 2 x y (wrap64 (wrap64 (10 * z) + ((c : Int) - 48))) = prsE a0) := by rw [if_neg (by decide), if_neg (by decide)] at HS'; exact HS'
            clear HS'
            go_wp2
            go_roundw
            case rel => exact ⟨_, fuel, 2, x, y, _, rfl, (Below.heap_setCell _ _ _ _ (by simp)).trans hit2, blk_put (cs := #[.int .i64 x, .int .i64 y, .int .i64 z]) hpt2 2 _ rfl, (Below.heap_setCell _ _ _ _ (by simp)).trans hrs2, hbw2.setCell (by simp) _, HS, by omega, by omega⟩
            case measure => rw [iterPos_of ((Below.heap_setCell _ _ _ _ (by simp)).trans hit2), hpos0]; omega
        · rw [if_neg hg] at HS'
          have hH := HH.out
          rw [← HS'] at hH
          clear HH HS'
          simp only [Option.some.injEq, Prod.mk.injEq] at hH
          obtain ⟨rfl, rfl, rfl, rfl⟩ := hH
          by_cases z1 : (c : Int) = 45 <;> by_cases z2 : (48 : Int) ≤ (c : Int) <;> by_cases z3 : (c : Int) ≤ 57 <;> by_cases z4 : (pos : Int) = 4 <;> by_cases z5 : (pos : Int) = 7 <;> by_cases z6 : (a : Int) < 3 <;> first
            | (exfalso; omega)
            | (have b1 : ((c : Int) == 45) = decide ((c : Int) = 45) := rfl
               have b4 : ((pos : Int) != 4) = !decide ((pos : Int) = 4) := rfl
               have b5 : ((pos : Int) != 7) = !decide ((pos : Int) = 7) := rfl
               have b6 : ((pos : Int) == 4) = decide ((pos : Int) = 4) := rfl
               have b7 : ((pos : Int) == 7) = decide ((pos : Int) = 7) := rfl
               simp only [z1, z4, z5, decide_true, decide_false, Bool.not_true, Bool.not_false] at b1 b4 b5 b6 b7
               go_wp2
               refine bodyPost_ret (results_ct rfl _ _ w.heap.size 23 #[.int .i64 0, .int .i64 0, .int .i64 0] (0, 0) _ rfl (by refine blk_put (cs := #[.int .i64 0, .int .i64 0, .int .i64 0]) ?_ 2 _ rfl; refine blk_put (cs := #[.int .i64 0, .int .i64 0, .int .i64 0]) ?_ 1 _ rfl; exact blk_put (cs := #[.int .i64 0, .int .i64 0, .int .i64 0]) hrs2 0 _ rfl) Tryd.underlying23 rfl (by kernel_rfl)) rfl ?_
               exact ⟨rfl, below_set (below_set (below_set hbw2 (Nat.le_refl _)) (Nat.le_refl _)) (Nat.le_refl _)⟩)
    · have HS' := HS.out
      rw [prs_end _ _ _ _ _ _ _ hp] at HS'
      have hnx : ∀ ty, (Instr.next (.pointer (some ⟨w.heap.size + 1 + 1, 0, none⟩)) true ty).run Tryd.prog wr = _ := fun ty => Lib.run_next_end_at wr (w.heap.size + 1 + 1) a0 pos ty hit hp
      have hH := HH.out
      rw [← HS'] at hH
      clear HH HS HS'
      have k0 : wr.cell? ⟨w.heap.size + 1, 0, none⟩ = some (.int .i64 x) := (blk_cell hpt 0).trans rfl
      have k1 : wr.cell? ⟨w.heap.size + 1, 1, none⟩ = some (.int .i64 y) := (blk_cell hpt 1).trans rfl
      have k2 : wr.cell? ⟨w.heap.size + 1, 2, none⟩ = some (.int .i64 z) := (blk_cell hpt 2).trans rfl
      have hlt0 : w.heap.size < wr.heap.size := lt_of_block hrs
      have j0 : wr.cell? ⟨w.heap.size, 0, none⟩ = some (.int .i64 0) := (blk_cell hrs 0).trans rfl
      have j1 : wr.cell? ⟨w.heap.size, 1, none⟩ = some (.int .i64 0) := (blk_cell hrs 1).trans rfl
      have j2 : wr.cell? ⟨w.heap.size, 2, none⟩ = some (.int .i64 0) := (blk_cell hrs 2).trans rfl
      have jf0 := blk_frozen hrs 0
      have jf1 := blk_frozen hrs 1
      have jf2 := blk_frozen hrs 2
      have rA : (wr.alloc (.cells #[.int .i64 x, .int .i64 y, .int .i64 z] 23)).heap[w.heap.size]? = some (.cells #[.int .i64 0, .int .i64 0, .int .i64 0] 23 (0, 0)) := (Below.heap_alloc _ _ _ hlt0).trans hrs
      have dA : (wr.alloc (.cells #[.int .i64 x, .int .i64 y, .int .i64 z] 23)).heap[wr.heap.size]? = some (.cells #[.int .i64 x, .int .i64 y, .int .i64 z] 23 (0, 0)) := by
        show (wr.heap.push _)[wr.heap.size]? = _
        rw [Array.getElem?_push, if_pos rfl]
      have bA : Below w.heap.size w (wr.alloc (.cells #[.int .i64 x, .int .i64 y, .int .i64 z] 23)) := hbw.alloc (by omega) _
      have n0 : (wr.alloc (.cells #[.int .i64 x, .int .i64 y, .int .i64 z] 23)).cell? ⟨w.heap.size, 0, none⟩ = some (.int .i64 0) := (blk_cell rA 0).trans rfl
      have n1 : (wr.alloc (.cells #[.int .i64 x, .int .i64 y, .int .i64 z] 23)).cell? ⟨w.heap.size, 1, none⟩ = some (.int .i64 0) := (blk_cell rA 1).trans rfl
      have n2 : (wr.alloc (.cells #[.int .i64 x, .int .i64 y, .int .i64 z] 23)).cell? ⟨w.heap.size, 2, none⟩ = some (.int .i64 0) := (blk_cell rA 2).trans rfl
      have nf0 := blk_frozen rA 0
      have nf1 := blk_frozen rA 1
      have nf2 := blk_frozen rA 2
      by_cases h10 : a0.size = 10
      · have z10 : (a0.size : Int) = 10 := by omega
        simp only [if_pos h10] at hH
        cases hi : civil_is.f x y z with
        | none => rw [hi] at hH; cases hH
        | some b =>
          rw [hi] at hH
          simp only [Option.bind_some] at hH
          cases b
          · simp only [Bool.false_eq_true, if_false, Option.some.injEq, Prod.mk.injEq] at hH
            obtain ⟨rfl, rfl, rfl, rfl⟩ := hH
            go_wp2_with (first | (go_at_call 27; refine (civil_is.calls x y z false _ hi).mono ?_; rintro e w9 ⟨rfl, hb⟩; have BKr := blk_below rA hb; have HB9 := below_step bA hb; have m0 : w9.cell? ⟨w.heap.size, 0, none⟩ = some (.int .i64 0) := (blk_cell BKr 0).trans rfl; have m1 : w9.cell? ⟨w.heap.size, 1, none⟩ = some (.int .i64 0) := (blk_cell BKr 1).trans rfl; have m2 : w9.cell? ⟨w.heap.size, 2, none⟩ = some (.int .i64 0) := (blk_cell BKr 2).trans rfl; have mf0 := blk_frozen BKr 0; have mf1 := blk_frozen BKr 1; have mf2 := blk_frozen BKr 2))
            refine bodyPost_ret (results_ct rfl _ _ w.heap.size 23 #[.int .i64 0, .int .i64 0, .int .i64 0] (0, 0) _ rfl (by refine blk_put (cs := #[.int .i64 0, .int .i64 0, .int .i64 0]) ?_ 2 _ rfl; refine blk_put (cs := #[.int .i64 0, .int .i64 0, .int .i64 0]) ?_ 1 _ rfl; exact blk_put (cs := #[.int .i64 0, .int .i64 0, .int .i64 0]) BKr 0 _ rfl) Tryd.underlying23 rfl (by kernel_rfl)) rfl ?_
            exact ⟨rfl, below_set (below_set (below_set HB9 (Nat.le_refl _)) (Nat.le_refl _)) (Nat.le_refl _)⟩
          · simp only [if_true, Option.some.injEq, Prod.mk.injEq] at hH
            obtain ⟨rfl, rfl, rfl, rfl⟩ := hH
            go_wp2_with (first | (go_at_call 27; refine (civil_is.calls x y z true _ hi).mono ?_; rintro e w9 ⟨rfl, hb⟩; have BKr := blk_below rA hb; have BKd := blk_below dA hb; have HB9 := below_step bA hb; have m0 : w9.cell? ⟨w.heap.size, 0, none⟩ = some (.int .i64 0) := (blk_cell BKr 0).trans rfl; have m1 : w9.cell? ⟨w.heap.size, 1, none⟩ = some (.int .i64 0) := (blk_cell BKr 1).trans rfl; have m2 : w9.cell? ⟨w.heap.size, 2, none⟩ = some (.int .i64 0) := (blk_cell BKr 2).trans rfl; have mf0 := blk_frozen BKr 0; have mf1 := blk_frozen BKr 1; have mf2 := blk_frozen BKr 2; have d0 : w9.cell? ⟨wr.heap.size, 0, none⟩ = some (.int .i64 x) := (blk_cell BKd 0).trans rfl; have d1 : w9.cell? ⟨wr.heap.size, 1, none⟩ = some (.int .i64 y) := (blk_cell BKd 1).trans rfl; have d2 : w9.cell? ⟨wr.heap.size, 2, none⟩ = some (.int .i64 z) := (blk_cell BKd 2).trans rfl))
            refine bodyPost_ret (results_ct rfl _ _ w.heap.size 23 #[.int .i64 x, .int .i64 y, .int .i64 z] (0, 0) _ rfl (by refine blk_put (cs := #[.int .i64 x, .int .i64 y, .int .i64 0]) ?_ 2 _ rfl; refine blk_put (cs := #[.int .i64 x, .int .i64 0, .int .i64 0]) ?_ 1 _ rfl; exact blk_put (cs := #[.int .i64 0, .int .i64 0, .int .i64 0]) BKr 0 _ rfl) Tryd.underlying23 rfl (by kernel_rfl)) rfl ?_
            exact ⟨rfl, below_set (below_set (below_set HB9 (Nat.le_refl _)) (Nat.le_refl _)) (Nat.le_refl _)⟩
      · have z10 : ¬ (a0.size : Int) = 10 := by omega
        simp only [if_neg h10, Option.some.injEq, Prod.mk.injEq] at hH
        obtain ⟨rfl, rfl, rfl, rfl⟩ := hH
        go_wp2
        have q3 := blk_put (cs := #[.int .i64 0, .int .i64 0, .int .i64 0]) (blk_put (cs := #[.int .i64 0, .int .i64 0, .int .i64 0]) (blk_put (cs := #[.int .i64 0, .int .i64 0, .int .i64 0]) hrs 0 (.int .i64 0) rfl) 1 (.int .i64 0) rfl) 2 (.int .i64 0) rfl
        refine bodyPost_ret (results_ct rfl _ _ w.heap.size 23 #[.int .i64 0, .int .i64 0, .int .i64 0] (0, 0) _ rfl ((Below.heap_alloc _ _ _ (lt_of_block q3)).trans q3) Tryd.underlying23 rfl (by kernel_rfl)) rfl ?_
        exact ⟨rfl, (below_set (below_set (below_set hbw (Nat.le_refl _)) (Nat.le_refl _)) (Nat.le_refl _)).alloc (Nat.le_of_lt (lt_of_block q3)) _⟩

/-! ### sundialref03_value: function 36 -/
def sundialref03_value.l0 : Nat → ByteArray → Int → Int → Option (Int)
  | 0, _, _, _ => none
  | k + 1, x0, x3, x4 => if x4 < (x0.size : Int) then (if 0 ≤ x4 then (sundialref03_value.l0 k x0 (wrap64 ((wrap64 ((wrap64 (10 * x3)) + (wrap64 (bt x0 x4)))) - 48)) (wrap64 (x4 + 1))) else (none)) else (some x3)
def sundialref03_value.f (k : Nat) (a0 : ByteArray) : Option (Int) := sundialref03_value.l0 k a0 0 0
theorem sundialref03_value.mono_l : ∀ k, (∀ y0 y1 y2, LeO (sundialref03_value.l0 k y0 y1 y2) (sundialref03_value.l0 (k + 1) y0 y1 y2))
  | 0 => fun _ _ _ r h => by simp [sundialref03_value.l0] at h
  | k + 1 => by
    have ih0 := sundialref03_value.mono_l k
    · intro y0 y1 y2
      unfold sundialref03_value.l0
      repeat' first
      | (with_reducible exact ih0 _ _ _)
      | (with_reducible exact LeO.refl _)
      | (with_reducible exact LeO.none _)
      | (with_reducible refine LeO.ite ?_ ?_)
      | (with_reducible refine LeO.bind ?_ (fun _ => ?_))
      | exact ih0 _ _ _
      | exact LeO.none _
      | refine LeO.ite ?_ ?_
      | refine LeO.bind ?_ (fun _ => ?_)
theorem sundialref03_value.mono : ∀ a0 k, LeO (sundialref03_value.f k a0) (sundialref03_value.f (k + 1) a0) := by
  intro a0 k
  have ih0 := sundialref03_value.mono_l k
  unfold sundialref03_value.f
  repeat' first
      | (with_reducible exact ih0 _ _ _)
      | (with_reducible exact LeO.refl _)
      | (with_reducible exact LeO.none _)
      | (with_reducible refine LeO.ite ?_ ?_)
      | (with_reducible refine LeO.bind ?_ (fun _ => ?_))
      | exact ih0 _ _ _
      | exact LeO.none _
      | refine LeO.ite ?_ ?_
      | refine LeO.bind ?_ (fun _ => ?_)
set_option maxHeartbeats 8000000 in
set_option maxRecDepth 100000 in
theorem sundialref03_value.calls (k : Nat) (a0 : ByteArray) (r : Int) (w : World) (h : sundialref03_value.f k a0 = some r) :
    Calls Tryd.prog 36 #[.string a0] w fun e w' => e = .returned (.int .i64 r) ∧ Drawn0 w w' := by
  have H : (sundialref03_value.l0 k a0 0 0) = some r := h
  clear h
  have H' := Aside0.mk H
  clear H
  go_enter Tryd.func36, Tryd.ntmps36
  go_wp2
  go_loopg [3, 4] k (fun kq v3 v4 w' => ∃ (x3_1 : Int) (x4_1 : Int), v3 = .int .i64 x3_1 ∧ v4 = .int .i64 x4_1 ∧ Aside0 (sundialref03_value.l0 kq a0 x3_1 x4_1 = some r) ∧ Aside0 (kq ≤ k) ∧ Drawn0 w w')
  case atStart => exact ⟨(0), (0), (by first | rfl | (simp; done) | (simp [*]; done)), (by first | rfl | (simp; done) | (simp [*]; done)), H', ⟨Nat.le_refl _⟩, by repeat (first | exact Drawn0.refl _ | apply Drawn0.step)⟩
  case round =>
    clear H'
    obtain ⟨x3_1, x4_1, rfl, rfl, HA, HK1, ⟨m1, rfl⟩⟩ := hrel
    cases gk with
    | zero => exact absurd HA.out (by simp [sundialref03_value.l0])
    | succ k1 =>
      have H := HA.out
      clear HA
      simp only [sundialref03_value.l0] at H
      by_cases c2 : x4_1 < (a0.size : Int)
      · rw [if_pos c2] at H
        have c2b0 : decide (x4_1 < (a0.size : Int)) = true := decide_eq_true c2
        clear c2
        by_cases c3 : 0 ≤ x4_1
        · rw [if_pos c3] at H
          have c3b0 : decide (0 ≤ x4_1) = true := decide_eq_true c3
          clear c3
          have H' := Aside0.mk H
          clear H
          have p4 : 0 ≤ (x4_1 : Int) := of_decide_eq_true (by first | (with_reducible assumption) | assumption)
          have q4 : x4_1 < (a0.size : Int) := of_decide_eq_true (by first | (with_reducible assumption) | assumption)
          have hx4 := bt_at a0 x4_1
          replace p4 := eq_true p4
          replace q4 := eq_true q4
          go_wp2
          go_roundg k1
          case measure => have := HK1.out; omega
          case rel => exact ⟨(wrap64 ((wrap64 ((wrap64 (10 * x3_1)) + (wrap64 (bt a0 x4_1)))) - 48)), (wrap64 (x4_1 + 1)), (by first | rfl | (simp; done) | (simp [*]; done)), (by first | rfl | (simp; done) | (simp [*]; done)), H', ⟨by have := HK1.out; omega⟩, by repeat (first | exact Drawn0.refl _ | apply Drawn0.step)⟩
        · rw [if_neg c3] at H
          exact absurd H (by simp)
      · rw [if_neg c2] at H
        have c2b0 : decide (x4_1 < (a0.size : Int)) = false := decide_eq_false c2
        clear c2
        obtain rfl := Option.some.inj H
        go_wp2
        go_ret
        exact ⟨by first | rfl | (simp; done) | (simp [*]; done), by repeat (first | exact Drawn0.refl _ | apply Drawn0.step)⟩

/-! ### sundialref03_Parse: function 22 -/
def sundialref03_Parse.f (k : Nat) (a0 : ByteArray) : Option (Int × Int × Int × Int) := if (a0.size : Int) = 10 then (if 0 ≤ 4 then (if 4 ≤ (a0.size : Int) then ((sundialref03_value.f k (a0.extract 0 4)).bind fun t142 => (if 5 ≤ 7 then (if 7 ≤ (a0.size : Int) then ((sundialref03_value.f k (a0.extract 5 7)).bind fun t143 => (if 8 ≤ (a0.size : Int) then ((sundialref03_value.f k (a0.extract 8 a0.size)).bind fun t144 => ((sundialref03_Text.f k t142 t143 t144).bind fun bt146 => (if bt146.2 = 0 then (if bt146.1.toList = a0.toList then (some (t142, t143, t144, 0)) else (some (0, 0, 0, 4))) else (some (0, 0, 0, 4))))) else (none))) else (none)) else (none))) else (none)) else (none)) else (some (0, 0, 0, 4))
theorem sundialref03_Parse.mono : ∀ a0 k, LeO (sundialref03_Parse.f k a0) (sundialref03_Parse.f (k + 1) a0) := by
  intro a0 k
  unfold sundialref03_Parse.f
  repeat' first
      | (with_reducible exact sundialref03_Text.mono _ _ _ _)
      | (with_reducible exact sundialref03_value.mono _ _)
      | (with_reducible exact LeO.refl _)
      | (with_reducible exact LeO.none _)
      | (with_reducible refine LeO.ite ?_ ?_)
      | (with_reducible refine LeO.bind ?_ (fun _ => ?_))
      | exact sundialref03_Text.mono _ _ _ _
      | exact sundialref03_value.mono _ _
      | exact LeO.none _
      | refine LeO.ite ?_ ?_
      | refine LeO.bind ?_ (fun _ => ?_)

end Go.Proofs.YtgpnmhlpcjmehaaDoor.R
