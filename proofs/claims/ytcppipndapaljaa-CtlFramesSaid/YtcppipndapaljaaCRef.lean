/- The reference's bytes of frames, in plain Lean. -/
import Derived.Test.YtcppipndapaljaaQx5
import Derived.Test.YtcppipndapaljaaCBase
namespace Go.Proofs.Ytcppipndapaljaa.C
open Go.RowKit Go.Proofs.Ytcppipndapaljaa.Q Go.Proofs.YtcppipndapaljaaW.PrintWords Go.Proofs.YtcppipndapaljaaW.PrintLast Go.Proofs.YtcppipndapaljaaCopy
variable (v : Int) (r e m : Bool) (op s st asc off : Int) (dt : List Int)
theorem isR_eq : sundialref10_Is.f v r e m op s st asc off dt = some (isF v op s st asc off dt.length) := by
  have w : ∀ x : Int, sundialref10_word.f x = some (decide (0 ≤ x ∧ x ≤ 65535)) := by
    intro x
    unfold sundialref10_word.f
    by_cases h : x ≥ 0
    · rw [if_pos h]; congr 1; rw [Bool.eq_iff_iff]; simp; omega
    · rw [if_neg h]; congr 1; rw [Bool.eq_iff_iff]; simp; omega
  unfold sundialref10_Is.f isF
  simp only [w, Option.bind_some, decide_eq_true_eq]
  by_cases h1 : v ≥ 1 <;> by_cases h2 : v ≤ 4 <;> by_cases h3 : op ≥ 0 <;> by_cases h4 : op ≤ 31 <;> by_cases h5 : 0 ≤ s ∧ s ≤ 65535 <;> by_cases h6 : 0 ≤ st ∧ st ≤ 65535 <;> by_cases h7 : 0 ≤ asc ∧ asc ≤ 65535 <;> by_cases h8 : 0 ≤ off ∧ off ≤ 65535 <;> first
    | (simp only [if_pos h1, if_pos h2, if_pos h3, if_pos h4, if_pos h5, if_pos h6, if_pos h7, if_pos h8]; congr 1; rw [Bool.eq_iff_iff]; simp; omega)
    | (simp only [h1, h2, h3, h4, h5, h6, h7, h8, if_true, if_false] <;> first | rfl | (congr 1; symm; rw [decide_eq_false_iff_not]; omega) | (simp; omega))
theorem encR1_step (ws x4 : List Int) (h5 : ws.length = 5) (hb : ∀ x ∈ ws, 0 ≤ x ∧ x ≤ 65535) (i : Nat) (hi : i < 5) (hx : x4.length < 1000) (k : Nat) : sundialref10_Encode.l0 (k + 1) x4 ws 5 i v r e m op s st asc off dt = sundialref10_Encode.l0 k (x4 ++ [ws[i] / 256, ws[i] % 256]) ws 5 ((i + 1 : Nat) : Int) v r e m op s st asc off dt := by
  have hw := hb ws[i] (List.getElem_mem _)
  simp only [sundialref10_Encode.l0]
  rw [if_pos (by omega), if_pos (by omega), if_pos (by omega), rd_at (show i < ws.length by omega), Int.tdiv_eq_ediv_of_nonneg hw.1, Int.tmod_eq_emod_of_nonneg hw.1, wrap_id (x := ws[i] / 256) (by omega) (by omega)]
  simp only [Option.bind_some, List.length_cons, List.length_nil]
  rw [if_pos (by omega), show wrap64 ((i : Int) + 1) = ((i + 1 : Nat) : Int) by rw [wrap_id (by omega) (by omega)]; omega, show ws[i] / 256 % 256 = ws[i] / 256 by omega, show ws[i] % 256 % 256 = ws[i] % 256 by omega]
theorem encR1_end (ws x4 : List Int) (hl : x4.length + dt.length < 140737488355328) (k : Nat) : sundialref10_Encode.l0 (k + 1) x4 ws 5 ((5 : Nat) : Int) v r e m op s st asc off dt = sundialref10_Encode.l1 k (x4 ++ dt) := by
  simp only [sundialref10_Encode.l0]
  rw [if_neg (by decide), if_pos hl]
theorem pad_ev : ∀ (d : Nat) (l : List Int), (l.length + d) % 4 = 0 → d < 4 → l.length + d < 2000 → Ev (fun k => sundialref10_Encode.l1 k l) (l ++ List.replicate d 0, 0) := by
  intro d
  induction d with
  | zero =>
    intro l h _ hl
    refine Ev.step (f := fun _ => some (l, 0)) (fun k => ?_) ?_
    · simp only [sundialref10_Encode.l1]
      rw [if_pos (by omega)]
    · rw [show List.replicate 0 (0 : Int) = [] from rfl, List.append_nil]
      exact Ev.now _
  | succ d ih =>
    intro l h h4 hl
    refine Ev.step (f := fun k => sundialref10_Encode.l1 k (l ++ [0])) (fun k => ?_) ?_
    · simp only [sundialref10_Encode.l1]
      rw [if_neg (by omega), if_pos (by omega)]
    · have := ih (l ++ [0]) (by rw [List.length_append, List.length_singleton]; omega) (by omega) (by rw [List.length_append, List.length_singleton]; omega)
      rw [List.append_assoc] at this
      rw [List.replicate_succ]
      exact this
theorem encR_ev : Ev (fun k => sundialref10_Encode.f k v r e m op s st asc off dt) (if isF v op s st asc off dt.length = true then (encF v r e m op s st asc off dt, 0) else ([], 3)) := by
  unfold sundialref10_Encode.f
  simp only [isR_eq, Option.bind_some]
  by_cases h : isF v op s st asc off dt.length = true
  rotate_left
  · simp only [if_neg h]
    exact Ev.now _
  simp only [if_pos h]
  have h' := h
  unfold isF at h'
  rw [decide_eq_true_eq] at h'
  have w : ∀ b : Bool, sundialref10_bit.f b = some (b1 b) := fun b => by cases b <;> rfl
  have w1 : ∀ b : Bool, 0 ≤ b1 b ∧ b1 b ≤ 1 := fun b => by cases b <;> decide
  have z1 := w1 r
  have z2 := w1 e
  have z3 := w1 m
  simp only [w, Option.bind_some, List.length_cons, List.length_nil]
  rw [wrap_id (x := v * 8) (by omega) (by omega), wrap_id (x := v * 8 + 6) (by omega) (by omega), show (v * 8 + 6) % 256 = v * 8 + 6 by omega, wrap_id (x := b1 r * 128) (by omega) (by omega), wrap_id (x := b1 e * 64) (by omega) (by omega), wrap_id (x := b1 m * 32) (by omega) (by omega), wrap_id (x := b1 r * 128 + b1 e * 64) (by omega) (by omega), wrap_id (x := b1 r * 128 + b1 e * 64 + b1 m * 32) (by omega) (by omega), wrap_id (x := b1 r * 128 + b1 e * 64 + b1 m * 32 + op) (by omega) (by omega), show (b1 r * 128 + b1 e * 64 + b1 m * 32 + op) % 256 = b1 r * 128 + b1 e * 64 + b1 m * 32 + op by omega]
  simp only [show (0 + (0 + 1 + 1) < 140737488355328) from by decide, if_true, List.nil_append]
  have hb : ∀ x ∈ [s, st, asc, off, (dt.length : Int)], 0 ≤ x ∧ x ≤ 65535 := by
    intro x hx
    simp only [List.mem_cons, List.not_mem_nil, or_false] at hx
    rcases hx with rfl | rfl | rfl | rfl | rfl <;> omega
  refine Ev.step (encR1_step v r e m op s st asc off dt _ _ rfl hb 0 (by decide) (by simp)) ?_
  refine Ev.step (encR1_step v r e m op s st asc off dt _ _ rfl hb 1 (by decide) (by simp)) ?_
  refine Ev.step (encR1_step v r e m op s st asc off dt _ _ rfl hb 2 (by decide) (by simp)) ?_
  refine Ev.step (encR1_step v r e m op s st asc off dt _ _ rfl hb 3 (by decide) (by simp)) ?_
  refine Ev.step (encR1_step v r e m op s st asc off dt _ _ rfl hb 4 (by decide) (by simp)) ?_
  refine Ev.step (encR1_end v r e m op s st asc off dt _ _ (by simp; omega)) ?_
  simp only [List.getElem_cons_zero, List.getElem_cons_succ, List.cons_append, List.nil_append]
  have := pad_ev ((dt.length + 3) / 4 * 4 - dt.length) ([v * 8 + 6, b1 r * 128 + b1 e * 64 + b1 m * 32 + op, s / 256, s % 256, st / 256, st % 256, asc / 256, asc % 256, off / 256, off % 256, (dt.length : Int) / 256, (dt.length : Int) % 256] ++ dt) (by simp; omega) (by omega) (by simp; omega)
  exact this
end Go.Proofs.Ytcppipndapaljaa.C
