/- Frames and bytes are one to one, in plain Lean; the call that shows that the program is awake. -/
import Derived.Test.YtcppipndapaljaaCDec
import Derived.Test.YtcppipndapaljaaQx4
import Derived.Test.YtcppipndapaljaaQx7
namespace Go.Proofs.Ytcppipndapaljaa.C
open Go.RowKit Go.Proofs.Ytcppipndapaljaa.Q Go.Proofs.YtcppipndapaljaaW.PrintWords Go.Proofs.YtcppipndapaljaaW.PrintLast Go.Proofs.YtcppipndapaljaaCopy

theorem awakeE : Ev (fun k => sundiallaw10_awake.f k) true := by
  unfold sundiallaw10_awake.f
  refine Ev.bind (enc_ev 4 true false false 2 258 0 0 0 [97, 98, 99]) ?_
  rw [show (if isF 4 2 258 0 0 0 ([97, 98, 99] : List Int).length = true then (encF 4 true false false 2 258 0 0 0 [97, 98, 99], (0 : Int)) else ([], 3)) = ([38, 130, 1, 2, 0, 0, 0, 0, 0, 0, 0, 3, 97, 98, 99, 0], 0) by decide]
  refine Ev.bind (dec_ev (l := [38, 130, 1, 2, 0, 0, 0, 0, 0, 0, 0, 3, 97, 98, 99, 0]) (by intro x hx; simp only [List.mem_cons, List.not_mem_nil, or_false] at hx; omega) (by simp)) ?_
  rw [show decF [38, 130, 1, 2, 0, 0, 0, 0, 0, 0, 0, 3, 97, 98, 99, 0] = (4, true, false, false, 2, 258, 0, 0, 0, [97, 98, 99], 0) by kernel_rfl]
  refine Ev.congr (f := fun _ => some true) (fun k => ?_) (Ev.now _)
  kernel_rfl
theorem same_eq (v : Int) (r e m : Bool) (op s st asc off : Int) (dt : List Int) : sundialref10_Same.f v r e m op s st asc off dt v r e m op s st asc off dt = some true := by
  unfold sundialref10_Same.f sundialref10_Like.f
  simp

section
variable (v : Int) (r e m : Bool) (op s st asc off : Int) (dt : List Int)
theorem isF_iff (n : Nat) : isF v op s st asc off n = true ↔ 1 ≤ v ∧ v ≤ 4 ∧ 0 ≤ op ∧ op ≤ 31 ∧ (0 ≤ s ∧ s ≤ 65535) ∧ (0 ≤ st ∧ st ≤ 65535) ∧ (0 ≤ asc ∧ asc ≤ 65535) ∧ (0 ≤ off ∧ off ≤ 65535) ∧ n ≤ 468 := by
  unfold isF; rw [decide_eq_true_eq]
theorem encF_length : (encF v r e m op s st asc off dt).length = 12 + (dt.length + 3) / 4 * 4 := by
  unfold encF
  simp only [List.length_append, List.length_cons, List.length_nil, List.length_replicate]
  omega
theorem b1_range (b : Bool) : 0 ≤ b1 b ∧ b1 b ≤ 1 := by cases b <;> decide
theorem encF_bytes (h : isF v op s st asc off dt.length = true) (hd : Bs dt) : Bs (encF v r e m op s st asc off dt) := by
  rw [isF_iff] at h
  have h1 := b1_range r
  have h2 := b1_range e
  have h3 := b1_range m
  intro x hx
  unfold encF at hx
  rw [List.mem_append, List.mem_append, List.mem_replicate] at hx
  rcases hx with (hx | hx) | hx
  · simp only [List.mem_cons, List.not_mem_nil, or_false] at hx
    rcases hx with rfl | rfl | rfl | rfl | rfl | rfl | rfl | rfl | rfl | rfl | rfl | rfl <;> omega
  · exact hd x hx
  · omega
/-- What was written is read back. -/
theorem dec_enc (h : isF v op s st asc off dt.length = true) : decF (encF v r e m op s st asc off dt) = (v, r, e, m, op, s, st, asc, off, dt, 0) := by
  have hl := encF_length v r e m op s st asc off dt
  rw [isF_iff] at h
  have h1 := b1_range r
  have h2 := b1_range e
  have h3 := b1_range m
  have e0 : rd (encF v r e m op s st asc off dt) 0 = v * 8 + 6 := rfl
  have e1 : rd (encF v r e m op s st asc off dt) 1 = b1 r * 128 + b1 e * 64 + b1 m * 32 + op := rfl
  have w2 : W (encF v r e m op s st asc off dt) 2 = s := by show s / 256 * 256 + s % 256 = s; omega
  have w4 : W (encF v r e m op s st asc off dt) 4 = st := by show st / 256 * 256 + st % 256 = st; omega
  have w6 : W (encF v r e m op s st asc off dt) 6 = asc := by show asc / 256 * 256 + asc % 256 = asc; omega
  have w8 : W (encF v r e m op s st asc off dt) 8 = off := by show off / 256 * 256 + off % 256 = off; omega
  have w10 : W (encF v r e m op s st asc off dt) 10 = (dt.length : Int) := by show (dt.length : Int) / 256 * 256 + (dt.length : Int) % 256 = dt.length; omega
  have hhead : ∀ n : Nat, (encF v r e m op s st asc off dt).drop (12 + n) = (dt ++ List.replicate ((dt.length + 3) / 4 * 4 - dt.length) 0).drop n := by
    intro n
    unfold encF
    rw [List.append_assoc, ← List.drop_drop]
    rfl
  unfold decF
  rw [e0, e1, w2, w4, w6, w8, w10, Int.toNat_natCast, if_neg (by omega), if_neg (by omega), if_neg (by omega), if_neg (by omega), if_neg (by omega), hhead, List.drop_left]
  rw [if_neg (by simp), show List.drop 12 (List.take (12 + dt.length) (encF v r e m op s st asc off dt)) = dt by rw [List.drop_take, show 12 + dt.length - 12 = dt.length by omega, show (12 : Nat) = 12 + 0 from rfl, hhead 0, List.drop_zero, List.take_left]]
  rw [show (v * 8 + 6) / 8 % 8 = v by omega, show (b1 r * 128 + b1 e * 64 + b1 m * 32 + op) % 32 = op by omega]
  have r1 : decide (b1 r * 128 + b1 e * 64 + b1 m * 32 + op ≥ 128) = r := by
    cases r
    · rw [decide_eq_false_iff_not]; have : b1 false = 0 := rfl; omega
    · rw [decide_eq_true_eq]; have : b1 true = 1 := rfl; omega
  have r2 : ((b1 r * 128 + b1 e * 64 + b1 m * 32 + op) / 64 % 2 == 1) = e := by
    cases e
    · rw [beq_eq_false_iff_ne]; have : b1 false = 0 := rfl; omega
    · rw [beq_iff_eq]; have : b1 true = 1 := rfl; omega
  have r3 : ((b1 r * 128 + b1 e * 64 + b1 m * 32 + op) / 32 % 2 == 1) = m := by
    cases m
    · rw [beq_eq_false_iff_ne]; have : b1 false = 0 := rfl; omega
    · rw [beq_iff_eq]; have : b1 true = 1 := rfl; omega
  rw [r1, r2, r3]
end
/-- What was read is written back. -/
theorem enc_dec {l : List Int} (h : Bs l) (hz : (decF l).2.2.2.2.2.2.2.2.2.2 = 0) : ∃ v r e m op s st asc off dt, decF l = (v, r, e, m, op, s, st, asc, off, dt, 0) ∧ isF v op s st asc off dt.length = true ∧ encF v r e m op s st asc off dt = l := by
  have hd := hz
  unfold decF at hz
  by_cases c1 : l.length < 12 ∨ l.length % 4 ≠ 0
  · rw [if_pos c1] at hz; exact absurd hz (by decide)
  rw [if_neg c1] at hz
  by_cases c2 : rd l 0 % 8 ≠ 6
  · rw [if_pos c2] at hz; exact absurd hz (by decide)
  rw [if_neg c2] at hz
  by_cases c3 : rd l 0 / 8 % 8 < 1 ∨ 4 < rd l 0 / 8 % 8
  · rw [if_pos c3] at hz; exact absurd hz (by decide)
  rw [if_neg c3] at hz
  by_cases c4 : rd l 0 / 64 ≠ 0
  · rw [if_pos c4] at hz; exact absurd hz (by decide)
  rw [if_neg c4] at hz
  by_cases c5 : 468 < W l 10 ∨ (l.length : Int) ≠ 12 + (W l 10 + 3) / 4 * 4
  · rw [if_pos c5] at hz; exact absurd hz (by decide)
  rw [if_neg c5] at hz
  by_cases c6 : (l.drop (12 + (W l 10).toNat)).all (fun x => decide (x = 0)) = false
  · rw [if_pos c6] at hz; exact absurd hz (by decide)
  refine ⟨_, _, _, _, _, _, _, _, _, _, by unfold decF; rw [if_neg c1, if_neg c2, if_neg c3, if_neg c4, if_neg c5, if_neg c6], ?_, ?_⟩
  · have a2 := W_range h 2
    have a4 := W_range h 4
    have a6 := W_range h 6
    have a8 := W_range h 8
    have a10 := W_range h 10
    have a1 := h.at_ 1
    rw [isF_iff, List.length_drop, List.length_take]
    omega
  · have a0 := h.at_ 0
    have a1 := h.at_ 1
    have a10 := W_range h 10
    have hL : l.length = 12 + ((W l 10).toNat + 3) / 4 * 4 := by omega
    have hn : (W l 10).toNat ≤ 468 := by omega
    generalize hN : (W l 10).toNat = n at *
    have hdl : ((l.take (12 + n)).drop 12).length = n := by rw [List.length_drop, List.length_take]; omega
    have hW : ∀ i : Int, W l i / 256 = rd l i ∧ W l i % 256 = rd l (i + 1) := by
      intro i
      have b0 := h.at_ i
      have b1 := h.at_ (i + 1)
      unfold W
      omega
    have hw10 : (n : Int) / 256 = rd l 10 ∧ (n : Int) % 256 = rd l 11 := by
      have := hW 10
      rw [show (n : Int) = W l 10 by omega]; exact this
    have sec : b1 (decide (rd l 1 ≥ 128)) * 128 + b1 (rd l 1 / 64 % 2 == 1) * 64 + b1 (rd l 1 / 32 % 2 == 1) * 32 + rd l 1 % 32 = rd l 1 := by
      have q1 : b1 (decide (rd l 1 ≥ 128)) = rd l 1 / 128 := by unfold b1; by_cases q : rd l 1 ≥ 128 <;> simp only [q, decide_true, decide_false, if_true, Bool.false_eq_true, if_false] <;> omega
      have q2 : b1 (rd l 1 / 64 % 2 == 1) = rd l 1 / 64 % 2 := by unfold b1; by_cases q : rd l 1 / 64 % 2 = 1 <;> simp only [q, beq_self_eq_true, if_true, beq_iff_eq, if_false] <;> omega
      have q3 : b1 (rd l 1 / 32 % 2 == 1) = rd l 1 / 32 % 2 := by unfold b1; by_cases q : rd l 1 / 32 % 2 = 1 <;> simp only [q, beq_self_eq_true, if_true, beq_iff_eq, if_false] <;> omega
      rw [q1, q2, q3]; omega
    unfold encF
    rw [hdl, sec, (hW 2).1, (hW 2).2, (hW 4).1, (hW 4).2, (hW 6).1, (hW 6).2, (hW 8).1, (hW 8).2, hw10.1, hw10.2, show rd l 0 / 8 % 8 * 8 + 6 = rd l 0 by omega]
    have hrep : List.replicate ((n + 3) / 4 * 4 - n) (0 : Int) = l.drop (12 + n) := by
      symm
      refine List.eq_replicate_iff.2 ⟨by rw [List.length_drop]; omega, fun x hx => ?_⟩
      have c7 : ∀ y ∈ l.drop (12 + n), y = 0 := by simpa using c6
      exact c7 x hx
    rw [hrep]
    have h12 : [rd l 0, rd l 1, rd l 2, rd l (2 + 1), rd l 4, rd l (4 + 1), rd l 6, rd l (6 + 1), rd l 8, rd l (8 + 1), rd l 10, rd l 11] = l.take 12 := by
      match l, (show 12 ≤ l.length by omega) with
      | x0 :: x1 :: x2 :: x3 :: x4 :: x5 :: x6 :: x7 :: x8 :: x9 :: x10 :: x11 :: t, _ => rfl
    rw [h12, show (l.take (12 + n)).drop 12 = (l.drop 12).take n by rw [List.drop_take, show 12 + n - 12 = n by omega], List.append_assoc]
    rw [show l.drop (12 + n) = (l.drop 12).drop n by rw [List.drop_drop], List.take_append_drop, List.take_append_drop]
end Go.Proofs.Ytcppipndapaljaa.C
