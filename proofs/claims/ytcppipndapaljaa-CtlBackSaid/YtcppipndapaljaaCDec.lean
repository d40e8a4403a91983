/- Bytes and the frame that they are, in plain Lean. -/
import Derived.Test.YtcppipndapaljaaQx3
import Derived.Test.YtcppipndapaljaaCBase
namespace Go.Proofs.Ytcppipndapaljaa.C
open Go.RowKit Go.Proofs.Ytcppipndapaljaa.Q Go.Proofs.YtcppipndapaljaaW.PrintWords Go.Proofs.YtcppipndapaljaaW.PrintLast Go.Proofs.YtcppipndapaljaaCopy

def Bs (l : List Int) : Prop := ∀ x ∈ l, 0 ≤ x ∧ x ≤ 255
theorem Bs.at_ {l : List Int} (h : Bs l) (i : Int) : 0 ≤ rd l i ∧ rd l i ≤ 255 := by
  unfold rd
  rw [List.getD_eq_getElem?_getD]
  cases e : l[i.toNat]? with
  | none => simp
  | some x => exact h x (List.mem_of_getElem? e)
abbrev Fr := Int × Bool × Bool × Bool × Int × Int × Int × Int × Int × List Int × Int
def Z (e : Int) : Fr := (0, false, false, false, 0, 0, 0, 0, 0, [], e)
def W (l : List Int) (i : Int) : Int := rd l i * 256 + rd l (i + 1)
/-- The frame that bytes are, or the error's number. -/
def decF (l : List Int) : Fr :=
  if l.length < 12 ∨ l.length % 4 ≠ 0 then Z 20
  else if rd l 0 % 8 ≠ 6 then Z 24
  else if rd l 0 / 8 % 8 < 1 ∨ 4 < rd l 0 / 8 % 8 then Z 22
  else if rd l 0 / 64 ≠ 0 then Z 3
  else if 468 < W l 10 ∨ (l.length : Int) ≠ 12 + (W l 10 + 3) / 4 * 4 then Z 3
  else if (l.drop (12 + (W l 10).toNat)).all (fun x => decide (x = 0)) = false then Z 3
  else (rd l 0 / 8 % 8, decide (rd l 1 ≥ 128), (rd l 1 / 64 % 2) == 1, (rd l 1 / 32 % 2) == 1, rd l 1 % 32, W l 2, W l 4, W l 6, W l 8, (l.take (12 + (W l 10).toNat)).drop 12, 0)
theorem W_range {l : List Int} (h : Bs l) (i : Int) : 0 ≤ W l i ∧ W l i ≤ 65535 := by
  have h1 := h.at_ i
  have h2 := h.at_ (i + 1)
  unfold W
  omega
theorem W_or {l : List Int} (h : Bs l) (i j : Int) (hj : j = i + 1) : Go.bits .or .i64 (wrap64 ((wrap64 (rd l i)) * 256)) (wrap64 (rd l j)) = W l i := by
  subst hj
  have h1 := h.at_ i
  have h2 := h.at_ (i + 1)
  exact word_or (by omega) (by omega) (by omega) (by omega)
section
variable {l : List Int} (h : Bs l) (hm : l.length ≤ 140737488351232) (h12 : 12 ≤ l.length)
include h hm h12
theorem dec_l1 (v n a b c d : Int) (hn : 0 ≤ n) (hn2 : n ≤ 468) (hln : 12 + n ≤ l.length) (t : List Int) : ∀ (q i : Nat), i + q = t.length → t.length ≤ 140737488351232 →
    Ev (fun k => ctl_Decode.l1 k l v n t (t.length : Int) (i : Int) a b c d n) (if (t.drop i).all (fun x => decide (x = 0)) = false then Z 3 else (v, decide (rd l 1 ≥ 128), (rd l 1 / 64 % 2) == 1, (rd l 1 / 32 % 2) == 1, rd l 1 % 32, a, b, c, d, (l.take (12 + n.toNat)).drop 12, 0)) := by
  intro q
  have r1 := h.at_ 1
  have en : wrap64 (12 + n) = 12 + n := wrap_id (by omega) (by omega)
  induction q with
  | zero =>
    intro i hi ht
    rw [List.drop_eq_nil_of_le (by omega)]
    simp only [List.all_nil, Bool.true_eq_false, if_false]
    refine Ev.step (f := fun _ => some (v, decide (rd l 1 ≥ 128), (rd l 1 / 64 % 2) == 1, (rd l 1 / 32 % 2) == 1, rd l 1 % 32, a, b, c, d, (l.take (12 + n.toNat)).drop 12, 0)) (fun k => ?_) (Ev.now _)
    simp only [ctl_Decode.l1]
    rw [if_neg (by omega), if_pos (by omega), en, if_pos (by omega), if_pos hln, bit128 r1.1 (by omega), bit64 r1.1 (by omega), bit32 r1.1 (by omega), Go.u8_and31 _ r1.1 (by omega), wrap_id (x := rd l 1 % 32) (by omega) (by omega)]
    unfold slices_Clone_byte_byte.f
    rw [if_pos (by simp; omega), show ((12 + n).toNat) = 12 + n.toNat by omega]
    rfl
  | succ q ih =>
    intro i hi ht
    have hlt : i < t.length := by omega
    rw [List.drop_eq_getElem_cons hlt, List.all_cons]
    have hr : rd t (i : Int) = t[i] := rd_at hlt
    by_cases hz : t[i] = 0
    · refine Ev.step (f := fun k => ctl_Decode.l1 k l v n t (t.length : Int) ((i + 1 : Nat) : Int) a b c d n) (fun k => ?_) ?_
      · simp only [ctl_Decode.l1]
        rw [if_pos (by omega), if_pos (by omega), if_pos (by omega), hr, if_pos hz, show wrap64 ((i : Int) + 1) = ((i + 1 : Nat) : Int) by rw [wrap_id (by omega) (by omega)]; omega]
      · have := ih (i + 1) (by omega) ht
        simp only [hz, decide_true, Bool.true_and]
        exact this
    · simp only [hz, decide_false, Bool.false_and, if_true]
      refine Ev.step (f := fun _ => some (Z 3)) (fun k => ?_) (Ev.now _)
      simp only [ctl_Decode.l1]
      rw [if_pos (by omega), if_pos (by omega), if_pos (by omega), hr, if_neg hz]
      rfl
end
theorem dec_ev {l : List Int} (h : Bs l) (hm : l.length ≤ 140737488351232) : Ev (fun k => ctl_Decode.f k l) (decF l) := by
  have jt : Ev (fun k => ctl_Decode.j0 k l true) (Z 20) := Ev.step (f := fun _ => some (Z 20)) (fun k => by simp only [ctl_Decode.j0]; rw [if_pos trivial]; rfl) (Ev.now _)
  unfold ctl_Decode.f decF
  by_cases c1 : l.length < 12
  · rw [if_pos (by omega)]
    simp only [show (l.length : Int) < 12 by omega, if_true]
    exact jt
  simp only [show ¬ (l.length : Int) < 12 by omega, if_false]
  by_cases c2 : l.length % 4 = 0
  rotate_left
  · rw [if_pos (by omega), show (((l.length : Int) % 4) != 0) = true by simp; omega]
    exact jt
  rw [if_neg (by omega), show (((l.length : Int) % 4) != 0) = false by simp; omega]
  have r0 := h.at_ 0
  have e1 : wrap64 (Go.bits .and .u8 ((rd l 0) / 8) 7) = rd l 0 / 8 % 8 := by rw [Go.u8_and7 _ (by omega) (by omega)]; exact wrap_id (by omega) (by omega)
  have j1t : Ev (fun k => ctl_Decode.j1 k l (rd l 0 / 8 % 8) true) (Z 22) := Ev.step (f := fun _ => some (Z 22)) (fun k => by simp only [ctl_Decode.j1]; rw [if_pos trivial]; rfl) (Ev.now _)
  by_cases c3 : rd l 0 % 8 = 6
  rotate_left
  · rw [if_pos c3]
    refine Ev.step (f := fun _ => some (Z 24)) (fun k => ?_) (Ev.now _)
    simp only [ctl_Decode.j0]
    rw [if_neg (by decide), if_pos (by omega), Go.u8_and7 _ r0.1 (by omega), if_neg c3]
    rfl
  rw [if_neg (by omega)]
  by_cases c4 : rd l 0 / 8 % 8 < 1 ∨ 4 < rd l 0 / 8 % 8
  · rw [if_pos c4]
    refine Ev.step (f := fun k => ctl_Decode.j1 k l (rd l 0 / 8 % 8) true) (fun k => ?_) j1t
    simp only [ctl_Decode.j0]
    rw [if_neg (by decide), if_pos (by omega), Go.u8_and7 _ r0.1 (by omega), if_pos c3, e1]
    by_cases c : rd l 0 / 8 % 8 < 1
    · rw [if_pos c]
    · rw [if_neg c, show decide (rd l 0 / 8 % 8 > 4) = true by simp; omega]
  rw [if_neg c4]
  refine Ev.step (f := fun k => ctl_Decode.j1 k l (rd l 0 / 8 % 8) false) (fun k => ?_) ?_
  · simp only [ctl_Decode.j0]
    rw [if_neg (by decide), if_pos (by omega), Go.u8_and7 _ r0.1 (by omega), if_pos c3, e1, if_neg (by omega), show decide (rd l 0 / 8 % 8 > 4) = false by simp; omega]
  by_cases c5 : rd l 0 / 64 = 0
  rotate_left
  · rw [if_pos c5]
    refine Ev.step (f := fun _ => some (Z 3)) (fun k => ?_) (Ev.now _)
    simp only [ctl_Decode.j1]
    rw [if_neg (by decide), if_pos (by omega), if_neg c5]
    rfl
  rw [if_neg (by omega)]
  have w10 := W_range h 10
  have j2t : Ev (fun k => ctl_Decode.j2 k l (rd l 0 / 8 % 8) (W l 10) true (W l 2) (W l 4) (W l 6) (W l 8) (W l 10)) (Z 3) := Ev.step (f := fun _ => some (Z 3)) (fun k => by simp only [ctl_Decode.j2]; rw [if_pos trivial]; rfl) (Ev.now _)
  by_cases c6 : 468 < W l 10 ∨ (l.length : Int) ≠ 12 + (W l 10 + 3) / 4 * 4
  · rw [if_pos c6]
    refine Ev.step (f := fun k => ctl_Decode.j2 k l (rd l 0 / 8 % 8) (W l 10) true (W l 2) (W l 4) (W l 6) (W l 8) (W l 10)) (fun k => ?_) j2t
    simp only [ctl_Decode.j1]
    rw [if_neg (by decide), if_pos (by omega), if_pos c5, if_pos (by omega), if_pos (by omega), if_pos (by omega), if_pos (by omega), if_pos (by omega), if_pos (by omega), if_pos (by omega), if_pos (by omega), if_pos (by omega), if_pos (by omega), W_or h 10 11 rfl, W_or h 2 3 rfl, W_or h 4 5 rfl, W_or h 6 7 rfl, W_or h 8 9 rfl]
    by_cases c : W l 10 > 468
    · rw [if_pos c]
    · rw [if_neg c, wrap_id (x := W l 10 + 3) (by omega) (by omega), up4 (by omega) (by omega), wrap_id (by omega) (by omega), show ((l.length : Int) != 12 + (W l 10 + 3) / 4 * 4) = true by simp; omega]
  rw [if_neg c6]
  have c7 : W l 10 ≤ 468 := by omega
  have c8 : (l.length : Int) = 12 + (W l 10 + 3) / 4 * 4 := by omega
  refine Ev.step (f := fun k => ctl_Decode.j2 k l (rd l 0 / 8 % 8) (W l 10) false (W l 2) (W l 4) (W l 6) (W l 8) (W l 10)) (fun k => ?_) ?_
  · simp only [ctl_Decode.j1]
    rw [if_neg (by decide), if_pos (by omega), if_pos c5, if_pos (by omega), if_pos (by omega), if_pos (by omega), if_pos (by omega), if_pos (by omega), if_pos (by omega), if_pos (by omega), if_pos (by omega), if_pos (by omega), if_pos (by omega), W_or h 10 11 rfl, W_or h 2 3 rfl, W_or h 4 5 rfl, W_or h 6 7 rfl, W_or h 8 9 rfl, if_neg (by omega), wrap_id (x := W l 10 + 3) (by omega) (by omega), up4 (by omega) (by omega), wrap_id (by omega) (by omega), show ((l.length : Int) != 12 + (W l 10 + 3) / 4 * 4) = false by simp; omega]
  have en : wrap64 (12 + W l 10) = 12 + W l 10 := wrap_id (by omega) (by omega)
  refine Ev.step (f := fun k => ctl_Decode.l1 k l (rd l 0 / 8 % 8) (W l 10) (l.drop (12 + (W l 10).toNat)) ((l.drop (12 + (W l 10).toNat)).length : Int) ((0 : Nat) : Int) (W l 2) (W l 4) (W l 6) (W l 8) (W l 10)) (fun k => ?_) ?_
  · simp only [ctl_Decode.j2]
    rw [if_neg (by decide), en, if_pos (by omega), if_pos (by omega), show (12 + W l 10).toNat = 12 + (W l 10).toNat by omega]
    rfl
  · have := dec_l1 h hm (by omega) (rd l 0 / 8 % 8) (W l 10) (W l 2) (W l 4) (W l 6) (W l 8) w10.1 c7 (by omega) (l.drop (12 + (W l 10).toNat)) _ 0 (Nat.zero_add _) (by rw [List.length_drop]; omega)
    rw [List.drop_zero] at this
    exact this
end Go.Proofs.Ytcppipndapaljaa.C
