/- The reference's frames of bytes, in plain Lean. -/
import Derived.Test.YtcppipndapaljaaQx6
import Derived.Test.YtcppipndapaljaaCDec
namespace Go.Proofs.Ytcppipndapaljaa.C
open Go.RowKit Go.Proofs.Ytcppipndapaljaa.Q Go.Proofs.YtcppipndapaljaaW.PrintWords Go.Proofs.YtcppipndapaljaaW.PrintLast Go.Proofs.YtcppipndapaljaaCopy
theorem two_eq {l : List Int} (h : Bs l) (i : Int) (h0 : 0 ≤ i) (h1 : i + 1 < l.length) (hm : l.length ≤ 140737488351232) : sundialref10_two.f l i = some (W l i) := by
  have a := h.at_ i
  have b := h.at_ (i + 1)
  have e : wrap64 (i + 1) = i + 1 := wrap_id (by omega) (by omega)
  unfold sundialref10_two.f W
  rw [e, if_pos h0, if_pos (by omega), if_pos (by omega), if_pos h1, wrap_id (x := rd l i) (by omega) (by omega), wrap_id (x := rd l (i + 1)) (by omega) (by omega), wrap_id (x := rd l i * 256) (by omega) (by omega), wrap_id (by omega) (by omega)]

section
variable {l : List Int} (h : Bs l) (hm : l.length ≤ 140737488351232) (h12 : 12 ≤ l.length)
include h hm h12
theorem dec_l0R (v n : Int) (hn : 0 ≤ n) (hn2 : n ≤ 468) (hln : 12 + n ≤ l.length) : ∀ (q i : Nat), i + q = l.length → 12 + n ≤ i →
    Ev (fun k => sundialref10_Decode.l0 k l v n (i : Int) 0 false false false 0 0 0 0 0) (if (l.drop i).all (fun x => decide (x = 0)) = false then Z 3 else (v, decide (rd l 1 ≥ 128), (rd l 1 / 64 % 2) == 1, (rd l 1 / 32 % 2) == 1, rd l 1 % 32, W l 2, W l 4, W l 6, W l 8, (l.take (12 + n.toNat)).drop 12, 0)) := by
  intro q
  have r1 := h.at_ 1
  have en : wrap64 (12 + n) = 12 + n := wrap_id (by omega) (by omega)
  induction q with
  | zero =>
    intro i hi h2
    rw [List.drop_eq_nil_of_le (by omega)]
    simp only [List.all_nil, Bool.true_eq_false, if_false]
    refine Ev.step (f := fun _ => some (v, decide (rd l 1 ≥ 128), (rd l 1 / 64 % 2) == 1, (rd l 1 / 32 % 2) == 1, rd l 1 % 32, W l 2, W l 4, W l 6, W l 8, (l.take (12 + n.toNat)).drop 12, 0)) (fun k => ?_) (Ev.now _)
    simp only [sundialref10_Decode.l0]
    rw [if_neg (by omega), en, if_pos (by omega), if_pos hln, if_pos (by simp; omega), if_pos (by omega), two_eq h 2 (by omega) (by omega) hm, two_eq h 4 (by omega) (by omega) hm, two_eq h 6 (by omega) (by omega) hm, two_eq h 8 (by omega) (by omega) hm]
    simp only [Option.bind_some, List.nil_append]
    rw [Int.tdiv_eq_ediv_of_nonneg r1.1, Int.tdiv_eq_ediv_of_nonneg r1.1, Int.tmod_eq_emod_of_nonneg r1.1, wrap_id (x := rd l 1 % 32) (by omega) (by omega), show ((12 + n).toNat) = 12 + n.toNat by omega]
  | succ q ih =>
    intro i hi h2
    have hlt : i < l.length := by omega
    rw [List.drop_eq_getElem_cons hlt, List.all_cons]
    have hr : rd l (i : Int) = l[i] := rd_at hlt
    by_cases hz : l[i] = 0
    · refine Ev.step (f := fun k => sundialref10_Decode.l0 k l v n ((i + 1 : Nat) : Int) 0 false false false 0 0 0 0 0) (fun k => ?_) ?_
      · simp only [sundialref10_Decode.l0]
        rw [if_pos (by omega), if_pos (by omega), hr, if_pos hz, show wrap64 ((i : Int) + 1) = ((i + 1 : Nat) : Int) by rw [wrap_id (by omega) (by omega)]; omega]
      · have := ih (i + 1) (by omega) (by omega)
        simp only [hz, decide_true, Bool.true_and]
        exact this
    · simp only [hz, decide_false, Bool.false_and, if_true]
      refine Ev.step (f := fun _ => some (Z 3)) (fun k => ?_) (Ev.now _)
      simp only [sundialref10_Decode.l0]
      rw [if_pos (by omega), if_pos (by omega), hr, if_neg hz]
      rfl
end
theorem decR_ev {l : List Int} (h : Bs l) (hm : l.length ≤ 140737488351232) : Ev (fun k => sundialref10_Decode.f k l) (decF l) := by
  have jt : Ev (fun k => sundialref10_Decode.j0 k l true 0 false false false 0 0 0 0 0) (Z 20) := Ev.step (f := fun _ => some (Z 20)) (fun k => by simp only [sundialref10_Decode.j0]; rw [if_pos trivial]; rfl) (Ev.now _)
  unfold sundialref10_Decode.f decF
  by_cases c1 : l.length < 12
  · rw [if_pos (by omega)]
    simp only [show (l.length : Int) < 12 by omega, if_true]
    exact jt
  simp only [show ¬ (l.length : Int) < 12 by omega, if_false]
  by_cases c2 : l.length % 4 = 0
  rotate_left
  · rw [if_pos (by omega), show (((l.length : Int) % 4) != 0) = true by simp; omega]
    exact jt
  rw [if_neg (by omega), show (((l.length : Int) % 4) != 0) = false by simp; omega]
  have r0 := h.at_ 0
  have e0 : Int.tmod (rd l 0) 8 = rd l 0 % 8 := Int.tmod_eq_emod_of_nonneg r0.1
  have e1 : Int.tmod (wrap64 (Int.tdiv (wrap64 (rd l 0)) 8)) 8 = rd l 0 / 8 % 8 := by
    rw [wrap_id (x := rd l 0) (by omega) (by omega), Int.tdiv_eq_ediv_of_nonneg r0.1, wrap_id (by omega) (by omega)]; exact Int.tmod_eq_emod_of_nonneg (by omega)
  have j1t : Ev (fun k => sundialref10_Decode.j1 k l (rd l 0 / 8 % 8) true 0 false false false 0 0 0 0 0) (Z 22) := Ev.step (f := fun _ => some (Z 22)) (fun k => by simp only [sundialref10_Decode.j1]; rw [if_pos trivial]; rfl) (Ev.now _)
  by_cases c3 : rd l 0 % 8 = 6
  rotate_left
  · rw [if_pos c3]
    refine Ev.step (f := fun _ => some (Z 24)) (fun k => ?_) (Ev.now _)
    simp only [sundialref10_Decode.j0]
    rw [if_neg (by decide), if_pos (by omega), e0, if_neg c3]
    rfl
  rw [if_neg (by omega)]
  by_cases c4 : rd l 0 / 8 % 8 < 1 ∨ 4 < rd l 0 / 8 % 8
  · rw [if_pos c4]
    refine Ev.step (f := fun k => sundialref10_Decode.j1 k l (rd l 0 / 8 % 8) true 0 false false false 0 0 0 0 0) (fun k => ?_) j1t
    simp only [sundialref10_Decode.j0]
    rw [if_neg (by decide), if_pos (by omega), e0, if_pos c3, e1]
    by_cases c : rd l 0 / 8 % 8 = 0
    · rw [if_pos c]
    · rw [if_neg c, show decide (rd l 0 / 8 % 8 > 4) = true by simp; omega]
  rw [if_neg c4]
  refine Ev.step (f := fun k => sundialref10_Decode.j1 k l (rd l 0 / 8 % 8) false 0 false false false 0 0 0 0 0) (fun k => ?_) ?_
  · simp only [sundialref10_Decode.j0]
    rw [if_neg (by decide), if_pos (by omega), e0, if_pos c3, e1, if_neg (by omega), show decide (rd l 0 / 8 % 8 > 4) = false by simp; omega]
  have w10 := W_range h 10
  have t10 : sundialref10_two.f l 10 = some (W l 10) := two_eq h 10 (by omega) (by omega) hm
  have j2t : Ev (fun k => sundialref10_Decode.j2 k l (rd l 0 / 8 % 8) (W l 10) true 0 false false false 0 0 0 0 0) (Z 3) := Ev.step (f := fun _ => some (Z 3)) (fun k => by simp only [sundialref10_Decode.j2]; rw [if_pos trivial]; rfl) (Ev.now _)
  by_cases c5 : rd l 0 / 64 = 0
  rotate_left
  · rw [if_pos c5]
    refine Ev.step (f := fun k => sundialref10_Decode.j2 k l (rd l 0 / 8 % 8) (W l 10) true 0 false false false 0 0 0 0 0) (fun k => ?_) j2t
    simp only [sundialref10_Decode.j1]
    rw [if_neg (by decide), t10]
    simp only [Option.bind_some]
    rw [if_pos (by omega), if_pos (by omega)]
  rw [if_neg (by omega)]
  by_cases c6 : 468 < W l 10 ∨ (l.length : Int) ≠ 12 + (W l 10 + 3) / 4 * 4
  · rw [if_pos c6]
    refine Ev.step (f := fun k => sundialref10_Decode.j2 k l (rd l 0 / 8 % 8) (W l 10) true 0 false false false 0 0 0 0 0) (fun k => ?_) j2t
    simp only [sundialref10_Decode.j1]
    rw [if_neg (by decide), t10]
    simp only [Option.bind_some]
    rw [if_pos (by omega), if_neg (by omega)]
    by_cases c : W l 10 > 468
    · rw [if_pos c]
    · rw [if_neg c, wrap_id (x := W l 10 + 3) (by omega) (by omega), Int.tdiv_eq_ediv_of_nonneg (by omega), wrap_id (x := (W l 10 + 3) / 4) (by omega) (by omega), wrap_id (x := (W l 10 + 3) / 4 * 4) (by omega) (by omega), wrap_id (by omega) (by omega), show ((l.length : Int) != 12 + (W l 10 + 3) / 4 * 4) = true by simp; omega]
  rw [if_neg c6]
  have c7 : W l 10 ≤ 468 := by omega
  have c8 : (l.length : Int) = 12 + (W l 10 + 3) / 4 * 4 := by omega
  refine Ev.step (f := fun k => sundialref10_Decode.j2 k l (rd l 0 / 8 % 8) (W l 10) false 0 false false false 0 0 0 0 0) (fun k => ?_) ?_
  · simp only [sundialref10_Decode.j1]
    rw [if_neg (by decide), t10]
    simp only [Option.bind_some]
    rw [if_pos (by omega), if_neg (by omega), if_neg (by omega), wrap_id (x := W l 10 + 3) (by omega) (by omega), Int.tdiv_eq_ediv_of_nonneg (by omega), wrap_id (x := (W l 10 + 3) / 4) (by omega) (by omega), wrap_id (x := (W l 10 + 3) / 4 * 4) (by omega) (by omega), wrap_id (by omega) (by omega), show ((l.length : Int) != 12 + (W l 10 + 3) / 4 * 4) = false by simp; omega]
  have en : wrap64 (12 + W l 10) = ((12 + (W l 10).toNat : Nat) : Int) := by rw [wrap_id (by omega) (by omega)]; omega
  refine Ev.step (f := fun k => sundialref10_Decode.l0 k l (rd l 0 / 8 % 8) (W l 10) ((12 + (W l 10).toNat : Nat) : Int) 0 false false false 0 0 0 0 0) (fun k => ?_) ?_
  · simp only [sundialref10_Decode.j2]
    rw [if_neg (by decide), en]
  · exact dec_l0R h hm (by omega) (rd l 0 / 8 % 8) (W l 10) w10.1 c7 (by omega) (l.length - (12 + (W l 10).toNat)) (12 + (W l 10).toNat) (by omega) (by omega)
end Go.Proofs.Ytcppipndapaljaa.C
