/- Frames and their bytes in plain Lean: what each of the printed functions comes to. -/
import Derived.Test.YtcppipndapaljaaQx2
import Derived.Laws.BitsLemmas
namespace Go.Proofs.Ytcppipndapaljaa.C
open Go.RowKit Go.Proofs.Ytcppipndapaljaa.Q Go.Proofs.YtcppipndapaljaaW.PrintWords Go.Proofs.YtcppipndapaljaaW.PrintLast Go.Proofs.YtcppipndapaljaaCopy

theorem wrap_id {x : Int} (h : -9223372036854775808 ≤ x) (h2 : x ≤ 9223372036854775807) : wrap64 x = x := by unfold wrap64; omega
theorem all_at {n : Nat} (p : Nat → Bool) (h : (List.range n).all p = true) {x : Int} (h0 : 0 ≤ x) (h1 : x < n) : ∃ m : Nat, x = m ∧ p m = true := by
  refine ⟨x.toNat, by omega, ?_⟩
  exact List.all_eq_true.1 h _ (List.mem_range.2 (by omega))
theorem bit128 {x : Int} (h0 : 0 ≤ x) (h1 : x < 256) : (Go.bits .and .u8 x 128 != 0) = decide (x ≥ 128) := by
  obtain ⟨m, rfl, h⟩ := all_at (n := 256) (fun m => (Go.bits .and .u8 (m : Int) 128 != 0) == decide ((m : Int) ≥ 128)) (by kernel_rfl) h0 h1
  simpa using h
theorem bit64 {x : Int} (h0 : 0 ≤ x) (h1 : x < 256) : (Go.bits .and .u8 x 64 != 0) = ((x / 64 % 2) == 1) := by
  obtain ⟨m, rfl, h⟩ := all_at (n := 256) (fun m => (Go.bits .and .u8 (m : Int) 64 != 0) == (((m : Int) / 64 % 2) == 1)) (by kernel_rfl) h0 h1
  exact eq_of_beq h
theorem bit32 {x : Int} (h0 : 0 ≤ x) (h1 : x < 256) : (Go.bits .and .u8 x 32 != 0) = ((x / 32 % 2) == 1) := by
  obtain ⟨m, rfl, h⟩ := all_at (n := 256) (fun m => (Go.bits .and .u8 (m : Int) 32 != 0) == (((m : Int) / 32 % 2) == 1)) (by kernel_rfl) h0 h1
  exact eq_of_beq h
theorem up4 {x : Int} (h0 : 0 ≤ x) (h1 : x < 480) : Go.bits .andNot .i64 x 3 = x / 4 * 4 := by
  obtain ⟨m, rfl, h⟩ := all_at (n := 480) (fun m => Go.bits .andNot .i64 (m : Int) 3 == (m : Int) / 4 * 4) (by kernel_rfl) h0 h1
  exact eq_of_beq h
theorem word_or {a b : Int} (ha : 0 ≤ a) (ha1 : a < 256) (hb : 0 ≤ b) (hb1 : b < 256) : Go.bits .or .i64 (wrap64 ((wrap64 a) * 256)) (wrap64 b) = a * 256 + b := by
  rw [wrap_id (x := a) (by omega) (by omega), wrap_id (x := b) (by omega) (by omega), wrap_id (by omega) (by omega)]
  exact Go.bits_join .i64 16 (by decide) (fun n h0 h1 => by rw [Go.IntKind.wrap_i64]; omega) 8 _ _ (by omega) (by omega) (by omega) hb (by omega) (by omega)
theorem first_or {v : Int} (h1 : 1 ≤ v) (h4 : v ≤ 4) : (Go.bits .or .i64 (wrap64 (v * 8)) 6) % 256 = v * 8 + 6 := by
  obtain ⟨n, rfl, h⟩ := all_at (n := 5) (fun n => n == 0 || (Go.bits .or .i64 (wrap64 ((n : Int) * 8)) 6) % 256 == (n : Int) * 8 + 6) (by kernel_rfl) (by omega : 0 ≤ v) (by omega)
  simp only [Bool.or_eq_true, beq_iff_eq] at h
  rcases h with h | h
  · omega
  · exact h
def b1 (b : Bool) : Int := if b = true then 1 else 0
theorem second_or (r e m : Bool) {op : Int} (h0 : 0 ≤ op) (h1 : op < 32) :
    (let x1 := if r = true then Go.bits .or .u8 (op % 256) 128 else op % 256
     let x2 := if e = true then Go.bits .or .u8 x1 64 else x1
     if m = true then Go.bits .or .u8 x2 32 else x2) = b1 r * 128 + b1 e * 64 + b1 m * 32 + op := by
  obtain ⟨n, rfl, h⟩ := all_at (n := 32) (fun n => [true, false].all fun r => [true, false].all fun e => [true, false].all fun m =>
    (let x1 := if r = true then Go.bits .or .u8 ((n : Int) % 256) 128 else (n : Int) % 256
     let x2 := if e = true then Go.bits .or .u8 x1 64 else x1
     if m = true then Go.bits .or .u8 x2 32 else x2) == b1 r * 128 + b1 e * 64 + b1 m * 32 + (n : Int)) (by kernel_rfl) h0 h1
  simp only [List.all_cons, List.all_nil, Bool.and_true, Bool.and_eq_true, beq_iff_eq] at h
  obtain ⟨⟨⟨a1, a2⟩, a3, a4⟩, ⟨a5, a6⟩, a7, a8⟩ := h
  cases r <;> cases e <;> cases m <;> simp only [Bool.false_eq_true, if_true, if_false] at * <;> first | with_reducible exact a1 | with_reducible exact a2 | with_reducible exact a3 | with_reducible exact a4 | with_reducible exact a5 | with_reducible exact a6 | with_reducible exact a7 | with_reducible exact a8

/-- Is a frame right? -/
def isF (v op s st asc off : Int) (n : Nat) : Bool := decide (1 ≤ v ∧ v ≤ 4 ∧ 0 ≤ op ∧ op ≤ 31 ∧ (0 ≤ s ∧ s ≤ 65535) ∧ (0 ≤ st ∧ st ≤ 65535) ∧ (0 ≤ asc ∧ asc ≤ 65535) ∧ (0 ≤ off ∧ off ≤ 65535) ∧ n ≤ 468)

variable (v : Int) (r e m : Bool) (op s st asc off : Int) (dt : List Int)
theorem is_step (ws : List Int) (h4 : ws.length = 4) (i : Nat) (hi : i < 4) (k : Nat) : ctl_is.l0 (k + 1) ws 4 i v r e m op s st asc off dt = if 0 ≤ ws[i] ∧ ws[i] ≤ 65535 then ctl_is.l0 k ws 4 ((i + 1 : Nat) : Int) v r e m op s st asc off dt else some false := by
  have hr : rd ws (i : Int) = ws[i] := by unfold rd; simp [List.getD_eq_getElem?_getD, List.getElem?_eq_getElem (show i < ws.length by omega)]
  simp only [ctl_is.l0]
  rw [if_pos (by omega), if_pos (by omega), if_pos (by omega), hr, show wrap64 ((i : Int) + 1) = ((i + 1 : Nat) : Int) by rw [wrap_id (by omega) (by omega)]; omega]
  by_cases h1 : ws[i] < 0
  · rw [if_pos h1, if_neg (by omega)]
  · rw [if_neg h1]
    by_cases h2 : ws[i] ≥ 65536
    · rw [if_pos h2, if_neg (by omega)]
    · rw [if_neg h2, if_pos (by omega)]
theorem is_end (ws : List Int) (k : Nat) : ctl_is.l0 (k + 1) ws 4 ((4 : Nat) : Int) v r e m op s st asc off dt = some (decide (1 ≤ v ∧ v ≤ 4 ∧ 0 ≤ op ∧ op ≤ 31 ∧ dt.length ≤ 468)) := by
  simp only [ctl_is.l0]
  rw [if_neg (by decide)]
  by_cases h1 : v ≥ 1 <;> by_cases h2 : v ≤ 4 <;> by_cases h3 : op ≥ 0 <;> by_cases h4 : op < 32 <;> simp only [h1, h2, h3, h4, if_true, if_false] <;> congr 1 <;> rw [Bool.eq_iff_iff] <;> simp <;> omega
theorem is_ev : Ev (fun k => ctl_is.f k v r e m op s st asc off dt) (isF v op s st asc off dt.length) := by
  unfold ctl_is.f
  simp only [Option.bind_some, List.length_cons, List.length_nil]
  refine Ev.step (is_step v r e m op s st asc off dt [s, st, asc, off] rfl 0 (by decide)) ?_
  by_cases h1 : 0 ≤ s ∧ s ≤ 65535
  rotate_left
  · simp only [List.getElem_cons_zero, if_neg h1]
    rw [show isF v op s st asc off dt.length = false by unfold isF; rw [decide_eq_false_iff_not]; omega]
    exact Ev.now _
  simp only [List.getElem_cons_zero, if_pos h1]
  refine Ev.step (is_step v r e m op s st asc off dt [s, st, asc, off] rfl 1 (by decide)) ?_
  by_cases h2 : 0 ≤ st ∧ st ≤ 65535
  rotate_left
  · simp only [List.getElem_cons_zero, List.getElem_cons_succ, if_neg h2]
    rw [show isF v op s st asc off dt.length = false by unfold isF; rw [decide_eq_false_iff_not]; omega]
    exact Ev.now _
  simp only [List.getElem_cons_zero, List.getElem_cons_succ, if_pos h2]
  refine Ev.step (is_step v r e m op s st asc off dt [s, st, asc, off] rfl 2 (by decide)) ?_
  by_cases h3 : 0 ≤ asc ∧ asc ≤ 65535
  rotate_left
  · simp only [List.getElem_cons_zero, List.getElem_cons_succ, if_neg h3]
    rw [show isF v op s st asc off dt.length = false by unfold isF; rw [decide_eq_false_iff_not]; omega]
    exact Ev.now _
  simp only [List.getElem_cons_zero, List.getElem_cons_succ, if_pos h3]
  refine Ev.step (is_step v r e m op s st asc off dt [s, st, asc, off] rfl 3 (by decide)) ?_
  by_cases h4 : 0 ≤ off ∧ off ≤ 65535
  rotate_left
  · simp only [List.getElem_cons_zero, List.getElem_cons_succ, if_neg h4]
    rw [show isF v op s st asc off dt.length = false by unfold isF; rw [decide_eq_false_iff_not]; omega]
    exact Ev.now _
  simp only [List.getElem_cons_zero, List.getElem_cons_succ, if_pos h4]
  refine Ev.step (is_end v r e m op s st asc off dt [s, st, asc, off]) ?_
  rw [show isF v op s st asc off dt.length = decide (1 ≤ v ∧ v ≤ 4 ∧ 0 ≤ op ∧ op ≤ 31 ∧ dt.length ≤ 468) by unfold isF; rw [Bool.eq_iff_iff, decide_eq_true_eq, decide_eq_true_eq]; omega]
  exact Ev.now _

/-- A frame's bytes. -/
def encF : List Int := [v * 8 + 6, b1 r * 128 + b1 e * 64 + b1 m * 32 + op, s / 256, s % 256, st / 256, st % 256, asc / 256, asc % 256, off / 256, off % 256, (dt.length : Int) / 256, (dt.length : Int) % 256] ++ dt ++ List.replicate ((dt.length + 3) / 4 * 4 - dt.length) 0
theorem rd_at {l : List Int} {i : Nat} (h : i < l.length) : rd l (i : Int) = l[i] := by unfold rd; simp [List.getD_eq_getElem?_getD, List.getElem?_eq_getElem h]
theorem enc1_step (ws x7 : List Int) (h5 : ws.length = 5) (h12 : 12 ≤ x7.length) (i : Nat) (hi : i < 5) (k : Nat) : ctl_Encode.l1 (k + 1) x7 ws 5 i v r e m op s st asc off dt = ctl_Encode.l1 k ((x7.set (2 + 2 * i) (ws[i] / 256 % 256)).set (3 + 2 * i) (ws[i] % 256)) ws 5 ((i + 1 : Nat) : Int) v r e m op s st asc off dt := by
  have e2 : wrap64 (2 * (i : Int)) = 2 * i := wrap_id (by omega) (by omega)
  have e3 : wrap64 (2 + (2 * (i : Int))) = ((2 + 2 * i : Nat) : Int) := by rw [wrap_id (by omega) (by omega)]; omega
  have e4 : wrap64 (3 + (2 * (i : Int))) = ((3 + 2 * i : Nat) : Int) := by rw [wrap_id (by omega) (by omega)]; omega
  simp only [ctl_Encode.l1]
  rw [if_pos (by omega), if_pos (by omega), if_pos (by omega), e2, e3, e4, if_pos (by omega), if_pos (by omega), if_pos (by omega), if_pos (by omega), rd_at (show i < ws.length by omega), show wrap64 ((i : Int) + 1) = ((i + 1 : Nat) : Int) by rw [wrap_id (by omega) (by omega)]; omega]
  rfl
theorem enc1_end (ws x7 : List Int) (h12 : 12 ≤ x7.length) (hl : x7.length + dt.length < 140737488355328) (k : Nat) : ctl_Encode.l1 (k + 1) x7 ws 5 ((5 : Nat) : Int) v r e m op s st asc off dt = some (copyAt x7 12 dt, 0) := by
  simp only [ctl_Encode.l1]
  rw [if_neg (by decide), if_pos (by omega), if_pos hl]
theorem set12 (M : Nat) (a b : Int) (ws : List Int) (h5 : ws.length = 5) : ((((((((((((List.replicate (12 + M) (0 : Int)).set 0 a).set 1 b).set (2 + 2 * 0) (ws[0] / 256 % 256)).set (3 + 2 * 0) (ws[0] % 256)).set (2 + 2 * 1) (ws[1] / 256 % 256)).set (3 + 2 * 1) (ws[1] % 256)).set (2 + 2 * 2) (ws[2] / 256 % 256)).set (3 + 2 * 2) (ws[2] % 256)).set (2 + 2 * 3) (ws[3] / 256 % 256)).set (3 + 2 * 3) (ws[3] % 256)).set (2 + 2 * 4) (ws[4] / 256 % 256)).set (3 + 2 * 4) (ws[4] % 256)
    = [a, b, ws[0] / 256 % 256, ws[0] % 256, ws[1] / 256 % 256, ws[1] % 256, ws[2] / 256 % 256, ws[2] % 256, ws[3] / 256 % 256, ws[3] % 256, ws[4] / 256 % 256, ws[4] % 256] ++ List.replicate M 0 := by
  have : List.replicate (12 + M) (0 : Int) = [0, 0, 0, 0, 0, 0, 0, 0, 0, 0, 0, 0] ++ List.replicate M 0 := by
    rw [show ([0, 0, 0, 0, 0, 0, 0, 0, 0, 0, 0, 0] : List Int) = List.replicate 12 0 from rfl, List.replicate_append_replicate]
  rw [this]
  rfl
theorem copy12 (h : List Int) (M : Nat) (dt : List Int) (h12 : h.length = 12) (hM : dt.length ≤ M) : copyAt (h ++ List.replicate M 0) 12 dt = h ++ dt ++ List.replicate (M - dt.length) 0 := by
  unfold copyAt splice
  rw [List.take_of_length_le (l := dt) (by simp [h12]; omega)]
  rw [List.take_append_of_le_length (by omega), List.take_of_length_le (by omega)]
  rw [List.drop_append, show List.drop (12 + dt.length) h = [] from List.drop_eq_nil_of_le (by omega), List.drop_replicate, h12]
  rw [List.nil_append, List.append_assoc, show M - (12 + dt.length - 12) = M - dt.length by omega]
theorem encT_ev (x4 : Int) (hv : 1 ≤ v) (hv4 : v ≤ 4) (hs : 0 ≤ s ∧ s ≤ 65535) (hst : 0 ≤ st ∧ st ≤ 65535) (has : 0 ≤ asc ∧ asc ≤ 65535) (hoff : 0 ≤ off ∧ off ≤ 65535) (hd : dt.length ≤ 468) (y : List S48) :
    Ev (fun k => ctl_Encode.l0 k x4 y 3 ((3 : Nat) : Int) v r e m op s st asc off dt) ([v * 8 + 6, x4, s / 256, s % 256, st / 256, st % 256, asc / 256, asc % 256, off / 256, off % 256, (dt.length : Int) / 256, (dt.length : Int) % 256] ++ dt ++ List.replicate ((dt.length + 3) / 4 * 4 - dt.length) 0, 0) := by
  have eN : wrap64 (12 + Go.bits .andNot .i64 (wrap64 ((dt.length : Int) + 3)) 3) = ((12 + (dt.length + 3) / 4 * 4 : Nat) : Int) := by
    rw [wrap_id (x := (dt.length : Int) + 3) (by omega) (by omega), up4 (by omega) (by omega), wrap_id (by omega) (by omega)]; omega
  generalize hM : (dt.length + 3) / 4 * 4 = M at *
  have hlM : dt.length ≤ M := by omega
  have hM2 : M ≤ 480 := by omega
  refine Ev.step (f := fun k => ctl_Encode.l1 k (((List.replicate (12 + M) (0 : Int)).set 0 (v * 8 + 6)).set 1 x4) [s, st, asc, off, (dt.length : Int)] 5 ((0 : Nat) : Int) v r e m op s st asc off dt) (fun k => ?_) ?_
  · simp only [ctl_Encode.l0]
    rw [if_neg (by decide), eN, if_pos (by omega), if_pos (by omega)]
    simp only [Option.bind_some, Int.toNat_natCast, List.length_replicate, first_or hv hv4]
    rw [if_pos (by omega), if_pos (by omega)]
    rfl
  · have L : ∀ (x : List Int) (i j : Nat) (p q : Int), ((x.set i p).set j q).length = x.length := by intros; simp
    have Z : 12 ≤ (((List.replicate (12 + M) (0 : Int)).set 0 (v * 8 + 6)).set 1 x4).length := by rw [L]; simp
    generalize hz : ((List.replicate (12 + M) (0 : Int)).set 0 (v * 8 + 6)).set 1 x4 = x0 at *
    have Zl : x0.length = 12 + M := by rw [← hz, L]; simp
    refine Ev.step (enc1_step v r e m op s st asc off dt _ x0 rfl Z 0 (by decide)) ?_
    refine Ev.step (enc1_step v r e m op s st asc off dt _ _ rfl (by rw [L]; exact Z) 1 (by decide)) ?_
    refine Ev.step (enc1_step v r e m op s st asc off dt _ _ rfl (by rw [L, L]; exact Z) 2 (by decide)) ?_
    refine Ev.step (enc1_step v r e m op s st asc off dt _ _ rfl (by rw [L, L, L]; exact Z) 3 (by decide)) ?_
    refine Ev.step (enc1_step v r e m op s st asc off dt _ _ rfl (by rw [L, L, L, L]; exact Z) 4 (by decide)) ?_
    refine Ev.step (enc1_end v r e m op s st asc off dt _ _ (by rw [L, L, L, L, L]; exact Z) (by rw [L, L, L, L, L, Zl]; omega)) ?_
    rw [← hz, set12 M _ _ [s, st, asc, off, (dt.length : Int)] rfl, copy12 _ M dt rfl hlM]
    simp only [List.getElem_cons_zero, List.getElem_cons_succ]
    have m1 : ∀ x : Int, 0 ≤ x → x ≤ 65535 → x / 256 % 256 = x / 256 := fun x h0 h1 => by omega
    rw [m1 s hs.1 hs.2, m1 st hst.1 hst.2, m1 asc has.1 has.2, m1 off hoff.1 hoff.2, m1 (dt.length : Int) (by omega) (by omega)]
    exact Ev.now _
theorem encL_step (x4 : Int) (y : List S48) (hy : y.length = 3) (i : Nat) (hi : i < 3) (k : Nat) : ctl_Encode.l0 (k + 1) x4 y 3 i v r e m op s st asc off dt = ctl_Encode.l0 k (if y[i].f0 = true then Go.bits .or .u8 x4 y[i].f1 else x4) y 3 ((i + 1 : Nat) : Int) v r e m op s st asc off dt := by
  have hr : rd_T48 y (i : Int) = y[i] := by unfold rd_T48; simp [List.getD_eq_getElem?_getD, List.getElem?_eq_getElem (show i < y.length by omega)]
  simp only [ctl_Encode.l0]
  rw [if_pos (by omega), if_pos (by omega), if_pos (by omega), hr, show wrap64 ((i : Int) + 1) = ((i + 1 : Nat) : Int) by rw [wrap_id (by omega) (by omega)]; omega]
  by_cases h : y[i].f0 = true <;> simp [h]
theorem enc_ev : Ev (fun k => ctl_Encode.f k v r e m op s st asc off dt) (if isF v op s st asc off dt.length = true then (encF v r e m op s st asc off dt, 0) else ([], 3)) := by
  unfold ctl_Encode.f
  refine Ev.bind (is_ev v r e m op s st asc off dt) ?_
  by_cases h : isF v op s st asc off dt.length = true
  rotate_left
  · simp only [if_neg h]
    exact Ev.now _
  simp only [if_pos h, Option.bind_some, List.length_cons, List.length_nil]
  have h' := h
  unfold isF at h'
  rw [decide_eq_true_eq] at h'
  refine Ev.step (encL_step v r e m op s st asc off dt _ _ rfl 0 (by decide)) ?_
  refine Ev.step (encL_step v r e m op s st asc off dt _ _ rfl 1 (by decide)) ?_
  refine Ev.step (encL_step v r e m op s st asc off dt _ _ rfl 2 (by decide)) ?_
  have so := second_or r e m (op := op) h'.2.2.1 (by omega)
  simp only at so
  simp only [List.getElem_cons_zero, List.getElem_cons_succ]
  rw [so]
  exact encT_ev v r e m op s st asc off dt _ h'.1 h'.2.1 h'.2.2.2.2.1 h'.2.2.2.2.2.1 h'.2.2.2.2.2.2.1 h'.2.2.2.2.2.2.2.1 h'.2.2.2.2.2.2.2.2 _

end Go.Proofs.Ytcppipndapaljaa.C
