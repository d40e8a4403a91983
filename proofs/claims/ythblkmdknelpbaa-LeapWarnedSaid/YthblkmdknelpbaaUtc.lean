/- slices.Backward at a slice of changes: the iterator's contract. -/
import Derived.RangeFuncBox
import Derived.RangeFuncLeaves
import Derived.RangeFuncNested
import Derived.RangeFuncBound
import Derived.RangeFuncCalls
import Derived.Shelf.Abstract
import Derived.Shelf.RegionOpen
import Derived.WalkKit
import Derived.OwnWalkIn
import Derived.TacticsInMore
import Derived.LoopNIn
import Derived.LoopIn
import Derived.Test.YthblkmdknelpbaaProg
namespace Go.Proofs.YthblkmdknelpbaaU
open Go.RowKit Go.Shelf
attribute [local go_sem] Oper.semAt_some

/-- What has come when m elements are left: from the last one down. -/
def came (len m : Nat) : List (Fin len) := (List.range (len - m)).filterMap fun j => if h : len - 1 - j < len then some ⟨len - 1 - j, h⟩ else none
theorem came_succ {len m : Nat} (h : m < len) : came len m = came len (m + 1) ++ [⟨m, h⟩] := by
  unfold came
  rw [show len - m = (len - (m + 1)) + 1 by omega, List.range_succ, List.filterMap_append]
  congr 1
  have e : len - 1 - (len - (m + 1)) = m := by omega
  simp only [List.filterMap_cons, List.filterMap_nil, e, h, dif_pos]
theorem came_all (len : Nat) : came len len = [] := by unfold came; simp
theorem came_length {len : Nat} : ∀ (q m : Nat), m + q = len → (came len m).length = q := by
  intro q
  induction q with
  | zero => intro m h; obtain rfl : m = len := by omega
            rw [came_all]; rfl
  | succ q ih => intro m h; rw [came_succ (show m < len by omega), List.length_append, ih (m + 1) (by omega)]; rfl
def encEl (zs : Nat → Int × Int) {len : Nat} (x : Fin len) : Array Value := #[.int .i64 (x.val : Int), .agg #[.int .i64 (zs x.val).1, .int .i64 (zs x.val).2]]
def Cs (W : World) (ad : Addr) (len : Nat) (zs : Nat → Int × Int) : Prop :=
  ∀ j, j < len → W.cell? (ad.add (j * 2)) = some (.int .i64 (zs j).1) ∧ W.cell? ⟨(ad.add (j * 2)).block, (ad.add (j * 2)).off + 1, none⟩ = some (.int .i64 (zs j).2)
theorem Cs.below {n₀ : Nat} {A B : World} (h : Below n₀ A B) {ad : Addr} {len : Nat} {zs : Nat → Int × Int} (hb : ad.block < n₀) (hc : Cs A ad len zs) : Cs B ad len zs := fun j hj => by
  have e : (ad.add (j * 2)).block = ad.block := by unfold Addr.add; split <;> rfl
  exact ⟨(h.cell (p := ad.add (j * 2)) (by rw [e]; exact hb)).trans (hc j hj).1, (h.cell (p := ⟨(ad.add (j * 2)).block, (ad.add (j * 2)).off + 1, none⟩) (by show (ad.add (j * 2)).block < n₀; rw [e]; exact hb)).trans (hc j hj).2⟩

set_option maxRecDepth 100000 in
set_option maxHeartbeats 2000000 in
theorem bw1_in (F : Fence) (n : Nat) (h21 : F.fn 21) (hro : F.round = none) (hn : 1 ≤ n) (l Bs n₀ len cap : Nat) (A : Option Addr) (zs : Nat → Int × Int) (hreach : len ≤ 140737488351232) (J Jx : List (Fin len) → World → Prop)
    (hY : ∀ pre x W, J pre W → pre.length < len → YieldAt F (n - 1) Try.prog l (encEl zs x) W fun e W' =>
      (e = .returned (.bool true) ∧ J (pre ++ [x]) W' ∧ Below n₀ W W') ∨ (e = .returned (.bool false) ∧ Jx (pre ++ [x]) W'))
    (W : World) (hBn : Bs < n₀) (hBs : W.cell? ⟨Bs, 0, none⟩ = some (.slice A len cap)) (hc : 0 < len → ∃ ad, A = some ad ∧ ad.block < n₀ ∧ Cs W ad len zs) (h0 : J [] W) :
    CallsIn F n Try.prog 21 #[.func (.yield l) #[] #[], .pointer (some ⟨Bs, 0, none⟩)] W fun e W' => (∃ v, e = .returned v) ∧
      (J (came len 0) W' ∨ (∃ m, m < len ∧ Jx (came len m) W')) := by
  refine callsIn_of_wp Try.func21 rfl h21 ?_ hro
  simp only [Try.ntmps21, List.size_toArray, List.length_cons, List.length_nil, Nat.reduceAdd, Nat.reduceSub, Array.replicate_succ, Array.replicate_zero, List.push_toArray, List.append_toArray, List.nil_append, List.cons_append]
  gi_wp2
  gi_loopw [3] (fun i wr => ∃ (m : Nat) (v : Int), m ≤ len ∧ i = .int .i64 v ∧ v = (m : Int) - 1 ∧ J (came len m) wr ∧ Below n₀ W wr)
    (fun i _ => (intOf i + 1).toNat)
  case atStart => exact ⟨len, (len : Int) - 1, Nat.le_refl _, rfl, rfl, by rw [came_all]; exact h0, Below.refl _ _⟩
  case round =>
    obtain ⟨m, v, hm, rfl, hv, hJs, hnx⟩ := hrel
    have hBs' := (hnx.cell (p := ⟨Bs, 0, none⟩) hBn).trans hBs
    cases m with
    | zero =>
      obtain rfl : v = -1 := by omega
      clear hv
      gi_wp2
      go_end0
      exact ⟨⟨_, rfl⟩, .inl hJs⟩
    | succ m =>
      obtain rfl : v = (m : Int) := by omega
      clear hv
      have hlt : m < len := by omega
      obtain ⟨ad, rfl, hb, hcs⟩ := hc (by omega)
      obtain ⟨hcx1, hcx2⟩ := (hcs.below hnx hb) m hlt
      obtain ⟨fn, tmps, assign, body, hy, hR⟩ := hY _ ⟨m, hlt⟩ wr hJs (by rw [came_length (len - (m + 1)) (m + 1) (by omega)]; omega)
      dsimp only [encEl] at hy
      gi_wp2
      refine hR.mono ?_
      rintro e W3 (⟨rfl, hJ3, hk3⟩ | ⟨rfl, hJx3⟩)
      · gi_wp2
        go_roundw
        case rel => exact ⟨m, (m : Int) - 1, by omega, rfl, rfl, by rw [came_succ hlt]; exact hJ3, hnx.trans hk3⟩
        case measure => simp [intOf]
      · gi_wp2
        refine bodyPost_ret (results_none rfl _ _ _) rfl ?_
        exact ⟨⟨_, rfl⟩, .inr ⟨m, hlt, by rw [came_succ hlt]; exact hJx3⟩⟩
end Go.Proofs.YthblkmdknelpbaaU
