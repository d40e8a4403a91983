/- slices.Sort and slices.Compact at rows of whole numbers of the call's own, in the printer's words. -/
import Derived.Test.YthblkmdknelpbaaCopy
import Derived.Test.YthblkmdknelpbaaWKept
import Derived.Shelf.SlicesG.CompactI
import Derived.Sort.Grow
import Derived.Shelf.SortM.Plain
import Derived.Shelf.SortM.SortNone
namespace Go.Proofs.YthblkmdknelpbaaI
open Go.RowKit Go.Shelf Go.Lib Go.Sort
open Go.Proofs.YthblkmdknelpbaaW.PrintWords (Kd Reps OwnRow Kept)
open Go.Proofs.YthblkmdknelpbaaCopy (reps_int reps_int_mk)
set_option linter.unusedVariables false
variable {P : Program} {ρ : Ren}

theorem holds_row {w : World} {gb : Nat} {cur : Array Value} {e : TypeId} {xs : List Int} (hblk : w.heap[gb]? = some (.cells cur e (0, 0))) (hle : xs.length ≤ cur.size) (htake : cur.toList.take xs.length = xs.map (Value.int .i64)) : Holds (Value.int .i64) w gb 0 xs.toArray := by
  intro j hj
  have hj' : j < xs.length := by simpa using hj
  refine ⟨?_, by simp [World.frozen?, hblk]⟩
  have h1 : w.cell? ⟨gb, 0 + j, none⟩ = cur[0 + j]? := by simp [World.cell?, hblk]
  rw [h1, Nat.zero_add, ← Array.getElem?_toList]
  have h2 : (cur.toList.take xs.length)[j]? = cur.toList[j]? := List.getElem?_take_of_lt hj'
  rw [← h2, htake, List.getElem?_map, List.getElem?_eq_getElem hj']
  simp [hj']
/-- The row behind a write of the whole of it, cut to its first m. -/
theorem put_row {base e gb cap : Nat} {P0 : Nat → Prop} {w0 w : World} {xs : List Int} {cur : Array Value} (hbase : w0.heap.size ≤ gb) (hP : P0 gb) (hblk : w.heap[gb]? = some (.cells cur e (0, 0))) (hnc : xs.length ≤ cap) (hcm : cap ≤ maxLen) (hcs : cur.size = cap * 1) (hB : Go.RowKit.Below w0.heap.size w0 w)
    (n : Nat) (os : Array Obj) (ys : List Int) (hl : ys.length = xs.length) (m : Nat) (hm : m ≤ ys.length) (W : World) (hW : W = grow (putRow (Value.int .i64) (Sort.ahead w n) gb 0 ys.toArray) os) :
    Kd.R (Kd.int .i64) e W w0.heap.size (fun k_ => (P0 k_ ∨ w.heap.size ≤ k_)) (.slice (some ⟨gb, 0, none⟩) m cap) (ys.take m) ∧ Go.RowKit.Below w0.heap.size w0 W ∧ Kept w W (fun k_ => P0 k_) := by
  have hlt : gb < w.heap.size := (Array.getElem?_eq_some_iff.1 hblk).1
  have hblk' : W.heap[gb]? = some (.cells (putCells (Value.int .i64) 0 ys.toArray cur) e (0, 0)) := by
    rw [hW]
    unfold grow putRow mapBlock
    simp only [Sort.ahead]
    rw [Array.getElem?_append_left (by simpa using hlt), Array.getElem?_modify]
    simp [hblk, onCells]
  have hother : ∀ i, i < w.heap.size → i ≠ gb → W.heap[i]? = w.heap[i]? := by
    intro i hi hne
    rw [hW]
    unfold grow putRow mapBlock
    simp only [Sort.ahead]
    rw [Array.getElem?_append_left (by simpa using hi), Array.getElem?_modify]
    simp [Ne.symm hne]
  have hsize : w.heap.size ≤ W.heap.size := by
    rw [hW]
    unfold grow putRow mapBlock
    simp [Sort.ahead]
  have hos : W.os = w.os ∧ W.tape = w.tape ∧ W.output = w.output := by
    rw [hW]
    exact ⟨rfl, rfl, rfl⟩
  have htl : (ys.take m).length = m := by rw [List.length_take]; omega
  refine ⟨⟨fun k_ hk_ => .inl ?_, (ys.take m).map (Value.int .i64), ⟨?_, .inr ⟨gb, cap, putCells (Value.int .i64) 0 ys.toArray cur, ?_, hbase, hblk', ?_, hcm, ?_, ?_⟩⟩, reps_int_mk _⟩, ?_, ?_⟩
  · have : gb = k_ := by simpa [Value.ownBlock] using hk_
    exact this ▸ hP
  · rw [List.length_map, htl]; exact (Nat.mul_one _).symm
  · rw [htl]
  · rw [htl]; omega
  · show (putCells (Value.int .i64) 0 ys.toArray cur).size = cap * 1
    simp [putCells]; omega
  · rw [htl]
    show ((putCells (Value.int .i64) 0 ys.toArray cur).toList.take (m * 1)) = _
    rw [Nat.mul_one]
    apply List.ext_getElem?
    intro i
    have hcl : ys.length ≤ cur.size := by omega
    by_cases hi : i < m
    · rw [List.getElem?_take_of_lt hi, Array.getElem?_toList, List.getElem?_map, List.getElem?_take_of_lt hi]
      have hi3 : i < cur.size := by omega
      have hi4 : i < ys.length := by omega
      simp [putCells, hi3, hi4]
    · rw [List.getElem?_eq_none (by simp; omega), List.getElem?_eq_none (by simp; omega)]
  · exact ⟨hos.1.trans hB.os, hos.2.1.trans hB.tape, hos.2.2.trans hB.output, Nat.le_trans hB.size hsize, fun i hi => (hother i (Nat.lt_of_lt_of_le hi hB.size) (by omega)).trans (hB.block i hi)⟩
  · exact ⟨hsize, fun i hi hn => hother i hi (fun h => hn (h ▸ hP))⟩
def sortI (l : List Int) : List Int := l.mergeSort fun x y => decide (x ≤ y)
theorem sort_int (L : SlLaysM.n5 P ρ) {e : Nat} {P0 : Nat → Prop} {v : Value} {xs : List Int} {w0 w : World} (hB : Go.RowKit.Below w0.heap.size w0 w) (ho : Kd.R (Kd.int .i64) e w w0.heap.size P0 v xs) (hl : xs.length < 4611686018427387904) :
    Calls P (ρ.f 5) #[v] w fun e' w' => e' = .returned (.tuple #[]) ∧ Kd.R (Kd.int .i64) e w' w0.heap.size (fun k_ => (P0 k_ ∨ w.heap.size ≤ k_)) v (sortI xs) ∧ Go.RowKit.Below w0.heap.size w0 w' ∧ Kept w w' (fun k_ => P0 k_) := by
  obtain ⟨hok, inner, hown, hreps⟩ := ho
  obtain rfl := reps_int hreps
  obtain ⟨hlen, hown⟩ := hown
  rcases hown with ⟨rfl, hn⟩ | ⟨gb, cap, cur, rfl, hbase, hblk, hnc, hcm, hcs, htake⟩
  · obtain rfl := List.length_eq_zero_iff.1 hn
    refine (AnyM.slices_Sort_int_none L none 0 w).mono ?_
    rintro e' w' ⟨rfl, rfl⟩
    exact ⟨rfl, by unfold sortI; rw [List.mergeSort_nil]; exact Kd.R_nil _ _ _ _ _, hB, Kept.refl _ _⟩
  · have hlt : gb < w.heap.size := (Array.getElem?_eq_some_iff.1 hblk).1
    have hcs' : cur.size = cap * 1 := hcs
    refine (AnyM.slices_Sort_int L gb 0 cap xs w (holds_row hblk (by omega) (by have h9 : cur.toList.take (xs.length * 1) = xs.map (Value.int .i64) := htake; rwa [Nat.mul_one] at h9)) hlt hl).mono ?_
    rintro e' w' ⟨rfl, n', os, hw⟩
    have hrl : (sortI xs).length = xs.length := List.length_mergeSort _
    have := put_row (base := 0) hbase (hok gb rfl) hblk hnc hcm hcs' hB n' os (sortI xs) hrl xs.length (by omega) w' hw
    rw [List.take_of_length_le (by omega)] at this
    exact ⟨rfl, this⟩
theorem compact_int (L : SlLaysN.n43 P ρ) {e : Nat} {P0 : Nat → Prop} {v : Value} {xs : List Int} {w0 w : World} (hB : Go.RowKit.Below w0.heap.size w0 w) (ho : Kd.R (Kd.int .i64) e w w0.heap.size P0 v xs) (hl : xs.length < 4611686018427387904) (hcl : (Lib.compact xs).length ≤ xs.length) :
    Calls P (ρ.f 43) #[v] w fun e' w' => ∃ v0_, e' = .returned v0_ ∧ Kd.R (Kd.int .i64) e w' w0.heap.size (fun k_ => (P0 k_ ∨ w.heap.size ≤ k_)) v0_ (Lib.compact xs) ∧ Go.RowKit.Below w0.heap.size w0 w' ∧ Kept w w' (fun k_ => P0 k_) := by
  obtain ⟨hok, inner, hown, hreps⟩ := ho
  obtain rfl := reps_int hreps
  obtain ⟨hlen, hown⟩ := hown
  rcases hown with ⟨rfl, hn⟩ | ⟨gb, cap, cur, rfl, hbase, hblk, hnc, hcm, hcs, htake⟩
  · obtain rfl := List.length_eq_zero_iff.1 hn
    refine (AnyG.slices_Compact_int_empty L none 0 w).mono ?_
    rintro e' w' ⟨rfl, rfl⟩
    exact ⟨_, rfl, by rw [show Lib.compact ([] : List Int) = [] from List.eq_nil_of_length_eq_zero (by simpa using hcl)]; exact Kd.R_nil _ _ _ _ _, hB, Kept.refl _ _⟩
  · have hlt : gb < w.heap.size := (Array.getElem?_eq_some_iff.1 hblk).1
    have hcs' : cur.size = cap * 1 := hcs
    refine (AnyG.slices_Compact_int L gb 0 cap xs w (holds_row hblk (by omega) (by have h9 : cur.toList.take (xs.length * 1) = xs.map (Value.int .i64) := htake; rwa [Nat.mul_one] at h9)) (by omega) hnc).mono ?_
    rintro e' w' ⟨rfl, n', hw⟩
    have := put_row (base := 0) hbase (hok gb rfl) hblk hnc hcm hcs' hB n' #[] (Lib.compact xs ++ List.replicate (xs.length - (Lib.compact xs).length) 0) (by rw [List.length_append, List.length_replicate]; omega) (Lib.compact xs).length (by rw [List.length_append]; omega) w' (by rw [hw, grow_empty])
    rw [List.take_left] at this
    exact ⟨_, rfl, this⟩
end Go.Proofs.YthblkmdknelpbaaI
