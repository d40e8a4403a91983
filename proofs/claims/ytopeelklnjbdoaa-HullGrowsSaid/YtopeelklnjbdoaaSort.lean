/- slices.SortFunc at rows of flat structs, in the printer's words: a row of the call's own is turned into its sorted twin. -/
import Derived.Test.YtopeelklnjbdoaaWKept
import Derived.Test.YtopeelklnjbdoaaWMore
import Derived.Shelf.SlSortCmp.NoneTotal
namespace Go.Proofs.YtopeelklnjbdoaaS
open Go.RowKit Go.Shelf Go.Lib Go.Sort
open Go.Proofs.YtopeelklnjbdoaaW.PrintWords (Kd Reps OwnRow)

set_option linter.unusedVariables false
variable {P : Program} {ρ : Ren} {α : Type} [Inhabited α]

theorem flat_at (enc : α → List Value) (k : Nat) (hk : ∀ x, (enc x).length = k) (xs : List α) (j : Nat) (h : j < xs.length * k) : (flatK enc k xs.toArray).toList[j]? = some ((enc (xs[j / k]'(Nat.div_lt_of_lt_mul (by rw [Nat.mul_comm]; exact h)))).getD (j % k) default) := by
  have hd : j / k < xs.length := Nat.div_lt_of_lt_mul (by rw [Nat.mul_comm]; exact h)
  have h2 : j < (flatK enc k xs.toArray).size := by simpa using h
  rw [Array.getElem?_toList, ← getElem!_pos' h2, get_flatK _ _ _ _ (by simpa using h)]
  congr 1
  rw [show xs.toArray[j / k]! = xs[j / k] from by simp [hd]]
  simp [List.getD_eq_getElem?_getD, List.getElem!_eq_getElem?_getD]
where getElem!_pos' {β : Type} [Inhabited β] {a : Array β} {i : Nat} (h : i < a.size) : some a[i]! = a[i]? := by simp [h]

theorem seg_of_flat (enc : α → List Value) (k : Nat) (hk0 : 0 < k) (hk : ∀ x, (enc x).length = k) (xs : List α) (j : Nat) (hj : j < xs.length) : ((flatK enc k xs.toArray).toList.drop (j * k)).take k = enc xs[j] := by
  apply List.ext_getElem?
  intro i
  have hle : j * k + k ≤ xs.length * k := by rw [← Nat.succ_mul]; exact Nat.mul_le_mul_right _ hj
  by_cases hi : i < k
  · rw [List.getElem?_take_of_lt hi, List.getElem?_drop, flat_at enc k hk xs _ (by omega)]
    have e1 : (j * k + i) / k = j := by rw [Nat.mul_comm, Nat.mul_add_div hk0, Nat.div_eq_of_lt hi]; rfl
    have e2 : (j * k + i) % k = i := by rw [Nat.mul_comm, Nat.mul_add_mod, Nat.mod_eq_of_lt hi]
    simp only [e1, e2]
    rw [List.getD_eq_getElem?_getD, List.getElem?_eq_getElem (by rw [hk]; exact hi)]
    rfl
  · rw [List.getElem?_eq_none (l := enc xs[j]) (by rw [hk]; omega), List.getElem?_eq_none (by rw [List.length_take]; omega)]

theorem flat_of_reps (enc : α → List Value) (k : Nat) (hk0 : 0 < k) (hk : ∀ x, (enc x).length = k) (xs : List α) (cs : List Value) (hl : cs.length = xs.length * k) (h : ∀ j p, xs[j]? = some p → (cs.drop (j * k)).take k = enc p) : cs = (flatK enc k xs.toArray).toList := by
  apply List.ext_getElem?
  intro i
  by_cases hi : i < xs.length * k
  · rw [flat_at enc k hk xs i hi]
    have hd : i / k < xs.length := Nat.div_lt_of_lt_mul (by rw [Nat.mul_comm]; exact hi)
    have hm := Nat.mod_lt i hk0
    have e := h (i / k) xs[i / k] (List.getElem?_eq_getElem hd)
    have e2 : cs[i]? = ((cs.drop (i / k * k)).take k)[i % k]? := by
      rw [List.getElem?_take_of_lt hm, List.getElem?_drop, show i / k * k + i % k = i from by rw [Nat.mul_comm]; exact Nat.div_add_mod i k]
    rw [e2, e, List.getD_eq_getElem?_getD, List.getElem?_eq_getElem (by rw [hk]; exact hm)]
    rfl
  · rw [List.getElem?_eq_none (by omega), List.getElem?_eq_none (by simp; omega)]

/-- A row of one's own, sorted. -/
theorem sort_row (L : SlLaysF0.n6 P ρ) (k : Nat) (hk0 : 0 < k) (aE : ∀ w, (isAgg (ρ.t 24)).run P w = .ok true w) (zE : ∀ w, (Go.sizeOf (ρ.t 24)).run P w = .ok k w) (d : Kd α) (e : Nat) (enc : α → List Value)
    (hM : ∀ w base ok x cs, d.M w base ok x cs ↔ cs = enc x) (hsz : d.sz = k) (hk : ∀ x, (enc x).length = k) (h1 : ∀ x, ∀ v ∈ enc x, v.oneCell' = true) (cf : α → α → Int) (hO : SWO (ltOf cf)) (hT : ∀ x y, (ltOf cf) x y = false → (ltOf cf) y x = false → x = y) (g : Nat)
    (eg : ∀ args w, (callFunc g args).run P w = .ok (.enter g args) w) (hcmp : ∀ blk off size w, CmpLays P g #[] enc k cf blk off size w)
    {P0 : Nat → Prop} {v : Value} {xs : List α} {w0 w : World} (hB : Go.RowKit.Below w0.heap.size w0 w) (ho : Kd.R d e w w0.heap.size P0 v xs) (hl : xs.length < 4611686018427387904) :
    Calls P (ρ.f 6) #[v, .func (.func g) #[] #[]] w fun e' w' => e' = .returned (.tuple #[]) ∧ Kd.R d e w' w0.heap.size (fun k_ => (P0 k_ ∨ w.heap.size ≤ k_)) v (xs.mergeSort fun x y => !(ltOf cf) y x) ∧ Go.RowKit.Below w0.heap.size w0 w' ∧ Go.Proofs.YtopeelklnjbdoaaW.PrintWords.Kept w w' (fun k_ => P0 k_) := by
  obtain ⟨hok, inner, hown, hreps⟩ := ho
  obtain ⟨hlen, hown⟩ := hown
  subst hsz
  rcases hown with ⟨rfl, hn⟩ | ⟨gb, cap, cur, rfl, hbase, hblk, hnc, hcm, hcs, htake⟩
  · obtain rfl := List.length_eq_zero_iff.1 hn
    refine (AnyF.slices_SortFunc_none L none 0 (.func (.func g) #[] #[]) w).mono ?_
    rintro e' w' ⟨rfl, rfl⟩
    exact ⟨rfl, by rw [List.mergeSort_nil]; exact Kd.R_nil _ _ _ _ _, hB, Go.Proofs.YtopeelklnjbdoaaW.PrintWords.Kept.refl _ _⟩
  · have hinner : inner = (flatK enc d.sz xs.toArray).toList := flat_of_reps enc d.sz hk0 hk xs inner hreps.1 (fun j p hj => (hM _ _ _ _ _).1 (hreps.2 j p hj))
    have hcells : ∀ j, j < xs.length * d.sz → cur[j]? = (flatK enc d.sz xs.toArray)[j]? := by
      intro j hj
      rw [← Array.getElem?_toList, ← Array.getElem?_toList, ← hinner, ← htake, List.getElem?_take_of_lt hj]
    have hH : HoldsK enc d.sz w gb 0 xs.toArray := by
      intro j hj
      have hj' : j < xs.length * d.sz := by simpa using hj
      refine ⟨?_, ?_⟩
      · have : w.cell? ⟨gb, 0 + j, none⟩ = cur[0 + j]? := by simp [World.cell?, hblk]
        rw [this, Nat.zero_add, hcells j hj']
        have hj2 : j < (flatK enc d.sz xs.toArray).size := hj
        rw [Array.getElem?_eq_getElem hj2, getElem!_pos _ j hj2]
        rfl
      · simp [World.frozen?, hblk]
    have hlt : gb < w.heap.size := by
      rcases Nat.lt_or_ge gb w.heap.size with h | h
      · exact h
      · rw [Array.getElem?_eq_none h] at hblk; cases hblk
    have hcon := AnyQ.slices_SortFunc_total L d.sz aE zE enc hk h1 cf hO g #[] gb 0 cap xs.toArray w eg (hcmp _ _ _ _) hH hlt (by simpa using hl) hT
    rw [List.size_toArray, show xs.toArray.toList = xs from by simp] at hcon
    refine hcon.mono ?_
    rintro e' w' ⟨rfl, n', os, rfl⟩
    have hrl : (xs.mergeSort fun x y => !(ltOf cf) y x).length = xs.length := List.length_mergeSort _
    generalize (xs.mergeSort fun x y => !(ltOf cf) y x) = r at hrl ⊢
    have hblk' : (sortWorldK enc d.sz w gb 0 n' r.toArray os).heap[gb]? = some (.cells (putCells id 0 (flatK enc d.sz r.toArray) cur) e (0, 0)) := by
      unfold sortWorldK grow putRowK putRow mapBlock
      simp only [Sort.ahead]
      rw [Array.getElem?_append_left (by simpa using hlt), Array.getElem?_modify]
      simp [hblk, onCells]
    have hother : ∀ i, i < w.heap.size → i ≠ gb → (sortWorldK enc d.sz w gb 0 n' r.toArray os).heap[i]? = w.heap[i]? := by
      intro i hi hne
      unfold sortWorldK grow putRowK putRow mapBlock
      simp only [Sort.ahead]
      rw [Array.getElem?_append_left (by simpa using hi), Array.getElem?_modify]
      simp [Ne.symm hne]
    have hsize : w.heap.size ≤ (sortWorldK enc d.sz w gb 0 n' r.toArray os).heap.size := by
      unfold sortWorldK grow putRowK putRow mapBlock
      simp [Sort.ahead]
    have hP : P0 gb := hok gb rfl
    refine ⟨rfl, ⟨fun k_ hk_ => .inl (hok k_ hk_), (flatK enc d.sz r.toArray).toList, ⟨?_, .inr ⟨gb, cap, putCells id 0 (flatK enc d.sz r.toArray) cur, ?_, hbase, hblk', ?_, hcm, ?_, ?_⟩⟩, ?_, fun j p hj => ?_⟩, ?_, ?_⟩
    · simp
    · rw [hrl]
    · rw [hrl]; exact hnc
    · simp [putCells, hcs]
    · apply List.ext_getElem?
      intro i
      have hcl : xs.length * d.sz ≤ cur.size := by rw [hcs]; exact Nat.mul_le_mul_right _ hnc
      by_cases hi : i < r.length * d.sz
      · rw [List.getElem?_take_of_lt hi, Array.getElem?_toList, Array.getElem?_toList]
        have hi2 : i < (flatK enc d.sz r.toArray).size := by simpa using hi
        have hi3 : i < cur.size := by rw [hrl] at hi; omega
        have hi4 : i < r.length * d.sz := hi
        simp [putCells, hi3, hi4]
      · rw [List.getElem?_eq_none (by simp; omega), List.getElem?_eq_none (by simp; omega)]
    · simp
    · rw [hM]
      have hjl : j < r.length := by
        rcases Nat.lt_or_ge j r.length with h | h
        · exact h
        · rw [List.getElem?_eq_none h] at hj; cases hj
      rw [seg_of_flat enc d.sz hk0 hk r j hjl]
      rw [List.getElem?_eq_getElem hjl] at hj
      obtain rfl := Option.some.inj hj
      rfl
    · exact ⟨hB.os, hB.tape, hB.output, Nat.le_trans hB.size hsize, fun i hi => (hother i (Nat.lt_of_lt_of_le hi hB.size) (by omega)).trans (hB.block i hi)⟩
    · exact ⟨hsize, fun i hi hn => hother i hi (fun h => hn (h ▸ hP))⟩

/-- Draws and new blocks alone: what the sort asks of a comparing function. -/
def Gr (w w' : World) : Prop := ∃ q os', w' = grow (w.drewN q) os'
theorem Gr.refl (w : World) : Gr w w := ⟨0, #[], by simp [grow]; rfl⟩
theorem Gr.alloc {w w' : World} (h : Gr w w') (o : Obj) : Gr w (w'.alloc o) := by
  obtain ⟨q, os, rfl⟩ := h
  exact ⟨q, os ++ #[o], by rw [alloc_eq_grow, grow_grow]⟩
theorem Gr.drewN {w w' : World} (h : Gr w w') (n : Nat) : Gr w (w'.drewN n) := by
  obtain ⟨q, os, rfl⟩ := h
  exact ⟨q + n, os, by show grow ((w.drewN q).drewN n) os = _; rw [World.drewN_drewN]⟩
theorem Gr.drew {w w' : World} (h : Gr w w') : Gr w w'.drew := h.drewN 1
/-- The two boxes that a comparing function over structs of two cells lays, and what it can read in them. -/
def Sc (T : Nat) (w : World) (a0 a1 b0 b1 : Int) (w' : World) : Prop := w'.cell? ⟨w.heap.size, 0, none⟩ = some (.int .i64 a0) ∧ w'.cell? ⟨w.heap.size, 1, none⟩ = some (.int .i64 a1) ∧ w'.cell? ⟨w.heap.size + 1, 0, none⟩ = some (.int .i64 b0) ∧ w'.cell? ⟨w.heap.size + 1, 1, none⟩ = some (.int .i64 b1) ∧ Gr w w'
theorem sc_start (T : Nat) (w : World) (a0 a1 b0 b1 : Int) (W : World) (hW : W = ((w.alloc (.cells #[.int .i64 a0, .int .i64 a1] T)).alloc (.cells #[.int .i64 b0, .int .i64 b1] T)).drew) : Sc T w a0 a1 b0 b1 W := by
  subst hW
  refine ⟨?_, ?_, ?_, ?_, ?_⟩
  · go_simp
  · go_simp
  · go_simp
  · go_simp
  · exact (((Gr.refl w).alloc _).alloc _).drew
theorem sc_drewN {T : Nat} {w : World} {a0 a1 b0 b1 : Int} {W : World} (h : Sc T w a0 a1 b0 b1 W) (n : Nat) : Sc T w a0 a1 b0 b1 (W.drewN n) := ⟨h.1, h.2.1, h.2.2.1, h.2.2.2.1, h.2.2.2.2.drewN n⟩
theorem sc_alloc {T : Nat} {w : World} {a0 a1 b0 b1 : Int} {W : World} (h : Sc T w a0 a1 b0 b1 W) (o : Obj) : Sc T w a0 a1 b0 b1 (W.alloc o) := by
  obtain ⟨h1, h2, h3, h4, h5⟩ := h
  have hb := ((Go.RowKit.Below.refl W.heap.size W).alloc (Nat.le_refl _) o)
  refine ⟨?_, ?_, ?_, ?_, h5.alloc o⟩
  · rw [hb.cell (p := ⟨w.heap.size, 0, none⟩) (World.block_lt_of_cell? _ _ h1)]; exact h1
  · rw [hb.cell (p := ⟨w.heap.size, 1, none⟩) (World.block_lt_of_cell? _ _ h2)]; exact h2
  · rw [hb.cell (p := ⟨w.heap.size + 1, 0, none⟩) (World.block_lt_of_cell? _ _ h3)]; exact h3
  · rw [hb.cell (p := ⟨w.heap.size + 1, 1, none⟩) (World.block_lt_of_cell? _ _ h4)]; exact h4
theorem sc_n (T : Nat) (w : World) (a0 a1 b0 b1 : Int) (n : Nat) : Sc T w a0 a1 b0 b1 (((w.alloc (.cells #[.int .i64 a0, .int .i64 a1] T)).alloc (.cells #[.int .i64 b0, .int .i64 b1] T)).drewN n) := by
  have h := sc_start T w a0 a1 b0 b1 _ rfl
  exact ⟨h.1, h.2.1, h.2.2.1, h.2.2.2.1, (((Gr.refl w).alloc _).alloc _).drewN n⟩
theorem sc_a (T : Nat) (w : World) (a0 a1 b0 b1 : Int) (n : Nat) (o : Obj) : Sc T w a0 a1 b0 b1 ((((w.alloc (.cells #[.int .i64 a0, .int .i64 a1] T)).alloc (.cells #[.int .i64 b0, .int .i64 b1] T)).alloc o).drewN n) :=
  sc_drewN (sc_alloc (W := ((w.alloc _).alloc _)) (sc_n T w a0 a1 b0 b1 0) o) n
theorem sc_b (T : Nat) (w : World) (a0 a1 b0 b1 : Int) (n m : Nat) (o : Obj) : Sc T w a0 a1 b0 b1 (((((w.alloc (.cells #[.int .i64 a0, .int .i64 a1] T)).alloc (.cells #[.int .i64 b0, .int .i64 b1] T)).drewN n).alloc o).drewN m) :=
  sc_drewN (sc_alloc (sc_n T w a0 a1 b0 b1 n) o) m
end Go.Proofs.YtopeelklnjbdoaaS
