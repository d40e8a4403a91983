/- Sort and Compact of times, and what Even comes to. -/
import Derived.Test.YthblkmdknelpbaaLTab
namespace Go.Proofs.Ythblkmdknelpbaa.C
open Go.RowKit Go.Proofs.Ythblkmdknelpbaa.Q Go.Proofs.YthblkmdknelpbaaW.PrintWords Go.Proofs.YthblkmdknelpbaaW.PrintLast
open Go.Proofs.YthblkmdknelpbaaU (utcP utcL st)
open Go.Proofs.YthblkmdknelpbaaI (sortI)
open Go.Lib (compact compactUpTo compactUpTo_succ keeps)

theorem upTo_facts (d : Array Int) (hs : ∀ i j, i ≤ j → j < d.size → d[i]! ≤ d[j]!) : ∀ m, m ≤ d.size →
    (compactUpTo d m).Pairwise (· < ·) ∧ (∀ x ∈ compactUpTo d m, ∃ j, j < m ∧ x = d[j]!) ∧ (∀ j, j < m → d[j]! ∈ compactUpTo d m) := by
  intro m
  induction m with
  | zero => intro _; exact ⟨by simp [compactUpTo], fun x hx => by simp [compactUpTo] at hx, fun j hj => by omega⟩
  | succ m ih =>
    intro hm
    obtain ⟨h1, h2, h3⟩ := ih (by omega)
    rw [compactUpTo_succ]
    cases hk : keeps d m with
    | true =>
      simp only [if_true]
      have hlt : ∀ x ∈ compactUpTo d m, x < d[m]! := by
        intro x hx
        obtain ⟨j, hj, rfl⟩ := h2 x hx
        have a := hs j (m - 1) (by omega) (by omega)
        have b := hs (m - 1) m (by omega) (by omega)
        have c : m = 0 ∨ d[m]! ≠ d[m - 1]! := by simpa [keeps] using hk
        rcases c with c | c
        · omega
        · omega
      refine ⟨List.pairwise_append.2 ⟨h1, List.pairwise_singleton _ _, fun a ha b hb => by rw [List.mem_singleton.1 hb]; exact hlt a ha⟩, fun x hx => ?_, fun j hj => ?_⟩
      · rcases List.mem_append.1 hx with hx | hx
        · obtain ⟨j, hj, e⟩ := h2 x hx
          exact ⟨j, by omega, e⟩
        · exact ⟨m, by omega, List.mem_singleton.1 hx⟩
      · by_cases c : j < m
        · exact List.mem_append_left _ (h3 j c)
        · obtain rfl : j = m := by omega
          exact List.mem_append_right _ (List.mem_singleton.2 rfl)
    | false =>
      simp only [Bool.false_eq_true, if_false, List.append_nil]
      have c : ¬ (m = 0 ∨ d[m]! ≠ d[m - 1]!) := by
        intro h; have : keeps d m = true := by simp [keeps, h]
        rw [this] at hk; cases hk
      have c1 : m ≠ 0 := fun h => c (.inl h)
      have c2 : d[m]! = d[m - 1]! := Classical.byContradiction fun h => c (.inr h)
      refine ⟨h1, fun x hx => ?_, fun j hj => ?_⟩
      · obtain ⟨j, hj, e⟩ := h2 x hx
        exact ⟨j, by omega, e⟩
      · by_cases c : j < m
        · exact h3 j c
        · obtain rfl : j = m := by omega
          rw [c2]; exact h3 (j - 1) (by omega)
/-- Sorted and freed of twins. -/
def tidy (l : List Int) : List Int := compact (sortI l)
theorem tidy_facts (l : List Int) : (tidy l).Pairwise (· < ·) ∧ (∀ x, x ∈ tidy l ↔ x ∈ l) := by
  have hp : (sortI l).Pairwise (fun a b => decide (a ≤ b) = true) := List.pairwise_mergeSort (le := fun x y : Int => decide (x ≤ y)) (fun a b c h1 h2 => by simp only [decide_eq_true_eq] at *; omega) (fun a b => by simp only [Bool.or_eq_true, decide_eq_true_eq]; omega) l
  have hm : ∀ x, x ∈ sortI l ↔ x ∈ l := fun x => List.mem_mergeSort
  unfold tidy
  generalize sortI l = s at hp hm
  have hs : ∀ i j, i ≤ j → j < s.toArray.size → s.toArray[i]! ≤ s.toArray[j]! := by
    intro i j hij hj
    have hj' : j < s.length := by simpa using hj
    by_cases e : i = j
    · subst e; exact Int.le_refl _
    have := List.pairwise_iff_getElem.1 hp i j (by omega) hj' (by omega)
    simpa [hj', show i < s.length by omega] using this
  obtain ⟨h1, h2, h3⟩ := upTo_facts s.toArray hs s.length (by simp)
  refine ⟨h1, fun x => ⟨fun hx => ?_, fun hx => ?_⟩⟩
  · obtain ⟨j, hj, e⟩ := h2 x hx
    refine (hm x).1 ?_
    rw [e]; simp [hj]
  · obtain ⟨j, hj, e⟩ := List.getElem_of_mem ((hm x).2 hx)
    have := h3 j hj
    have h9 : s.toArray[j]! = s[j] := by simp [hj]
    rw [h9] at this; rw [← e]; exact this
theorem sortI_length (l : List Int) : (sortI l).length = l.length := List.length_mergeSort _
theorem tidy_length (l : List Int) : (tidy l).length ≤ l.length := by
  have := Go.Lib.compact_length_le (sortI l); rw [sortI_length] at this; exact this

/-- The even times of t that the changes from here on tell. -/
def outs (l : List S36) (t : Int) : List S36 → List Int
  | [] => []
  | c :: r => if (utcP (lf36 l) (t + c.f1 * 1048576) l.length).1 = t ∧ t + c.f1 * 1048576 ≤ 288230376151711744 then (t + c.f1 * 1048576) :: outs l t r else outs l t r
theorem outs_length (l : List S36) (t : Int) : ∀ xs, (outs l t xs).length ≤ xs.length
  | [] => by simp [outs]
  | c :: r => by
    have := outs_length l t r
    unfold outs
    split
    · simp only [List.length_cons]; omega
    · simp only [List.length_cons]; omega
theorem outs_mem (l : List S36) (t : Int) {x : Int} : ∀ {xs}, x ∈ outs l t xs → ∃ c ∈ xs, x = t + c.f1 * 1048576 ∧ (utcP (lf36 l) x l.length).1 = t ∧ x ≤ 288230376151711744
  | [], h => by simp [outs] at h
  | c :: r, h => by
    unfold outs at h
    split at h
    · rename_i hc
      rcases List.mem_cons.1 h with rfl | h
      · exact ⟨c, List.mem_cons_self .., rfl, hc⟩
      · obtain ⟨c', h1, h2⟩ := outs_mem l t h
        exact ⟨c', List.mem_cons_of_mem _ h1, h2⟩
    · obtain ⟨c', h1, h2⟩ := outs_mem l t h
      exact ⟨c', List.mem_cons_of_mem _ h1, h2⟩
theorem mem_outs (l : List S36) (t : Int) {c : S36} (h1 : (utcP (lf36 l) (t + c.f1 * 1048576) l.length).1 = t) (h2 : t + c.f1 * 1048576 ≤ 288230376151711744) : ∀ {xs}, c ∈ xs → t + c.f1 * 1048576 ∈ outs l t xs
  | [], h => by simp at h
  | c' :: r, h => by
    unfold outs
    rcases List.mem_cons.1 h with rfl | h
    · rw [if_pos ⟨h1, h2⟩]; exact List.mem_cons_self ..
    · split
      · exact List.mem_cons_of_mem _ (mem_outs l t h1 h2 h)
      · exact mem_outs l t h1 h2 h
theorem rd36 {l : List S36} {i : Nat} (h : i < l.length) : rd_T36 l (i : Int) = l[i] := by simp [rd_T36, h]
theorem even_l0 {l : List S36} {ex : Int} (hR : Right l ex) {t : Int} (h0 : 0 ≤ t) (h1 : t ≤ 288230376151711744) : ∀ (j i : Nat) (acc : List Int), i + j = l.length → acc.length ≤ i →
    Ev (fun k => leap_Even.l0 k t acc l (l.length : Int) (i : Int) l ex) (tidy (acc ++ outs l t (l.drop i)), 0) := by
  have hb := hR.big
  intro j
  induction j with
  | zero =>
    intro i acc hi ha
    rw [List.drop_eq_nil_of_le (by omega)]
    refine Ev.step (f := fun _ => some (tidy (acc ++ outs l t []), 0)) (fun k => ?_) (Ev.now _)
    simp only [leap_Even.l0]
    rw [if_neg (by omega)]
    unfold api_Time_14.f api_Time_15.f
    rw [if_pos (by omega)]
    simp only [Option.bind_some]
    rw [if_pos ⟨by rw [sortI_length]; omega, Go.Lib.compact_length_le _⟩]
    simp [tidy, outs]
  | succ j ih =>
    intro i acc hi ha
    have hlt : i < l.length := by omega
    have g := hR.g i hlt
    have g0 := g.o0; have g1 := g.o1
    have hd : l.drop i = l[i] :: l.drop (i + 1) := List.drop_eq_getElem_cons hlt
    have ho : l[i].f1 = Of l i := by rw [Of_eq, rd36 hlt]
    rw [hd]
    have hl0 : ∀ k, leap_Even.l0 (k + 1) t acc l (l.length : Int) (i : Int) l ex = (if (utcP (lf36 l) (t + Of l i * 1048576) l.length).1 = t then (if t + Of l i * 1048576 ≤ 288230376151711744 then leap_Even.l0 k t (acc ++ [t + Of l i * 1048576]) l (l.length : Int) ((i + 1 : Nat) : Int) l ex else leap_Even.l0 k t acc l (l.length : Int) ((i + 1 : Nat) : Int) l ex) else leap_Even.l0 k t acc l (l.length : Int) ((i + 1 : Nat) : Int) l ex) := fun k => by
      simp only [leap_Even.l0]
      rw [if_pos (by omega), if_pos (show (0 : Int) ≤ (i : Int) by omega), if_pos (by omega)]
      show ((leap_seconds.f (Of l i)).bind fun t144 => _) = _
      unfold leap_seconds.f
      simp only [Option.bind_some]
      rw [wrap_id (x := Of l i * 1048576) (by omega) (by omega), wrap_id (x := t + Of l i * 1048576) (by omega) (by omega), utc_f hR]
      simp only [Option.bind_some]
      rw [if_pos (show acc.length < 17592186044416 by omega), wrap_id (x := (i : Int) + 1) (by omega) (by omega)]
      rfl
    by_cases c1 : (utcP (lf36 l) (t + Of l i * 1048576) l.length).1 = t
    · by_cases c2 : t + Of l i * 1048576 ≤ 288230376151711744
      · have z := ih (i + 1) (acc ++ [t + Of l i * 1048576]) (by omega) (by simp; omega)
        refine Ev.step (f := fun k => leap_Even.l0 k t (acc ++ [t + Of l i * 1048576]) l (l.length : Int) ((i + 1 : Nat) : Int) l ex) (fun k => by rw [hl0, if_pos c1, if_pos c2]) ?_
        have e : outs l t (l[i] :: l.drop (i + 1)) = (t + Of l i * 1048576) :: outs l t (l.drop (i + 1)) := by rw [outs, ho, if_pos ⟨c1, c2⟩]
        rw [e]
        rw [List.append_assoc] at z
        exact z
      · refine Ev.step (f := fun k => leap_Even.l0 k t acc l (l.length : Int) ((i + 1 : Nat) : Int) l ex) (fun k => by rw [hl0, if_pos c1, if_neg c2]) ?_
        have e : outs l t (l[i] :: l.drop (i + 1)) = outs l t (l.drop (i + 1)) := by rw [outs, ho, if_neg (fun h => c2 h.2)]
        rw [e]
        exact ih (i + 1) acc (by omega) (by omega)
    · refine Ev.step (f := fun k => leap_Even.l0 k t acc l (l.length : Int) ((i + 1 : Nat) : Int) l ex) (fun k => by rw [hl0, if_neg c1]) ?_
      have e : outs l t (l[i] :: l.drop (i + 1)) = outs l t (l.drop (i + 1)) := by rw [outs, ho, if_neg (fun h => c1 h.1)]
      rw [e]
      exact ih (i + 1) acc (by omega) (by omega)
theorem even_ev {l : List S36} {ex : Int} (h : Ev (fun k => leap_Check.f k l ex) 0) (hR : Right l ex) {t : Int} (h0 : 0 ≤ t) (h1 : t ≤ 288230376151711744) : Ev (fun k => leap_Even.f k l ex t) (tidy (outs l t l), 0) := by
  unfold leap_Even.f
  refine Ev.bind (fits_ok h h0 h1) ?_
  exact Ev.congr (f := fun k => leap_Even.l0 k t [] l (l.length : Int) ((0 : Nat) : Int) l ex) (fun k => by rw [if_pos rfl]; rfl) (even_l0 hR h0 h1 l.length 0 [] (by omega) (by simp))
theorem even_out {l : List S36} {ex : Int} (h : Ev (fun k => leap_Check.f k l ex) 0) {t : Int} (h0 : ¬ (0 ≤ t ∧ t ≤ 288230376151711744)) : Ev (fun k => leap_Even.f k l ex t) ([], 2) := by
  unfold leap_Even.f
  exact Ev.bind (fits_out h h0) (Ev.now _)

/-! ### Warn -/
def Hit (l : List S36) (u t : Int) (p : Nat) : Prop := u < E l (p + 1) ∧ t < A l (p + 1) ∧ A l (p + 1) - 90596966400 ≤ t
instance (l : List S36) (u t : Int) (p : Nat) : Decidable (Hit l u t p) := by unfold Hit; infer_instance
theorem warn_l0 {l : List S36} {ex : Int} (hR : Right l ex) (u t : Int) (i : Nat) (hi : i + 1 < l.length) (k : Nat) :
    leap_Warn.l0 (k + 2) u t (l.drop 1) ((l.drop 1).length : Int) (i : Int) l ex = if Hit l u t i then (if Of l (i + 1) > Of l i then some (1, 0) else some (2, 0)) else leap_Warn.l0 k u t (l.drop 1) ((l.drop 1).length : Int) ((i + 1 : Nat) : Int) l ex := by
  have hb := hR.big
  have g := hR.g (i + 1) hi
  have g0 := g.o0; have g1 := g.o1; have g2 := g.a; have g3 := g.f.1
  have hdl : (l.drop 1).length = l.length - 1 := List.length_drop
  have er : rd_T36 (l.drop 1) (i : Int) = rd_T36 l ((i + 1 : Nat) : Int) := by
    rw [rd36 hi]
    have : i < (l.drop 1).length := by omega
    rw [rd36 this]; simp
  simp only [leap_Warn.l0]
  rw [if_pos (by omega), if_pos (by omega), if_pos (by omega), er]
  show ((leap_seconds.f (Of l (i + 1))).bind fun t160 => _) = _
  unfold leap_seconds.f
  simp only [Option.bind_some]
  show (if u < wrap64 (A l (i + 1) + wrap64 (Of l (i + 1) * 1048576)) then if t < A l (i + 1) then leap_Warn.j1 (k + 1) u t (i : Int) (l.drop 1) ((l.drop 1).length : Int) (i : Int) (decide (t ≥ wrap64 (A l (i + 1) - 90596966400))) l ex (A l (i + 1)) (Of l (i + 1)) else leap_Warn.j1 (k + 1) u t (i : Int) (l.drop 1) ((l.drop 1).length : Int) (i : Int) false l ex (A l (i + 1)) (Of l (i + 1)) else leap_Warn.j1 (k + 1) u t (i : Int) (l.drop 1) ((l.drop 1).length : Int) (i : Int) false l ex (A l (i + 1)) (Of l (i + 1))) = _
  rw [wrap_id (x := Of l (i + 1) * 1048576) (by omega) (by omega), wrap_id (x := A l (i + 1) + Of l (i + 1) * 1048576) (by omega) (by omega), wrap_id (x := A l (i + 1) - 90596966400) (by omega) (by omega)]
  have hj : ∀ b, leap_Warn.j1 (k + 1) u t (i : Int) (l.drop 1) ((l.drop 1).length : Int) (i : Int) b l ex (A l (i + 1)) (Of l (i + 1)) = if b = true then (if Of l (i + 1) > Of l i then some (1, 0) else some (2, 0)) else leap_Warn.l0 k u t (l.drop 1) ((l.drop 1).length : Int) ((i + 1 : Nat) : Int) l ex := fun b => by
    simp only [leap_Warn.j1]
    rw [if_pos (show (0 : Int) ≤ (i : Int) by omega), if_pos (show (i : Int) < (l.length : Int) by omega), wrap_id (x := (i : Int) + 1) (by omega) (by omega)]
    rfl
  simp only [hj]
  by_cases c : Hit l u t i
  · rw [if_pos c, if_pos (show u < A l (i + 1) + Of l (i + 1) * 1048576 from c.1), if_pos c.2.1, if_pos (decide_eq_true c.2.2)]
  · rw [if_neg c]
    by_cases c1 : u < A l (i + 1) + Of l (i + 1) * 1048576
    · rw [if_pos c1]
      by_cases c2 : t < A l (i + 1)
      · rw [if_pos c2, if_neg]
        intro h
        exact c ⟨c1, c2, of_decide_eq_true h⟩
      · rw [if_neg c2]; rfl
    · rw [if_neg c1]; rfl
theorem warn_none {l : List S36} {ex : Int} (hR : Right l ex) (u t : Int) : ∀ (j i : Nat), i + j = l.length - 1 → (∀ p, i ≤ p → p + 1 < l.length → ¬ Hit l u t p) →
    Ev (fun k => leap_Warn.l0 k u t (l.drop 1) ((l.drop 1).length : Int) (i : Int) l ex) (0, 0) := by
  have hdl : (l.drop 1).length = l.length - 1 := List.length_drop
  have hn := hR.n
  intro j
  induction j with
  | zero =>
    intro i hi _
    exact Ev.step (f := fun _ => some (0, 0)) (fun k => by simp only [leap_Warn.l0]; rw [if_neg (by omega)]) (Ev.now _)
  | succ j ih =>
    intro i hi hN
    obtain ⟨K, hK⟩ := ih (i + 1) (by omega) (fun p h1 h2 => hN p (by omega) h2)
    refine ⟨K + 2, fun k hk => ?_⟩
    obtain ⟨m, rfl⟩ : ∃ m, k = m + 2 := ⟨k - 2, by omega⟩
    show leap_Warn.l0 (m + 2) u t (l.drop 1) ((l.drop 1).length : Int) (i : Int) l ex = _
    rw [warn_l0 hR u t i (by omega) m, if_neg (hN i (by omega) (by omega))]
    exact hK m (by omega)
theorem warn_hit {l : List S36} {ex : Int} (hR : Right l ex) (u t : Int) (q : Nat) (hq : q + 1 < l.length) (hH : Hit l u t q) : ∀ (j i : Nat), i + j = q → (∀ p, i ≤ p → p < q → ¬ Hit l u t p) →
    Ev (fun k => leap_Warn.l0 k u t (l.drop 1) ((l.drop 1).length : Int) (i : Int) l ex) (if Of l (q + 1) > Of l q then 1 else 2, 0) := by
  intro j
  induction j with
  | zero =>
    intro i hi _
    obtain rfl : i = q := by omega
    refine ⟨2, fun k hk => ?_⟩
    obtain ⟨m, rfl⟩ : ∃ m, k = m + 2 := ⟨k - 2, by omega⟩
    show leap_Warn.l0 (m + 2) u t (l.drop 1) ((l.drop 1).length : Int) (i : Int) l ex = _
    rw [warn_l0 hR u t i hq m, if_pos hH]
    split <;> rfl
  | succ j ih =>
    intro i hi hN
    obtain ⟨K, hK⟩ := ih (i + 1) (by omega) (fun p h1 h2 => hN p (by omega) h2)
    refine ⟨K + 2, fun k hk => ?_⟩
    obtain ⟨m, rfl⟩ : ∃ m, k = m + 2 := ⟨k - 2, by omega⟩
    show leap_Warn.l0 (m + 2) u t (l.drop 1) ((l.drop 1).length : Int) (i : Int) l ex = _
    rw [warn_l0 hR u t i (by omega) m, if_neg (hN i (by omega) (by omega))]
    exact hK m (by omega)
theorem warn_ev {l : List S36} {ex : Int} (h : Ev (fun k => leap_Check.f k l ex) 0) (hR : Right l ex) {u : Int} (h0 : 0 ≤ u) (h1 : u ≤ 288230376151711744) {r : Int × Int}
    (hr : (utcP (lf36 l) u l.length).1 < ex → Ev (fun k => leap_Warn.l0 k u (utcP (lf36 l) u l.length).1 (l.drop 1) ((l.drop 1).length : Int) ((0 : Nat) : Int) l ex) r) (hr2 : ¬ (utcP (lf36 l) u l.length).1 < ex → r = (0, 41)) : Ev (fun k => leap_Warn.f k l ex u) r := by
  have hn := hR.n
  unfold leap_Warn.f
  refine Ev.bind (utcC_ok h hR h0 h1) ?_
  by_cases c : (utcP (lf36 l) u l.length).1 < ex
  · exact Ev.congr (fun k => by rw [if_pos rfl, if_neg (by omega), if_pos (by omega)]; rfl) (hr c)
  · rw [hr2 c]
    exact Ev.congr (f := fun _ => some (0, 41)) (fun k => by rw [if_pos rfl, if_pos (by omega)]) (Ev.now _)

/-! ### The document's example -/
theorem known_even : tidy (outs [(⟨2382428425420800, 10⟩ : S36), (⟨2398917073305600, 11⟩ : S36)] 2398917072257024 [(⟨2382428425420800, 10⟩ : S36), (⟨2398917073305600, 11⟩ : S36)]) = [2398917082742784, 2398917083791360] := by
  have e : outs [(⟨2382428425420800, 10⟩ : S36), (⟨2398917073305600, 11⟩ : S36)] 2398917072257024 [(⟨2382428425420800, 10⟩ : S36), (⟨2398917073305600, 11⟩ : S36)] = [2398917082742784, 2398917083791360] := by kernel_rfl
  rw [e]
  unfold tidy
  have e2 : sortI [2398917082742784, 2398917083791360] = [2398917082742784, 2398917083791360] := List.mergeSort_of_pairwise (le := fun x y : Int => decide (x ≤ y)) (by simp)
  have e3 : compact ([2398917082742784, 2398917083791360] : List Int) = [2398917082742784, 2398917083791360] := by kernel_rfl
  rw [e2, e3]
theorem ev_unique {α : Type} {g : Nat → Option α} {r r' : α} (h : Ev g r) (h' : Ev g r') : r = r' := by
  obtain ⟨K, h⟩ := h
  obtain ⟨K', h'⟩ := h'
  exact Option.some.inj ((h (max K K') (by omega)).symm.trans (h' (max K K') (by omega)))
def kl : List S36 := [(⟨2382428425420800, 10⟩ : S36), (⟨2398917073305600, 11⟩ : S36)]
theorem known_check : Ev (fun k => leap_Check.f k kl 2411724800000000) 0 := Ev.of (fun k => leap_Check.mono _ _ k) (k := 200) (by kernel_rfl)
theorem known_right : Right kl 2411724800000000 := by
  obtain ⟨r, hr, h⟩ := check_ev kl (by decide) 2411724800000000
  obtain rfl := ev_unique hr known_check
  rcases h with h | h
  · cases h
  · exact h.2
theorem known_utc : Ev (fun k => leap_UTC.f k kl 2411724800000000 2398917083791360) (2398917072257024, true, 0) := Ev.of (fun k => leap_UTC.mono _ _ _ k) (k := 200) (by kernel_rfl)
theorem known_warn : Ev (fun k => leap_Warn.f k kl 2411724800000000 2398917073305600) (1, 0) := Ev.of (fun k => leap_Warn.mono _ _ _ k) (k := 200) (by kernel_rfl)
theorem awakeE : Ev (fun k => sundiallaw08_awake.f k) true := by
  unfold sundiallaw08_awake.f
  have hK : sundiallaw08_known.f = some (kl, 2411724800000000) := rfl
  rw [hK]
  simp only [Option.bind_some]
  refine Ev.bind known_utc (Ev.bind (a := ([2398917082742784, 2398917083791360], 0)) ?_ (Ev.bind known_warn ?_))
  · have := even_ev known_check known_right (t := 2398917072257024) (by decide) (by decide)
    have e : tidy (outs kl 2398917072257024 kl) = [2398917082742784, 2398917083791360] := known_even
    rw [e] at this
    exact this
  · refine Ev.congr (f := fun k => (leap_Check.f k kl 2411724800000000).bind fun t191 => some (t191 == 0)) (fun k => by simp) ?_
    exact Ev.bind known_check (Ev.now _)
end Go.Proofs.Ythblkmdknelpbaa.C
