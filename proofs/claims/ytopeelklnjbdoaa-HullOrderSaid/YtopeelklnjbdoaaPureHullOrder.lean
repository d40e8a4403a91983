/- HullOrder, as plain Lean: no program in sight. -/
import Derived.Test.YtopeelklnjbdoaaHLiars
import Derived.Test.YtopeelklnjbdoaaOpens
import Derived.Test.YtopeelklnjbdoaaQx9
namespace Go.Proofs.Ytopeelklnjbdoaa.Pure
open Go.RowKit Go.Proofs.Ytopeelklnjbdoaa.Q Go.Proofs.Ytopeelklnjbdoaa.H Go.Proofs.YtopeelklnjbdoaaW.PrintWords Go.Proofs.YtopeelklnjbdoaaW.PrintLast

def shift (d : Int) (s : S25) : S25 := ⟨wrap64 (s.f0 + d), wrap64 (s.f1 + d)⟩
def farB (s : S25) : Bool := decide (s.f0 < -1152921504606846976) || decide (s.f1 > 1152921504606846976)
def turned (l : List S25) (t : Nat) : List S25 := l.drop t ++ l.take t
theorem turned_perm (l : List S25) (t : Nat) : (turned l t).Perm l := by
  unfold turned
  exact (List.perm_append_comm).trans (by rw [List.take_append_drop])
theorem turned_length (l : List S25) (t : Nat) : (turned l t).length = l.length := (turned_perm l t).length_eq
theorem turned_at (l : List S25) (t : Nat) (ht : t < l.length) (i : Nat) (hi : i < l.length) : (turned l t)[i]'(by rw [turned_length]; exact hi) = l[(i + t) % l.length]'(Nat.mod_lt _ (by omega)) := by
  unfold turned
  by_cases h : i < l.length - t
  · rw [List.getElem_append_left (by rw [List.length_drop]; exact h), List.getElem_drop]
    congr 1
    rw [Nat.mod_eq_of_lt (by omega)]
    omega
  · rw [List.getElem_append_right (by rw [List.length_drop]; omega), List.getElem_take]
    congr 1
    rw [List.length_drop, Nat.mod_eq_sub_mod (by omega), Nat.mod_eq_of_lt (by omega)]
    omega

theorem order_l0 (l : List S25) (f : Int) (t : Nat) (d : Int) (hl : l.length ≤ 8796093021952) (ht : t < l.length) (r r2 : Int × Int × Int) (h1 : Ev (fun k => hull_Hull.f k l f) r) (h2 : Ev (fun k => hull_Hull.f k ((turned l t).map (shift d)) f) r2)
    (hgo : (turned l t).any farB = true ∨ (r.2.2 = r2.2.2 ∧ (r.2.2 = 0 → r2.1 = wrap64 (r.1 + d) ∧ r2.2.1 = wrap64 (r.2.1 + d)))) :
    ∀ (n i : Nat), i + n = l.length → Ev (fun k => sundiallaw15_HullOrder.l0 k l f (t : Int) d (((turned l t).take i).map (shift d)) (((turned l t).take i).any farB) (i : Int)) true := by
  intro n
  induction n with
  | zero =>
    intro i hi
    have htl := turned_length l t
    rw [List.take_of_length_le (by omega)]
    generalize hfar : (turned l t).any farB = far at hgo
    refine Ev.step (f := fun k => (hull_Hull.f k l f).bind fun bt288 => ((hull_Hull.f k ((turned l t).map (shift d)) f).bind fun bt292 => (if far = true then (some true) else (if bt288.2.2 = bt292.2.2 then (if bt288.2.2 = 0 then (some (bt292.1 == (wrap64 (bt288.1 + d)) && (bt292.2.1 == (wrap64 (bt288.2.1 + d))))) else (some true)) else (some false))))) (fun k => ?_) ?_
    · simp only [sundiallaw15_HullOrder.l0]
      rw [if_neg (by omega)]
    · refine Ev.bind h1 ?_
      refine Ev.bind h2 ?_
      refine Ev.congr (f := fun _ => some true) (fun k => ?_) (Ev.now _)
      cases far with
      | true => simp
      | false =>
        obtain ⟨e1, e2⟩ := hgo.resolve_left (by simp)
        rw [if_neg (by decide), if_pos e1]
        by_cases h0 : r.2.2 = 0
        · rw [if_pos h0, (e2 h0).1, (e2 h0).2]; simp
        · rw [if_neg h0]
  | succ n ih =>
    intro i hi
    have htl := turned_length l t
    have hlt : i < l.length := by omega
    have hidx : Int.tmod (wrap64 ((i : Int) + (t : Int))) (l.length : Int) = (((i + t) % l.length : Nat) : Int) := by
      rw [wrap_id (by omega) (by omega), Int.tmod_eq_emod_of_nonneg (by omega)]
      simp
    have hml : (i + t) % l.length < l.length := Nat.mod_lt _ (by omega)
    refine Ev.step (f := fun k => sundiallaw15_HullOrder.l0 k l f (t : Int) d (((turned l t).take (i + 1)).map (shift d)) (((turned l t).take (i + 1)).any farB) ((i + 1 : Nat) : Int)) (fun k => ?_) (ih (i + 1) (by omega))
    simp only [sundiallaw15_HullOrder.l0]
    rw [hidx, rd25 hml, wrapS (by omega), if_pos (by omega), if_neg (by omega), if_pos (by omega), if_pos (by omega)]
    have e1 : (turned l t).take (i + 1) = (turned l t).take i ++ [l[(i + t) % l.length]] := by
      rw [List.take_succ_eq_append_getElem (by omega), turned_at l t ht i hlt]
    rw [e1, List.map_append, List.any_append]
    have hlen : (((turned l t).take i).map (shift d)).length < 8796093022208 := by
      rw [List.length_map, List.length_take]
      omega
    generalize hs : l[(i + t) % l.length] = s
    cases hfar : ((turned l t).take i).any farB with
    | true =>
      rw [if_pos rfl, if_pos hlen]
      simp [shift]
    | false =>
      rw [if_neg (by decide), if_pos hlen, if_pos hlen]
      by_cases hc : s.f0 < -1152921504606846976
      · rw [if_pos hc]; simp [shift, farB, hc]
      · rw [if_neg hc]; simp [shift, farB, hc]

theorem okS_shift {s : S25} {d : Int} (hd : -1000000 < d ∧ d < 1000000) (hf : farB s = false) (h0 : -9223372036854775808 ≤ s.f0 ∧ s.f0 ≤ 9223372036854775807) (h1 : -9223372036854775808 ≤ s.f1 ∧ s.f1 ≤ 9223372036854775807) : okS (shift d s) = okS s := by
  have hb : ¬ s.f0 < -1152921504606846976 ∧ ¬ s.f1 > 1152921504606846976 := by
    simp only [farB, Bool.or_eq_false_iff, decide_eq_false_iff_not] at hf
    exact hf
  rw [Bool.eq_iff_iff, okS_iff, okS_iff]
  simp only [shift, wrap64]
  constructor <;> intro h <;> omega

theorem shift_ok {s : S25} {d : Int} (hd : -1000000 < d ∧ d < 1000000) (hok : okS s = true) : (shift d s).f0 = s.f0 + d ∧ (shift d s).f1 = s.f1 + d := by
  have := okS_iff.1 hok
  simp only [shift, wrap64]
  omega

theorem cnt_shift {l : List S25} {d : Int} (hd : -1000000 < d ∧ d < 1000000) (hok : ∀ s ∈ l, okS s = true) (t : Int) : cnt (l.map (shift d)) (t + d) = cnt l t := by
  induction l with
  | nil => rfl
  | cons s l ih =>
    have hs := shift_ok hd (hok s (List.mem_cons_self ..))
    rw [List.map_cons, cnt_cons, cnt_cons, ih (fun x hx => hok x (List.mem_cons_of_mem _ hx))]
    have : holds (shift d s) (t + d) = holds s t := by
      rw [Bool.eq_iff_iff, holds_iff, holds_iff, hs.1, hs.2]
      omega
    rw [this]
theorem cnt_perm {l l' : List S25} (h : l.Perm l') (t : Int) : cnt l t = cnt l' t := h.countP_eq _

/-- A hull moves with its spans, whatever their order. -/
theorem IsHull.moved {l : List S25} {n : Int} {d : Int} (t : Nat) (hd : -1000000 < d ∧ d < 1000000) (hok : ∀ s ∈ l, okS s = true) {r : Int × Int × Int} (h : IsHull l n r) : IsHull ((turned l t).map (shift d)) n (if r.2.2 = 0 then (r.1 + d, r.2.1 + d, 0) else r) := by
  have hokt : ∀ s ∈ turned l t, okS s = true := fun s hs => hok s ((turned_perm l t).mem_iff.1 hs)
  have hc : ∀ x, cnt ((turned l t).map (shift d)) (x + d) = cnt l x := fun x => by rw [cnt_shift hd hokt, cnt_perm (turned_perm l t)]
  have hm : ∀ s ∈ l, shift d s ∈ (turned l t).map (shift d) := fun s hs => List.mem_map.2 ⟨s, (turned_perm l t).mem_iff.2 hs, rfl⟩
  have hm' : ∀ u ∈ (turned l t).map (shift d), ∃ s ∈ l, u = shift d s := fun u hu => by
    obtain ⟨s, hs, rfl⟩ := List.mem_map.1 hu
    exact ⟨s, (turned_perm l t).mem_iff.1 hs, rfl⟩
  rcases h with ⟨rfl, h⟩ | ⟨a, b, rfl, ⟨s, hs, hsa, hsn⟩, h2, ⟨u, hu, hub, hun⟩, h4⟩
  · rw [if_neg (by decide)]
    refine .inl ⟨rfl, fun x hx => ?_⟩
    obtain ⟨y, hy, rfl⟩ := hm' x hx
    rw [(shift_ok hd (hok y hy)).1, hc]
    exact h y hy
  · rw [if_pos rfl]
    refine .inr ⟨a + d, b + d, rfl, ⟨shift d s, hm s hs, by rw [(shift_ok hd (hok s hs)).1, hsa], by rw [hc]; exact hsn⟩, fun x hx hxn => ?_, ⟨shift d u, hm u hu, by rw [(shift_ok hd (hok u hu)).2, hub], by rw [hc]; exact hun⟩, fun x hx hxn => ?_⟩
    · obtain ⟨y, hy, rfl⟩ := hm' x hx
      rw [(shift_ok hd (hok y hy)).1] at hxn ⊢
      rw [hc] at hxn
      have := h2 y hy hxn
      omega
    · obtain ⟨y, hy, rfl⟩ := hm' x hx
      rw [(shift_ok hd (hok y hy)).2] at hxn ⊢
      rw [hc] at hxn
      have := h4 y hy hxn
      omega

theorem HullOrder : ∀ (x0 : List (S25)) (x1 : Int) (x2 : Int) (x3 : Int), (x0.length ≤ maxLen ∧ x0.length * 16 ≤ 140737488351232 ∧ ∀ y ∈ x0, ((Lit.int .i64 y.f0).wf = true) ∧ ((Lit.int .i64 y.f1).wf = true)) → ((Lit.int .i64 x1).wf = true) → ((Lit.int .i64 x2).wf = true) → ((Lit.int .i64 x3).wf = true) → ∃ k, sundiallaw15_HullOrder.f k x0 x1 x2 x3 = some true := by
  intro l f a2 a3 hl hf h2 h3
  have hf' := Go.Proofs.YtopeelklnjbdoaaO.wf_i64 hf
  have hw : ∀ y ∈ l, (-9223372036854775808 ≤ y.f0 ∧ y.f0 ≤ 9223372036854775807) ∧ (-9223372036854775808 ≤ y.f1 ∧ y.f1 ≤ 9223372036854775807) := fun y hy => ⟨Go.Proofs.YtopeelklnjbdoaaO.wf_i64 (hl.2.2 y hy).1, Go.Proofs.YtopeelklnjbdoaaO.wf_i64 (hl.2.2 y hy).2⟩
  refine Ev.rounds ?_
  unfold sundiallaw15_HullOrder.f
  refine Ev.bind awake_ev ?_
  simp only [if_true]
  by_cases h0 : (l.length : Int) = 0
  · have hn : l = [] := List.length_eq_zero_iff.1 (by omega)
    subst hn
    simp only [List.length_nil, Int.ofNat_zero, if_true]
    refine Ev.bind (hull_ev [] f hf'.2) ?_
    have e : hullR [] f = (0, 0, if f < 0 then 2 else 61) := by
      unfold hullR
      rw [if_pos (by decide)]
      by_cases hf0 : f < 0
      · rw [if_pos hf0, if_pos hf0]
      · rw [if_neg hf0, if_neg hf0, if_pos (by simp; omega)]
    rw [e]
    by_cases hf0 : f < 0
    · simp only [if_pos hf0, if_true]; exact Ev.now _
    · simp only [if_neg hf0]
      refine Ev.congr (f := fun _ => some true) (fun k => ?_) (Ev.now _)
      rw [if_pos (by omega)]
      rfl
  · simp only [if_neg h0]
    have hlen : 0 < l.length := by omega
    have hll : l.length ≤ 8796093021952 := by omega
    have htm1 : -(l.length : Int) < Int.tmod a2 (l.length : Int) ∧ Int.tmod a2 (l.length : Int) < (l.length : Int) := ⟨by have := Int.lt_tmod_of_pos a2 (b := (l.length : Int)) (by omega); exact this, Int.tmod_lt_of_pos _ (by omega)⟩
    have hw2 : wrap64 (Int.tmod a2 (l.length : Int) + (l.length : Int)) = Int.tmod a2 (l.length : Int) + (l.length : Int) := wrap_id (by omega) (by omega)
    rw [hw2]
    obtain ⟨t, ht, htl⟩ : ∃ t : Nat, Int.tmod (Int.tmod a2 (l.length : Int) + (l.length : Int)) (l.length : Int) = (t : Int) ∧ t < l.length := by
      have p1 := Int.tmod_nonneg (l.length : Int) (show (0 : Int) ≤ Int.tmod a2 (l.length : Int) + (l.length : Int) by omega)
      have p2 := Int.tmod_lt_of_pos (Int.tmod a2 (l.length : Int) + (l.length : Int)) (show (0 : Int) < (l.length : Int) by omega)
      exact ⟨(Int.tmod (Int.tmod a2 (l.length : Int) + (l.length : Int)) (l.length : Int)).toNat, by omega, by omega⟩
    rw [ht]
    have hd : -1000000 < Int.tmod a3 1000000 ∧ Int.tmod a3 1000000 < 1000000 := ⟨by have := Int.lt_tmod_of_pos a3 (b := 1000000) (by decide); exact this, Int.tmod_lt_of_pos _ (by decide)⟩
    generalize Int.tmod a3 1000000 = d at hd ⊢
    have := order_l0 l f t d hll htl _ _ (hull_ev l f hf'.2) (hull_ev ((turned l t).map (shift d)) f hf'.2) (by
      by_cases hfar : (turned l t).any farB = true
      · exact .inl hfar
      · right
        have hfar' : ∀ s ∈ l, farB s = false := fun s hs => by
          simp only [List.any_eq_true, not_exists, not_and, Bool.not_eq_true] at hfar
          exact hfar s ((turned_perm l t).mem_iff.2 hs)
        have hokE : okL ((turned l t).map (shift d)) = okL l := by
          rw [Bool.eq_iff_iff, okL_iff, okL_iff, List.length_map, turned_length]
          constructor
          · rintro ⟨h1, h2⟩
            refine ⟨h1, fun s hs => ?_⟩
            have := h2 (shift d s) (List.mem_map.2 ⟨s, (turned_perm l t).mem_iff.2 hs, rfl⟩)
            rw [okS_shift hd (hfar' s hs) (hw s hs).1 (hw s hs).2] at this
            exact this
          · rintro ⟨h1, h2⟩
            refine ⟨h1, fun u hu => ?_⟩
            obtain ⟨s, hs, rfl⟩ := List.mem_map.1 hu
            have hs' := (turned_perm l t).mem_iff.1 hs
            rw [okS_shift hd (hfar' s hs') (hw s hs').1 (hw s hs').2]
            exact h2 s hs'
        unfold hullR
        rw [hokE, List.length_map, turned_length]
        by_cases ho : okL l = true
        · have hok := okL_iff.1 ho
          rw [if_pos ho, if_pos ho]
          by_cases hf0 : f < 0
          · rw [if_pos hf0, if_pos hf0]; exact ⟨rfl, fun h => by cases h⟩
          · rw [if_neg hf0, if_neg hf0]
            by_cases hf1 : (l.length : Int) ≤ f
            · rw [if_pos hf1, if_pos hf1]; exact ⟨rfl, fun h => by cases h⟩
            · rw [if_neg hf1, if_neg hf1]
              have g1 := sweep_hull l (fun s hs => (okS_iff.1 (hok.2 s hs)).2.2) ((l.length : Int) - f) (by omega)
              have g2 := sweep_hull ((turned l t).map (shift d)) (fun u hu => (okS_iff.1 ((okL_iff.1 (hokE.trans ho)).2 u hu)).2.2) ((l.length : Int) - f) (by omega)
              have g3 := IsHull.moved t hd hok.2 g1
              have g4 := H.IsHull.unique g2 g3
              rw [g4]
              rcases g1 with ⟨e, _⟩ | ⟨a, b, e, ⟨s, hs, hsa, _⟩, _, ⟨u, hu, hub, _⟩, _⟩
              · rw [e]; exact ⟨rfl, fun h => by cases h⟩
              · rw [e]
                have b1 := okS_iff.1 (hok.2 s hs)
                have b2 := okS_iff.1 (hok.2 u hu)
                refine ⟨rfl, fun _ => ?_⟩
                simp only [if_true]
                exact ⟨(wrap_id (by omega) (by omega)).symm, (wrap_id (by omega) (by omega)).symm⟩
        · rw [if_neg ho, if_neg ho]; exact ⟨rfl, fun h => by cases h⟩) l.length 0 (by omega)
    simpa using this
end Go.Proofs.Ytopeelklnjbdoaa.Pure
