/- CivilFaces, as plain Lean: no program in sight. -/
import Derived.Test.YtgpnmhlpcjmehaaDoorQx11
import Derived.Test.YtgpnmhlpcjmehaaDoorOpens
import Derived.Test.YtgpnmhlpcjmehaaDoorCDays
namespace Go.Proofs.YtgpnmhlpcjmehaaDoor.C
open Go.RowKit Go.Proofs.YtgpnmhlpcjmehaaDoor.Q Go.Proofs.YtgpnmhlpcjmehaaDoorW.PrintWords Go.Proofs.YtgpnmhlpcjmehaaDoorW.PrintLast

theorem show_ev (t : Int) (ht : t ≤ 9223372036854775807) : ∃ r, Ev (fun k => civil_Show.f k t) r ∧ Ev (fun k => sundialref03_Show.f k t) r := by
  by_cases c : t < 0
  · exact ⟨(0, 0, 0, 0, 0, 0, 0, 2), Ev.congr (f := fun _ => some (0, 0, 0, 0, 0, 0, 0, 2)) (fun k => by unfold civil_Show.f; rw [if_pos c]) (Ev.now _), Ev.congr (f := fun _ => some (0, 0, 0, 0, 0, 0, 0, 2)) (fun k => by unfold sundialref03_Show.f; rw [if_pos c]) (Ev.now _)⟩
  have h0 : 0 ≤ t := by omega
  have e1 : wrap64 (Int.tdiv t 90596966400) = t / 90596966400 := by rw [Int.tdiv_eq_ediv_of_nonneg h0]; exact wrap_id (by omega) (by omega)
  have e2 : Int.tmod t 90596966400 = t % 90596966400 := Int.tmod_eq_emod_of_nonneg h0
  have e3 : wrap64 (Int.tdiv (t % 90596966400) 1048576) = t / 1048576 % 86400 := by
    rw [Int.tdiv_eq_ediv_of_nonneg (by omega), wrap_id (by omega) (by omega)]; omega
  have e4 : Int.tmod t 1048576 = t % 1048576 := Int.tmod_eq_emod_of_nonneg h0
  have e5 : wrap64 (Int.tdiv t 1048576) = t / 1048576 := by rw [Int.tdiv_eq_ediv_of_nonneg h0]; exact wrap_id (by omega) (by omega)
  have e6 : wrap64 (Int.tdiv (t / 1048576) 86400) = t / 90596966400 := by
    rw [Int.tdiv_eq_ediv_of_nonneg (by omega), wrap_id (by omega) (by omega)]; omega
  have e7 : Int.tmod (t / 1048576) 86400 = t / 1048576 % 86400 := Int.tmod_eq_emod_of_nonneg (by omega)
  generalize hs : t / 1048576 % 86400 = s at *
  have hs0 : 0 ≤ s := by omega
  have hs1 : s < 86400 := by omega
  have e8 : wrap64 (Int.tdiv s 3600) = s / 3600 := by rw [Int.tdiv_eq_ediv_of_nonneg hs0]; exact wrap_id (by omega) (by omega)
  have e9 : Int.tmod s 3600 = s % 3600 := Int.tmod_eq_emod_of_nonneg hs0
  have e10 : wrap64 (Int.tdiv (s % 3600) 60) = s % 3600 / 60 := by rw [Int.tdiv_eq_ediv_of_nonneg (by omega)]; exact wrap_id (by omega) (by omega)
  have e11 : Int.tmod s 60 = s % 60 := Int.tmod_eq_emod_of_nonneg hs0
  have e12 : wrap64 (Int.tdiv s 60) = s / 60 := by rw [Int.tdiv_eq_ediv_of_nonneg hs0]; exact wrap_id (by omega) (by omega)
  have e13 : Int.tmod (s / 60) 60 = s % 3600 / 60 := by rw [Int.tmod_eq_emod_of_nonneg (by omega)]; omega
  by_cases g : t ≥ 268027863603609600
  · refine ⟨(0, 0, 0, 0, 0, 0, 0, 2), ?_, Ev.congr (f := fun _ => some (0, 0, 0, 0, 0, 0, 0, 2)) (fun k => by unfold sundialref03_Show.f; rw [if_neg c, if_pos g]) (Ev.now _)⟩
    unfold civil_Show.f
    simp only [if_neg c]
    rw [e1]
    refine Ev.bind (day_out (by omega)) ?_
    exact Ev.now _
  · have hn : t / 90596966400 < 2958464 := by omega
    obtain ⟨y, m, d, hD, hE⟩ := day_ev (n := t / 90596966400) (by omega) hn
    obtain ⟨y', m', d', hD', hE'⟩ := dayR_ev (n := t / 90596966400) (by omega) hn
    obtain ⟨rfl, rfl, rfl⟩ := hD.unique hD'
    refine ⟨(y, m, d, s / 3600, s % 3600 / 60, s % 60, t % 1048576, 0), ?_, ?_⟩
    · unfold civil_Show.f
      simp only [if_neg c]
      rw [e1]
      refine Ev.bind hE ?_
      simp only [if_true, e2, e3, e4, e8, e9, e10, e11]
      exact Ev.now _
    · unfold sundialref03_Show.f
      simp only [if_neg c, if_neg g, e5, e6, e7]
      refine Ev.bind hE' ?_
      simp only [e4, e8, e11, e12, e13]
      exact Ev.now _

def bad (x : S65) : Bool := decide (x.f0 < 0) || decide (x.f0 ≥ x.f1)
def tellEnd (n e h m s t : Int) : Int × Int := if e = 0 then (wrap64 ((wrap64 ((wrap64 (n * 90596966400)) + (wrap64 ((wrap64 ((wrap64 ((wrap64 (h * 3600)) + (wrap64 (m * 60)))) + s)) * 1048576)))) + t), 0) else (0, e)
theorem rd65 {l : List S65} {i : Nat} (h : i < l.length) : rd_T65 l (i : Int) = l[i] := by simp [rd_T65, h]
theorem tell_l0 (l : List S65) (hl : l.length ≤ 100) (n y mo d h m s t : Int) : ∀ (j i : Nat) (e : Int), i + j = l.length →
    Ev (fun k => civil_Tell.l0 k n e l (l.length : Int) (i : Int) y mo d h m s t) (tellEnd n (if (l.drop i).any bad = true then 3 else e) h m s t) := by
  intro j
  induction j with
  | zero =>
    intro i e hi
    rw [List.drop_eq_nil_of_le (by omega)]
    refine Ev.step (f := fun _ => some (tellEnd n e h m s t)) (fun k => ?_) (Ev.now _)
    simp only [civil_Tell.l0]
    rw [if_neg (by omega)]
    unfold tellEnd
    by_cases c : e = 0
    · rw [if_pos c, if_pos c]
    · rw [if_neg c, if_neg c]
  | succ j ih =>
    intro i e hi
    have hlt : i < l.length := by omega
    have hw : wrap64 ((i : Int) + 1) = ((i + 1 : Nat) : Int) := by rw [wrap_id (by omega) (by omega)]; omega
    refine Ev.step (f := fun k => civil_Tell.l0 k n (if bad l[i] = true then 3 else e) l (l.length : Int) ((i + 1 : Nat) : Int) y mo d h m s t) (fun k => ?_) ?_
    · simp only [civil_Tell.l0]
      rw [if_pos (by omega), if_pos (by omega), if_pos (by omega), rd65 hlt, hw]
      unfold bad
      by_cases c : l[i].f0 < 0
      · rw [if_pos c]; simp [c]
      · rw [if_neg c]
        by_cases c2 : l[i].f0 ≥ l[i].f1
        · rw [if_pos c2]; simp [c, c2]
        · rw [if_neg c2]
          have : (decide (l[i].f0 < 0) || decide (l[i].f0 ≥ l[i].f1)) = false := by simp [c]; omega
          rw [this]; simp
    · rw [List.drop_eq_getElem_cons hlt]
      have z := ih (i + 1) (if bad l[i] = true then 3 else e) (by omega)
      have e2 : (if (l[i] :: l.drop (i + 1)).any bad = true then (3 : Int) else e) = (if (l.drop (i + 1)).any bad = true then 3 else if bad l[i] = true then 3 else e) := by
        simp only [List.any_cons, Bool.or_eq_true]
        by_cases a : bad l[i] = true <;> by_cases b : (l.drop (i + 1)).any bad = true <;> simp [a, b]
      rw [e2]; exact z
def tellE (y mo d h m s t : Int) : Int × Int :=
  if isB y mo d = true ∧ 0 ≤ h ∧ h < 24 ∧ 0 ≤ m ∧ m < 60 ∧ 0 ≤ s ∧ s < 60 ∧ 0 ≤ t ∧ t < 1048576 then ((num y mo d * 86400 + h * 3600 + m * 60 + s) * 1048576 + t, 0) else (0, 3)
theorem tell_ev (y mo d h m s t : Int) : Ev (fun k => civil_Tell.f k y mo d h m s t) (tellE y mo d h m s t) := by
  unfold civil_Tell.f
  refine Ev.bind (number_ev y mo d) ?_
  simp only [Option.bind_some]
  have z := tell_l0 [(⟨h, 24⟩ : S65), ⟨m, 60⟩, ⟨s, 60⟩, ⟨t, 1048576⟩] (by simp) (numE y mo d).1 y mo d h m s t 4 0 (numE y mo d).2 rfl
  have e : tellEnd (numE y mo d).1 (if (List.drop 0 [(⟨h, 24⟩ : S65), ⟨m, 60⟩, ⟨s, 60⟩, ⟨t, 1048576⟩]).any bad = true then 3 else (numE y mo d).2) h m s t = tellE y mo d h m s t := by
    have hb : (List.drop 0 [(⟨h, 24⟩ : S65), ⟨m, 60⟩, ⟨s, 60⟩, ⟨t, 1048576⟩]).any bad = true ↔ ¬ (0 ≤ h ∧ h < 24 ∧ 0 ≤ m ∧ m < 60 ∧ 0 ≤ s ∧ s < 60 ∧ 0 ≤ t ∧ t < 1048576) := by
      simp [bad]; omega
    unfold tellEnd tellE numE
    by_cases a : isB y mo d = true
    · have n0 := num_lo a; have n1 := num_lt a
      simp only [a, if_true, true_and]
      by_cases b : 0 ≤ h ∧ h < 24 ∧ 0 ≤ m ∧ m < 60 ∧ 0 ≤ s ∧ s < 60 ∧ 0 ≤ t ∧ t < 1048576
      · rw [if_neg (fun q => hb.1 q b), if_pos rfl, if_pos b]
        obtain ⟨b1, b2, b3, b4, b5, b6, b7, b8⟩ := b
        rw [wrap_id (x := num y mo d * 90596966400) (by omega) (by omega), wrap_id (x := h * 3600) (by omega) (by omega), wrap_id (x := m * 60) (by omega) (by omega), wrap_id (x := h * 3600 + m * 60) (by omega) (by omega), wrap_id (x := h * 3600 + m * 60 + s) (by omega) (by omega), wrap_id (x := (h * 3600 + m * 60 + s) * 1048576) (by omega) (by omega), wrap_id (x := num y mo d * 90596966400 + (h * 3600 + m * 60 + s) * 1048576) (by omega) (by omega), wrap_id (by omega) (by omega)]
        congr 1
        omega
      · rw [if_pos (hb.2 b), if_neg b]; rfl
    · have hn : ¬ (isB y mo d = true ∧ 0 ≤ h ∧ h < 24 ∧ 0 ≤ m ∧ m < 60 ∧ 0 ≤ s ∧ s < 60 ∧ 0 ≤ t ∧ t < 1048576) := fun q => a q.1
      rw [if_neg hn]
      simp only [if_neg a]
      generalize (List.drop 0 [(⟨h, 24⟩ : S65), ⟨m, 60⟩, ⟨s, 60⟩, ⟨t, 1048576⟩]).any bad = b
      cases b <;> rfl
  rw [e] at z
  exact z
theorem tellR_ev (y mo d h m s t : Int) : Ev (fun k => sundialref03_Tell.f k y mo d h m s t) (tellE y mo d h m s t) := by
  unfold sundialref03_Tell.f
  refine Ev.bind (numberR_ev y mo d) ?_
  refine Ev.congr (f := fun _ => some (tellE y mo d h m s t)) (fun _ => ?_) (Ev.now _)
  unfold tellE numE
  by_cases a : isB y mo d = true
  · have n0 := num_lo a; have n1 := num_lt a
    simp only [a, if_true, true_and]
    by_cases b : 0 ≤ h ∧ h < 24 ∧ 0 ≤ m ∧ m < 60 ∧ 0 ≤ s ∧ s < 60 ∧ 0 ≤ t ∧ t < 1048576
    · rw [if_pos b]
      obtain ⟨b1, b2, b3, b4, b5, b6, b7, b8⟩ := b
      rw [if_neg (by omega), if_neg (by omega), if_neg (by omega), if_neg (by omega), if_neg (by omega), if_neg (by omega), if_neg (by omega), if_neg (by omega)]
      rw [wrap_id (x := num y mo d * 86400) (by omega) (by omega), wrap_id (x := h * 3600) (by omega) (by omega), wrap_id (x := m * 60) (by omega) (by omega), wrap_id (x := num y mo d * 86400 + h * 3600) (by omega) (by omega), wrap_id (x := num y mo d * 86400 + h * 3600 + m * 60) (by omega) (by omega), wrap_id (x := num y mo d * 86400 + h * 3600 + m * 60 + s) (by omega) (by omega), wrap_id (x := (num y mo d * 86400 + h * 3600 + m * 60 + s) * 1048576) (by omega) (by omega), wrap_id (by omega) (by omega)]
    · rw [if_neg b]
      split
      · rfl
      split
      · rfl
      split
      · rfl
      split
      · rfl
      split
      · rfl
      split
      · rfl
      split
      · rfl
      split
      · rfl
      exact absurd (by omega) b
  · have hn : ¬ (isB y mo d = true ∧ 0 ≤ h ∧ h < 24 ∧ 0 ≤ m ∧ m < 60 ∧ 0 ≤ s ∧ s < 60 ∧ 0 ≤ t ∧ t < 1048576) := fun q => a q.1
    rw [if_neg hn]
    simp only [if_neg a]
    rfl
end Go.Proofs.YtgpnmhlpcjmehaaDoor.C
namespace Go.Proofs.YtgpnmhlpcjmehaaDoor.Pure
open Go.RowKit Go.Proofs.YtgpnmhlpcjmehaaDoor.Q Go.Proofs.YtgpnmhlpcjmehaaDoorW.PrintWords Go.Proofs.YtgpnmhlpcjmehaaDoorW.PrintLast

theorem CivilFaces : ∀ (x0 : Int) (x1 : S47), ((Lit.int .i64 x0).wf = true) → ((((Lit.int .i64 x1.f0.f0).wf = true) ∧ ((Lit.int .i64 x1.f0.f1).wf = true) ∧ ((Lit.int .i64 x1.f0.f2).wf = true)) ∧ ((Lit.int .i64 x1.f1).wf = true) ∧ ((Lit.int .i64 x1.f2).wf = true) ∧ ((Lit.int .i64 x1.f3).wf = true) ∧ ((Lit.int .i64 x1.f4).wf = true)) → ∃ k, sundiallaw03_CivilFaces.f k x0 x1.f0.f0 x1.f0.f1 x1.f0.f2 x1.f1 x1.f2 x1.f3 x1.f4 = some true := by
  intro x0 x1 h0 _
  have ht : x0 ≤ 9223372036854775807 := (YtgpnmhlpcjmehaaDoorO.wf_i64 h0).2
  obtain ⟨r, e1, e2⟩ := C.show_ev x0 ht
  refine Ev.rounds (g := fun k => sundiallaw03_CivilFaces.f k x0 x1.f0.f0 x1.f0.f1 x1.f0.f2 x1.f1 x1.f2 x1.f3 x1.f4) ?_
  unfold sundiallaw03_CivilFaces.f
  refine Ev.bind C.awakeE ?_
  simp only [if_true]
  refine Ev.bind e1 ?_
  refine Ev.bind e2 ?_
  refine Ev.bind (C.tell_ev _ _ _ _ _ _ _) ?_
  refine Ev.bind (C.tellR_ev _ _ _ _ _ _ _) ?_
  simp only [beq_self_eq_true, Bool.and_self, if_true]
  exact Ev.now _

end Go.Proofs.YtgpnmhlpcjmehaaDoor.Pure
