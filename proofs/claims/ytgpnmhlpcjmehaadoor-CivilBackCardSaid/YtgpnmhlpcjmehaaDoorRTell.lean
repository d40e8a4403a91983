/- CivilFaces, as plain Lean: no program in sight. -/
import Derived.Test.YtgpnmhlpcjmehaaDoorRx10
import Derived.Test.YtgpnmhlpcjmehaaDoorOpens
import Derived.Test.YtgpnmhlpcjmehaaDoorRDays
namespace Go.Proofs.YtgpnmhlpcjmehaaDoor.RC
open Go.RowKit Go.Proofs.YtgpnmhlpcjmehaaDoor.R Go.Proofs.YtgpnmhlpcjmehaaDoorW.PrintWords Go.Proofs.YtgpnmhlpcjmehaaDoorW.PrintLast

def bad (x : S65) : Bool := decide (x.f0 < 0) || decide (x.f0 ≥ x.f1)
def tellEnd (n e h m s t : Int) : Int × Int := if e = 0 then (wrap64 ((wrap64 ((wrap64 (n * 90596966400)) + (wrap64 ((wrap64 ((wrap64 ((wrap64 (h * 3600)) + (wrap64 (m * 60)))) + s)) * 1048576)))) + t), 0) else (0, e)
theorem rd65 {l : List S65} {i : Nat} (h : i < l.length) : rd_T65 l (i : Int) = l[i] := by simp [rd_T65, h]
theorem tell_l0 (l : List S65) (hl : l.length ≤ 100) (n y mo d h m s t : Int) : ∀ (j i : Nat) (e : Int), i + j = l.length →
    Ev (fun k => civil_Tell.l0 k n e l (l.length : Int) (i : Int) y mo d h m s t) (tellEnd n (if (l.drop i).any bad = true then 3 else e) h m s t) := by
  intro j
  induction j with
  | zero =>
    intro i e hi
    rw [List.drop_eq_nil_of_le (by omega)]
    refine Ev.step (f := fun _ => some (tellEnd n e h m s t)) (fun k => ?_) (Ev.now _)
    simp only [civil_Tell.l0]
    rw [if_neg (by omega)]
    unfold tellEnd
    by_cases c : e = 0
    · rw [if_pos c, if_pos c]
    · rw [if_neg c, if_neg c]
  | succ j ih =>
    intro i e hi
    have hlt : i < l.length := by omega
    have hw : wrap64 ((i : Int) + 1) = ((i + 1 : Nat) : Int) := by rw [wrap_id (by omega) (by omega)]; omega
    refine Ev.step (f := fun k => civil_Tell.l0 k n (if bad l[i] = true then 3 else e) l (l.length : Int) ((i + 1 : Nat) : Int) y mo d h m s t) (fun k => ?_) ?_
    · simp only [civil_Tell.l0]
      rw [if_pos (by omega), if_pos (by omega), if_pos (by omega), rd65 hlt, hw]
      unfold bad
      by_cases c : l[i].f0 < 0
      · rw [if_pos c]; simp [c]
      · rw [if_neg c]
        by_cases c2 : l[i].f0 ≥ l[i].f1
        · rw [if_pos c2]; simp [c, c2]
        · rw [if_neg c2]
          have : (decide (l[i].f0 < 0) || decide (l[i].f0 ≥ l[i].f1)) = false := by simp [c]; omega
          rw [this]; simp
    · rw [List.drop_eq_getElem_cons hlt]
      have z := ih (i + 1) (if bad l[i] = true then 3 else e) (by omega)
      have e2 : (if (l[i] :: l.drop (i + 1)).any bad = true then (3 : Int) else e) = (if (l.drop (i + 1)).any bad = true then 3 else if bad l[i] = true then 3 else e) := by
        simp only [List.any_cons, Bool.or_eq_true]
        by_cases a : bad l[i] = true <;> by_cases b : (l.drop (i + 1)).any bad = true <;> simp [a, b]
      rw [e2]; exact z
def tellE (y mo d h m s t : Int) : Int × Int :=
  if isB y mo d = true ∧ 0 ≤ h ∧ h < 24 ∧ 0 ≤ m ∧ m < 60 ∧ 0 ≤ s ∧ s < 60 ∧ 0 ≤ t ∧ t < 1048576 then ((num y mo d * 86400 + h * 3600 + m * 60 + s) * 1048576 + t, 0) else (0, 3)
theorem tell_ev (y mo d h m s t : Int) : Ev (fun k => civil_Tell.f k y mo d h m s t) (tellE y mo d h m s t) := by
  unfold civil_Tell.f
  refine Ev.bind (number_ev y mo d) ?_
  simp only [Option.bind_some]
  have z := tell_l0 [(⟨h, 24⟩ : S65), ⟨m, 60⟩, ⟨s, 60⟩, ⟨t, 1048576⟩] (by simp) (numE y mo d).1 y mo d h m s t 4 0 (numE y mo d).2 rfl
  have e : tellEnd (numE y mo d).1 (if (List.drop 0 [(⟨h, 24⟩ : S65), ⟨m, 60⟩, ⟨s, 60⟩, ⟨t, 1048576⟩]).any bad = true then 3 else (numE y mo d).2) h m s t = tellE y mo d h m s t := by
    have hb : (List.drop 0 [(⟨h, 24⟩ : S65), ⟨m, 60⟩, ⟨s, 60⟩, ⟨t, 1048576⟩]).any bad = true ↔ ¬ (0 ≤ h ∧ h < 24 ∧ 0 ≤ m ∧ m < 60 ∧ 0 ≤ s ∧ s < 60 ∧ 0 ≤ t ∧ t < 1048576) := by
      simp [bad]; omega
    unfold tellEnd tellE numE
    by_cases a : isB y mo d = true
    · have n0 := num_lo a; have n1 := num_lt a
      simp only [a, if_true, true_and]
      by_cases b : 0 ≤ h ∧ h < 24 ∧ 0 ≤ m ∧ m < 60 ∧ 0 ≤ s ∧ s < 60 ∧ 0 ≤ t ∧ t < 1048576
      · rw [if_neg (fun q => hb.1 q b), if_pos rfl, if_pos b]
        obtain ⟨b1, b2, b3, b4, b5, b6, b7, b8⟩ := b
        rw [wrap_id (x := num y mo d * 90596966400) (by omega) (by omega), wrap_id (x := h * 3600) (by omega) (by omega), wrap_id (x := m * 60) (by omega) (by omega), wrap_id (x := h * 3600 + m * 60) (by omega) (by omega), wrap_id (x := h * 3600 + m * 60 + s) (by omega) (by omega), wrap_id (x := (h * 3600 + m * 60 + s) * 1048576) (by omega) (by omega), wrap_id (x := num y mo d * 90596966400 + (h * 3600 + m * 60 + s) * 1048576) (by omega) (by omega), wrap_id (by omega) (by omega)]
        congr 1
        omega
      · rw [if_pos (hb.2 b), if_neg b]; rfl
    · have hn : ¬ (isB y mo d = true ∧ 0 ≤ h ∧ h < 24 ∧ 0 ≤ m ∧ m < 60 ∧ 0 ≤ s ∧ s < 60 ∧ 0 ≤ t ∧ t < 1048576) := fun q => a q.1
      rw [if_neg hn]
      simp only [if_neg a]
      generalize (List.drop 0 [(⟨h, 24⟩ : S65), ⟨m, 60⟩, ⟨s, 60⟩, ⟨t, 1048576⟩]).any bad = b
      cases b <;> rfl
  rw [e] at z
  exact z
end Go.Proofs.YtgpnmhlpcjmehaaDoor.RC
