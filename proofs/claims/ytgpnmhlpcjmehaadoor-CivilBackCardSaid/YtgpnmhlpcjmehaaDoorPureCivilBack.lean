/- CivilBack, as plain Lean: no program in sight. -/
import Derived.Test.YtgpnmhlpcjmehaaDoorRx10
import Derived.Test.YtgpnmhlpcjmehaaDoorOpens
import Derived.Test.YtgpnmhlpcjmehaaDoorRTexts
import Derived.Test.YtgpnmhlpcjmehaaDoorRTell
namespace Go.Proofs.YtgpnmhlpcjmehaaDoor.RC
open Go.RowKit Go.Proofs.YtgpnmhlpcjmehaaDoor.R Go.Proofs.YtgpnmhlpcjmehaaDoorW.PrintWords Go.Proofs.YtgpnmhlpcjmehaaDoorW.PrintLast

theorem mod_in (a n : Int) (h0 : 0 < n) (h1 : n < 4611686018427387904) : Int.tmod (wrap64 (Int.tmod a n + n)) n = a % n := by
  have hb : -n < Int.tmod a n ∧ Int.tmod a n < n := by
    have := Int.tmod_lt_of_pos a h0
    have := Int.lt_tmod_of_pos a h0
    exact ⟨by omega, by omega⟩
  rw [wrap_id (by omega) (by omega), Int.tmod_eq_emod_of_nonneg (by omega), Int.add_emod_right]
  have e : Int.tmod a n = a - n * Int.tdiv a n := by have := Int.tmod_add_mul_tdiv a n; omega
  rw [e, Int.sub_mul_emod_self_left]

theorem less_dg {a b : Nat} (ha : a < 10) (hb : b < 10) (x y : List UInt8) : Op.bytesLess (dg a :: x) (dg b :: y) = (decide (a < b) || (decide (a = b) && Op.bytesLess x y)) := by
  show (decide (dg a < dg b) || (dg a == dg b && Op.bytesLess x y)) = _
  have e1 : decide (dg a < dg b) = decide (a < b) := by
    refine decide_eq_decide.2 ?_
    rw [UInt8.lt_iff_toNat_lt, dg_nat ha, dg_nat hb]
    omega
  have e2 : (dg a == dg b) = decide (a = b) := by
    rw [Bool.eq_iff_iff, beq_iff_eq, decide_eq_true_eq, ← UInt8.toNat_inj, dg_nat ha, dg_nat hb]
    omega
  rw [e1, e2]
theorem less_dash (x y : List UInt8) : Op.bytesLess (45 :: x) (45 :: y) = Op.bytesLess x y := by
  show (decide ((45 : UInt8) < 45) || ((45 : UInt8) == 45 && Op.bytesLess x y)) = _
  simp
theorem lex2 (a b : Nat) (t : Bool) : (decide (a / 10 < b / 10) || (decide (a / 10 = b / 10) && (decide (a % 10 < b % 10) || (decide (a % 10 = b % 10) && t)))) = (decide (a < b) || (decide (a = b) && t)) := by
  cases t
  · rw [Bool.eq_iff_iff]; simp; omega
  · rw [Bool.eq_iff_iff]; simp; omega
theorem lex4 (a b : Nat) (ha : a < 10000) (hb : b < 10000) (t : Bool) : (decide (a / 1000 < b / 1000) || (decide (a / 1000 = b / 1000) && (decide (a / 100 % 10 < b / 100 % 10) || (decide (a / 100 % 10 = b / 100 % 10) && (decide (a / 10 % 10 < b / 10 % 10) || (decide (a / 10 % 10 = b / 10 % 10) && (decide (a % 10 < b % 10) || (decide (a % 10 = b % 10) && t)))))))) = (decide (a < b) || (decide (a = b) && t)) := by
  cases t
  · rw [Bool.eq_iff_iff]; simp; omega
  · rw [Bool.eq_iff_iff]; simp; omega
theorem less_txt {y m d y' m' d' : Nat} (h1 : y < 10000) (h2 : m < 100) (h3 : d < 100) (g1 : y' < 10000) (g2 : m' < 100) (g3 : d' < 100) :
    Op.bytesLess (txtN y m d) (txtN y' m' d') = (decide (y < y') || (decide (y = y') && (decide (m < m') || (decide (m = m') && (decide (d < d')))))) := by
  unfold txtN
  rw [less_dg (by omega) (by omega), less_dg (by omega) (by omega), less_dg (by omega) (by omega), less_dg (by omega) (by omega), less_dash, less_dg (by omega) (by omega), less_dg (by omega) (by omega), less_dash, less_dg (by omega) (by omega), less_dg (by omega) (by omega)]
  have e : Op.bytesLess ([] : List UInt8) [] = false := rfl
  rw [e, lex4 _ _ h1 g1, lex2, lex2]
  simp
theorem num_lex {y m d y' m' d' : Int} (h : isB y m d = true) (h' : isB y' m' d' = true) (l : y < y' ∨ y = y' ∧ (m < m' ∨ m = m' ∧ d < d')) : num y m d < num y' m' d' := by
  obtain ⟨h1, h2, h3, h4, h5, h6⟩ := isB_iff.1 h
  obtain ⟨g1, g2, g3, g4, g5, g6⟩ := isB_iff.1 h'
  have a := num_hi h
  have p := M_nonneg y' m'
  have q := M_step y h3
  rcases l with l | ⟨rfl, l | ⟨rfl, l⟩⟩
  · have := D_mono (show y + 1 ≤ y' by omega); unfold num at *; omega
  · have := M_mono y (show m + 1 ≤ m' by omega); unfold num at *; omega
  · unfold num; omega
theorem less_num {y m d y' m' d' : Int} (h : isB y m d = true) (h' : isB y' m' d' = true) : Op.bytesLess (txt y m d).toList (txt y' m' d').toList = decide (num y m d < num y' m' d') := by
  obtain ⟨h1, h2, h3, h4, h5, h6⟩ := isB_iff.1 h
  obtain ⟨g1, g2, g3, g4, g5, g6⟩ := isB_iff.1 h'
  have l := len_hi y m; have l' := len_hi y' m'
  have e : ∀ y m d : Int, (txt y m d).toList = txtN y.toNat m.toNat d.toNat := fun y m d => by simp [txt]
  rw [e, e, less_txt (by omega) (by omega) (by omega) (by omega) (by omega) (by omega)]
  rw [Bool.eq_iff_iff]
  simp only [Bool.or_eq_true, Bool.and_eq_true, decide_eq_true_eq]
  constructor
  · intro c
    exact num_lex h h' (by omega)
  · intro c
    by_cases q : y < y' ∨ y = y' ∧ (m < m' ∨ m = m' ∧ d < d')
    · omega
    · by_cases r : y' < y ∨ y' = y ∧ (m' < m ∨ m' = m ∧ d' < d)
      · have := num_lex h' h r; omega
      · obtain ⟨rfl, rfl, rfl⟩ : y = y' ∧ m = m' ∧ d = d' := by omega
        omega
theorem back_j0 (t : Int) (ht : t ≤ 9223372036854775807) : Ev (fun k => sundiallaw03_CivilBack.j0 k t false) true := by
  have hj : ∀ (r : Int × Int × Int × Int × Int × Int × Int × Int), Ev (fun k => civil_Show.f k t) r →
      Ev (fun k => (if r.2.2.2.2.2.2.2 = 0 then ((civil_Tell.f k r.1 r.2.1 r.2.2.1 r.2.2.2.1 r.2.2.2.2.1 r.2.2.2.2.2.1 r.2.2.2.2.2.2.1).bind fun bt209 => (if bt209.2 = 0 then (some (bt209.1 == t)) else (none))) else (if r.2.2.2.2.2.2.2 = 2 then (some ((r.1 == 0 && (r.2.1 == 0 && (r.2.2.1 == 0))) && (r.2.2.2.1 == 0 && (r.2.2.2.2.1 == 0 && (r.2.2.2.2.2.1 == 0 && (r.2.2.2.2.2.2.1 == 0)))))) else (none)) : Option Bool)) true →
      Ev (fun k => sundiallaw03_CivilBack.j0 k t false) true := by
    intro r e1 e2
    refine Ev.step (f := fun k => (civil_Show.f k t).bind fun bt200 => (if bt200.2.2.2.2.2.2.2 = 0 then ((civil_Tell.f k bt200.1 bt200.2.1 bt200.2.2.1 bt200.2.2.2.1 bt200.2.2.2.2.1 bt200.2.2.2.2.2.1 bt200.2.2.2.2.2.2.1).bind fun bt209 => (if bt209.2 = 0 then (some (bt209.1 == t)) else (none))) else (if bt200.2.2.2.2.2.2.2 = 2 then (some ((bt200.1 == 0 && (bt200.2.1 == 0 && (bt200.2.2.1 == 0))) && (bt200.2.2.2.1 == 0 && (bt200.2.2.2.2.1 == 0 && (bt200.2.2.2.2.2.1 == 0 && (bt200.2.2.2.2.2.2.1 == 0)))))) else (none)))) (fun k => ?_) (Ev.bind e1 e2)
    simp only [sundiallaw03_CivilBack.j0, Bool.false_eq_true, if_false]
  by_cases c : t < 0
  · refine hj (0, 0, 0, 0, 0, 0, 0, 2) (Ev.congr (f := fun _ => some (0, 0, 0, 0, 0, 0, 0, 2)) (fun k => by unfold civil_Show.f; rw [if_pos c]) (Ev.now _)) ?_
    exact Ev.now true
  have h0 : 0 ≤ t := by omega
  have e1 : wrap64 (Int.tdiv t 90596966400) = t / 90596966400 := by rw [Int.tdiv_eq_ediv_of_nonneg h0]; exact wrap_id (by omega) (by omega)
  have e2 : Int.tmod t 90596966400 = t % 90596966400 := Int.tmod_eq_emod_of_nonneg h0
  have e3 : wrap64 (Int.tdiv (t % 90596966400) 1048576) = t / 1048576 % 86400 := by
    rw [Int.tdiv_eq_ediv_of_nonneg (by omega), wrap_id (by omega) (by omega)]; omega
  have e4 : Int.tmod t 1048576 = t % 1048576 := Int.tmod_eq_emod_of_nonneg h0
  have hs0 : 0 ≤ t / 1048576 % 86400 := by omega
  have hs1 : t / 1048576 % 86400 < 86400 := by omega
  by_cases g : t ≥ 268027863603609600
  · refine hj (0, 0, 0, 0, 0, 0, 0, 2) ?_ (Ev.now true)
    unfold civil_Show.f
    simp only [if_neg c]
    rw [e1]
    refine Ev.bind (day_out (by omega)) ?_
    exact Ev.now _
  · have hn : t / 90596966400 < 2958464 := by omega
    obtain ⟨y, m, d, hD, hE⟩ := day_ev (n := t / 90596966400) (by omega) hn
    have hv : t = (t / 90596966400 * 86400 + t / 1048576 % 86400) * 1048576 + t % 1048576 := by omega
    generalize hs : t / 1048576 % 86400 = s at *
    have e8 : wrap64 (Int.tdiv s 3600) = s / 3600 := by rw [Int.tdiv_eq_ediv_of_nonneg hs0]; exact wrap_id (by omega) (by omega)
    have e9 : Int.tmod s 3600 = s % 3600 := Int.tmod_eq_emod_of_nonneg hs0
    have e10 : wrap64 (Int.tdiv (s % 3600) 60) = s % 3600 / 60 := by rw [Int.tdiv_eq_ediv_of_nonneg (by omega)]; exact wrap_id (by omega) (by omega)
    have e11 : Int.tmod s 60 = s % 60 := Int.tmod_eq_emod_of_nonneg hs0
    refine hj (y, m, d, s / 3600, s % 3600 / 60, s % 60, t % 1048576, 0) ?_ ?_
    · unfold civil_Show.f
      simp only [if_neg c]
      rw [e1]
      refine Ev.bind hE ?_
      simp only [if_true, e2, e3, e4, e8, e9, e10, e11]
      exact Ev.now _
    · simp only [if_true]
      refine Ev.bind (tell_ev _ _ _ _ _ _ _) ?_
      have ht : tellE y m d (s / 3600) (s % 3600 / 60) (s % 60) (t % 1048576) = (t, 0) := by
        unfold tellE
        rw [if_pos ⟨hD.1, by omega, by omega, by omega, by omega, by omega, by omega, by omega, by omega⟩, hD.2]
        congr 1
        omega
      rw [ht]
      simp only [if_true, beq_self_eq_true]
      exact Ev.now _
end Go.Proofs.YtgpnmhlpcjmehaaDoor.RC
namespace Go.Proofs.YtgpnmhlpcjmehaaDoor.Pure
open Go.RowKit Go.Proofs.YtgpnmhlpcjmehaaDoor.R Go.Proofs.YtgpnmhlpcjmehaaDoorW.PrintWords Go.Proofs.YtgpnmhlpcjmehaaDoorW.PrintLast

theorem CivilBack : ∀ (x0 : Int) (x1 : Int) (x2 : Int), ((Lit.int .i64 x0).wf = true) → ((Lit.int .i64 x1).wf = true) → ((Lit.int .i64 x2).wf = true) → ∃ k, sundiallaw03_CivilBack.f k x0 x1 x2 = some true := by
  intro x0 x1 x2 _ _ h2
  have ht : x2 ≤ 9223372036854775807 := (YtgpnmhlpcjmehaaDoorO.wf_i64 h2).2
  refine Ev.rounds (g := fun k => sundiallaw03_CivilBack.f k x0 x1 x2) ?_
  unfold sundiallaw03_CivilBack.f
  rw [RC.mod_in x0 2958464 (by decide) (by decide), RC.mod_in x1 2958464 (by decide) (by decide)]
  generalize hn : x0 % 2958464 = n
  generalize hm : x1 % 2958464 = m
  obtain ⟨y, mo, d, hA, eA⟩ := RC.day_ev (n := n) (by omega) (by omega)
  obtain ⟨y2, mo2, d2, hB, eB⟩ := RC.day_ev (n := m) (by omega) (by omega)
  refine Ev.bind RC.awakeE ?_
  simp only [if_true]
  refine Ev.bind eA ?_
  refine Ev.bind eB ?_
  refine Ev.bind (RC.number_ev _ _ _) ?_
  have t1 : RC.textE y mo d = (RC.txt y mo d, 0) := by unfold RC.textE; rw [if_pos hA.1]
  have t2 : RC.textE y2 mo2 d2 = (RC.txt y2 mo2 d2, 0) := by unfold RC.textE; rw [if_pos hB.1]
  have hnum : RC.numE y mo d = (n, 0) := by unfold RC.numE; rw [if_pos hA.1, hA.2]
  simp only [RC.text_eq, Option.bind_some, t1, t2, RC.parse_txt hA.1, hnum, if_true, RC.less_num hA.1 hB.1, hA.2, hB.2]
  simp only [beq_self_eq_true, Bool.not_true, Bool.or_self, Bool.false_eq_true, if_false, bne_self_eq_false]
  exact RC.back_j0 x2 ht

end Go.Proofs.YtgpnmhlpcjmehaaDoor.Pure
