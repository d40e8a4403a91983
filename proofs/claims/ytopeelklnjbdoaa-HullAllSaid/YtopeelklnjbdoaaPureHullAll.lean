/- HullAll, as plain Lean: no program in sight. -/
import Derived.Test.YtopeelklnjbdoaaHLiars
import Derived.Test.YtopeelklnjbdoaaOpens
namespace Go.Proofs.Ytopeelklnjbdoaa.Pure
open Go.RowKit Go.Proofs.Ytopeelklnjbdoaa.Q Go.Proofs.Ytopeelklnjbdoaa.H Go.Proofs.YtopeelklnjbdoaaW.PrintWords Go.Proofs.YtopeelklnjbdoaaW.PrintLast

theorem same_l0 (a b c d e f g h i j : Int) (l : List Int) (hl : l.length ≤ 1000000000) (o : Int) (hab : a = b) (hcd : c = e) (hdf : d = f) (hgi : g = i) (hhj : h = j) : ∀ (n x : Nat), x + n = l.length → Ev (fun k => sundiallaw15_HullAll.l0 k a b c d e f l o l o (x : Int) g h i j) true := by
  intro n
  induction n with
  | zero =>
    intro x hx
    refine Ev.step (f := fun _ => some true) (fun k => ?_) (Ev.now _)
    simp only [sundiallaw15_HullAll.l0]
    rw [if_neg (by omega)]
    subst hab; subst hcd; subst hdf; subst hgi; subst hhj
    simp
  | succ n ih =>
    intro x hx
    refine Ev.step (f := fun k => sundiallaw15_HullAll.l0 k a b c d e f l o l o ((x + 1 : Nat) : Int) g h i j) (fun k => ?_) (ih (x + 1) (by omega))
    simp only [sundiallaw15_HullAll.l0]
    rw [if_pos (by omega), if_pos (by omega), if_pos (by omega), wrapS (by omega)]
    simp

theorem liars_length (a b : Int) : ∀ (l : List S25) (i : Nat), (liars a b l i).length ≤ l.length
  | [], _ => by simp [liars]
  | x :: xs, i => by
    simp only [liars, List.length_append, List.length_cons]
    have := liars_length a b xs (i + 1)
    split <;> simp <;> omega

theorem HullAll : ∀ (x0 : List (S25)) (x1 : Int) (x2 : Int) (x3 : S25), (x0.length ≤ maxLen ∧ x0.length * 16 ≤ 140737488351232 ∧ ∀ y ∈ x0, ((Lit.int .i64 y.f0).wf = true) ∧ ((Lit.int .i64 y.f1).wf = true)) → ((Lit.int .i64 x1).wf = true) → ((Lit.int .i64 x2).wf = true) → (((Lit.int .i64 x3.f0).wf = true) ∧ ((Lit.int .i64 x3.f1).wf = true)) → ∃ k, sundiallaw15_HullAll.f k x0 x1 x2 x3.f0 x3.f1 = some true := by
  intro l f t s hl hf _ _
  have hf' : f ≤ 9223372036854775807 := (Go.Proofs.YtopeelklnjbdoaaO.wf_i64 hf).2
  have hm : l.length ≤ 1000000000000000 := by omega
  refine Ev.rounds ?_
  unfold sundiallaw15_HullAll.f
  refine Ev.bind awake_ev ?_
  simp only [if_true]
  refine Ev.bind (hull_ev l f hf') ?_
  refine Ev.bind (ref_ev l f hm) ?_
  refine Ev.bind (held_ev l t) ?_
  refine Ev.bind (heldRef_ev l t hm) ?_
  refine Ev.bind (liars_ev l s) ?_
  refine Ev.bind (liarsRef_ev l s hm) ?_
  simp only [if_true]
  rw [← hull_is_ref]
  have hlen : (liarsR l s).1.length ≤ 1000000000 := by
    unfold liarsR
    split
    · rename_i h
      have := liars_length s.f0 s.f1 l 0
      have := (okL_iff.1 h.1).1
      simp only
      omega
    · simp
  exact same_l0 _ _ _ _ _ _ _ _ _ _ _ hlen _ rfl rfl rfl rfl rfl (liarsR l s).1.length 0 (by omega)
end Go.Proofs.Ytopeelklnjbdoaa.Pure
