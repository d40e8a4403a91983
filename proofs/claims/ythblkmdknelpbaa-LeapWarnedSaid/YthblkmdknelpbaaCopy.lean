/- copy(out[lo:], src) into a row of whole numbers of the call's own: what is run, and the row behind it. -/
import Derived.Test.YthblkmdknelpbaaWWords
import Derived.Test.YthblkmdknelpbaaWMore
import Derived.Laws.CopyOwn
namespace Go.Proofs.YthblkmdknelpbaaCopy
open Go.RowKit Go.Proofs.YthblkmdknelpbaaW.PrintWords Go.Proofs.YthblkmdknelpbaaW.PrintLast
/-- ys laid over xs from place lo on, as far as xs goes. -/
def copyAt (xs : List Int) (lo : Nat) (ys : List Int) : List Int := splice xs lo (ys.take (xs.length - lo))
theorem reps_int {q : IntKind} {W : World} {base : Nat} {ok : Nat → Prop} {xs : List Int} {inner : List Value} (h : Reps ((Kd.int q).M W base ok) 1 xs inner) : inner = xs.map (Value.int q) := by
  obtain ⟨hl, hr⟩ := h
  apply List.ext_getElem?
  intro j
  cases hx : xs[j]? with
  | none => 
    have h1 : xs.length ≤ j := List.getElem?_eq_none_iff.1 hx
    rw [List.getElem?_eq_none (by omega), List.getElem?_eq_none (by simpa using h1)]
  | some x =>
    have hj : j < xs.length := (List.getElem?_eq_some_iff.1 hx).1
    have h2 : (inner.drop (j * 1)).take 1 = [Value.int q x] := hr j x hx
    rw [Nat.mul_one] at h2
    rw [List.getElem?_map, hx]
    have h3 : (inner.drop j)[0]? = some (Value.int q x) := by
      have := congrArg (fun l => l[0]?) h2
      simpa [List.getElem?_take] using this
    simpa using h3
theorem reps_int_mk {q : IntKind} {W : World} {base : Nat} {ok : Nat → Prop} (xs : List Int) : Reps ((Kd.int q).M W base ok) 1 xs (xs.map (Value.int q)) := by
  refine ⟨by simp, fun j p hj => ?_⟩
  have hl : j < xs.length := (List.getElem?_eq_some_iff.1 hj).1
  have e : xs[j] = p := (List.getElem?_eq_some_iff.1 hj).2
  show ((xs.map (Value.int q)).drop (j * 1)).take 1 = [Value.int q p]
  rw [Nat.mul_one, List.drop_eq_getElem_cons (by simpa using hl)]
  simp [e]
theorem take_splice {α : Type} (L : List α) (n o : Nat) (cs : List α) (h : o + cs.length ≤ n) (hn : n ≤ L.length) : (splice L o cs).take n = splice (L.take n) o cs := by
  unfold splice
  rw [List.take_append, List.take_append, List.take_take, List.drop_take]
  have e1 : (L.take o).length = o := by rw [List.length_take]; omega
  rw [e1, List.take_of_length_le (l := cs) (by omega)]
  congr 1
  · rw [List.take_take, Nat.min_comm]
  · congr 1
    congr 1
    omega
section
variable {P : Program} {W : World}
theorem copy_run (q : IntKind) (base : Nat) (t e ty : TypeId) (ht : P.underlying t = some (.slice e)) (hi : (P.info? e).map (·.size) = some 1) (A : Option Addr) (n c lo : Nat) (xs ys : List Int) (ok : Nat → Prop) (sA : Option Addr) (m sc : Nat)
    (HO : (Kd.int q).R e W base ok (.slice A n c) xs) (HS : (Kd.int q).C W sA m ys) (hlo : lo ≤ n) (hx : xs.length = n) (dA : Option Addr) (dL dC : Nat) (hdL : dL = n - lo) (hA : dA = if c = lo then A else A.map (·.add (lo * 1))) :
    ∃ w1, (Builtin.copy_ #[t, t] ty #[.slice dA dL dC, .slice sA m sc]).run P W = .ok (goInt (Nat.min m (n - lo))) w1 ∧ (Kd.int q).R e w1 base ok (.slice A n c) (copyAt xs lo ys) ∧ W.grownBy w1 (Value.slice A n c).ownBlock := by
  subst hdL
  have hm : ys.length = m := HS.1
  by_cases h0 : Nat.min m (n - lo) = 0
  · refine ⟨W, ?_, ?_, World.grownBy.refl W _⟩
    · rw [h0]; exact run_copy_none W t t ty e dA sA (n - lo) dC m sc ht hi h0
    · have : ys.take (xs.length - lo) = [] := by
        apply List.eq_nil_of_length_eq_zero
        rw [List.length_take, hm, hx, Nat.min_comm]; exact h0
      unfold copyAt splice
      rw [this]
      simpa using HO
  · obtain ⟨hok, inner, hown, hr⟩ := HO
    obtain rfl := reps_int hr
    obtain ⟨hlen, h1 | ⟨g, cap, cur, hv, hg, hh, hnc, hcap, hsz, htk⟩⟩ := hown
    · have : n = 0 := by have := congrArg (fun v => match v with | Value.slice _ k _ => k | _ => 0) h1.1; simpa using this
      exact absurd (by rw [this]; simp) h0
    · simp only [Value.slice.injEq] at hv
      obtain ⟨rfl, hn', rfl⟩ := hv
      have hm0 : 0 < m := by rcases Nat.eq_zero_or_pos m with z | z; exact absurd (by rw [z]; simp) h0; exact z
      obtain ⟨ad, rfl, hc⟩ := HS.2.2 (by omega)
      have hcl : c ≠ lo := by
        intro h; subst h
        exact h0 (by rw [show n - c = 0 by omega]; simp)
      rw [if_neg hcl] at hA
      have hdA : dA = some ⟨g, lo, none⟩ := by
        rw [hA]; simp [Addr.add]; omega
      subst hdA
      have hcs : ((ys.take (n - lo)).map (Value.int q)).length = Nat.min m (n - lo) := by rw [List.length_map, List.length_take, hm, Nat.min_comm]
      have hrun := run_copy_row (P := P) W t t ty e g lo (n - lo) dC ad m sc cur e ((ys.take (n - lo)).map (Value.int q)) ht hi hh hcs (fun j v hj => by
          rw [List.getElem?_map] at hj
          cases hy : (ys.take (n - lo))[j]? with
          | none => rw [hy] at hj; cases hj
          | some y =>
            rw [hy] at hj
            simp only [Option.map_some, Option.some.injEq] at hj
            subst hj
            have hy2 : ys[j]? = some y := by
              rw [List.getElem?_take] at hy
              split at hy
              · exact hy
              · cases hy
            obtain ⟨cc, _, hK, hcell⟩ := hc j y hy2
            have hK2 : cc = [Value.int q y] := hK
            subst hK2
            have := hcell 0 _ rfl
            simpa [show (Kd.int q).sz = 1 from rfl] using this)
        (by rw [hcs]; have : cur.size = c * 1 := hsz; have : Nat.min m (n - lo) ≤ n - lo := Nat.min_le_right _ _; omega) (fun v hv => by
          obtain ⟨y, _, rfl⟩ := List.mem_map.1 hv
          rfl)
      refine ⟨_, by rw [← hcs]; exact hrun, ⟨hok, (copyAt xs lo ys).map (Value.int q), ?_, reps_int_mk _⟩, ?_⟩
      · have hcl2 : (copyAt xs lo ys).length = xs.length := by
          unfold copyAt
          exact length_splice _ _ _ (by rw [List.length_take]; omega)
        have hL : xs.length ≤ cur.toList.length := by have hz : cur.toList.length = cur.size := Array.length_toList; have : cur.size = c * 1 := hsz; omega
        have hfit : lo + ((ys.take (n - lo)).map (Value.int q)).length ≤ xs.length := by rw [hcs]; have : Nat.min m (n - lo) ≤ n - lo := Nat.min_le_right _ _; omega
        refine ⟨by rw [List.length_map]; exact (Nat.mul_one _).symm, .inr ⟨g, c, _, by rw [hcl2, hn'], hg, setRow_heap W g cur _ e _ hh, by rw [hcl2]; exact hnc, hcap, ?_, ?_⟩⟩
        · show ((cur.toList.take lo ++ (ys.take (n - lo)).map (Value.int q) ++ cur.toList.drop (lo + ((ys.take (n - lo)).map (Value.int q)).length)).toArray).size = c * 1
          have : cur.size = c * 1 := hsz
          have hz : cur.toList.length = cur.size := Array.length_toList
          rw [List.size_toArray, List.length_append, List.length_append, List.length_take, List.length_drop, hz, Nat.min_eq_left (by omega)]
          omega
        · rw [hcl2]
          show (cur.toList.take lo ++ (ys.take (n - lo)).map (Value.int q) ++ cur.toList.drop (lo + ((ys.take (n - lo)).map (Value.int q)).length)).take (xs.length * 1) = _
          have e1 := take_splice cur.toList xs.length lo ((ys.take (n - lo)).map (Value.int q)) hfit hL
          have htk2 : cur.toList.take xs.length = xs.map (Value.int q) := by rw [← htk]; show _ = cur.toList.take (xs.length * 1); rw [Nat.mul_one]
          rw [Nat.mul_one, List.append_assoc]
          show (splice cur.toList lo ((ys.take (n - lo)).map (Value.int q))).take xs.length = _
          rw [e1, htk2]
          unfold copyAt splice
          simp [hn', List.map_take, List.map_drop, List.length_take]
      · refine ⟨rfl, rfl, rfl, by simp [World.setRow], fun k hk hne => setRow_other W g k _ (fun e => hne (by rw [e]; rfl))⟩
variable {ops : Array Oper} {rest : List Oper} {o : Oper} {a : Act} {Q : Exit → Act → World → Prop} {Kc : Act → World → Prop}
/-- As a law at the operation. -/
theorem R_copy (q : IntKind) {w0 : World} (base : Nat) (hgd : o.guard = none) (s x : Operand) (t e : TypeId) (z : Value) (bytes : Nat)
    (ho : o.op = .call { callee := .builtin .copy, args := #[s, x], argTypes := #[t, t] }) (ht : P.underlying t = some (.slice e)) (hinfo : (P.info? e).map (fun i => (i.zero, i.size, i.bytes)) = some (some z, 1, bytes))
    (A : Option Addr) (n c lo : Nat) (xs ys : List Int) (ok : Nat → Prop) (sA : Option Addr) (m sc : Nat) (dA : Option Addr) (dL dC : Nat) (hs : a.eval s = .slice dA dL dC) (hx : a.eval x = .slice sA m sc)
    (HO : (Kd.int q).R e W base ok (.slice A n c) xs) (HS : (Kd.int q).C W sA m ys) (hlo : lo ≤ n) (hn : xs.length = n) (hdL : dL = n - lo) (hA : dA = if c = lo then A else A.map (·.add (lo * 1))) (HB : Below base w0 W) (hbase : base ≤ W.heap.size)
    (h : ∀ w1, (Kd.int q).R e w1 base ok (.slice A n c) (copyAt xs lo ys) → Below base w0 w1 → W.grownBy w1 (Value.slice A n c).ownBlock → wpList P ops Q rest (a.put o.dst (goInt (Nat.min m (n - lo)))) w1) : wpList P ops Q (o :: rest) a W := by
  have hi : (P.info? e).map (·.size) = some 1 := by
    obtain ⟨i0, hi, hz⟩ := Option.map_eq_some_iff.1 hinfo
    simp only [Prod.mk.injEq] at hz
    rw [hi]; simp [hz.2.1]
  obtain ⟨w1, hrun, hR, hg⟩ := copy_run (P := P) q base t e o.type ht hi A n c lo xs ys ok sA m sc HO HS hlo hn dA dL dC hdL hA
  refine wpList_plain hgd fun K hK => ?_
  unfold Oper.wp
  simp [execOp, ho, resolve, invoke, builtin, hs, hx, hrun, Result.andThen]
  exact hK _ _ (h w1 hR (HB.grown hg hbase (own_base HO.2.choose_spec.1)) hg)
/-- As a step of a region that draws its order. -/
theorem R_copy_step (q : IntKind) {w0 : World} (base : Nat) (hw : Region.wanted o (yielded ops a.tmps) = true) (s x : Operand) (t e : TypeId) (z : Value) (bytes : Nat)
    (ho : o.op = .call { callee := .builtin .copy, args := #[s, x], argTypes := #[t, t] }) (ht : P.underlying t = some (.slice e)) (hinfo : (P.info? e).map (fun i => (i.zero, i.size, i.bytes)) = some (some z, 1, bytes))
    (A : Option Addr) (n c lo : Nat) (xs ys : List Int) (ok : Nat → Prop) (sA : Option Addr) (m sc : Nat) (dA : Option Addr) (dL dC : Nat) (hs : a.eval s = .slice dA dL dC) (hx : a.eval x = .slice sA m sc)
    (HO : (Kd.int q).R e W base ok (.slice A n c) xs) (HS : (Kd.int q).C W sA m ys) (hlo : lo ≤ n) (hn : xs.length = n) (hdL : dL = n - lo) (hA : dA = if c = lo then A else A.map (·.add (lo * 1))) (HB : Below base w0 W) (hbase : base ≤ W.heap.size)
    (h : ∀ w1, (Kd.int q).R e w1 base ok (.slice A n c) (copyAt xs lo ys) → Below base w0 w1 → W.grownBy w1 (Value.slice A n c).ownBlock → Kc (a.put o.dst (goInt (Nat.min m (n - lo)))) w1) :
    if Region.wanted o (yielded ops a.tmps) = true then Oper.wp P o a W Kc Q else Kc (a.put o.dst undef) W := by
  have hi : (P.info? e).map (·.size) = some 1 := by
    obtain ⟨i0, hi, hz⟩ := Option.map_eq_some_iff.1 hinfo
    simp only [Prod.mk.injEq] at hz
    rw [hi]; simp [hz.2.1]
  obtain ⟨w1, hrun, hR, hg⟩ := copy_run (P := P) q base t e o.type ht hi A n c lo xs ys ok sA m sc HO HS hlo hn dA dL dC hdL hA
  rw [if_pos hw]
  unfold Oper.wp
  simp [execOp, ho, resolve, invoke, builtin, hs, hx, hrun, Result.andThen]
  exact h w1 hR (HB.grown hg hbase (own_base HO.2.choose_spec.1)) hg
end
section
variable {P : Program} {ops : Array Oper} {rest : List Oper} {o : Oper} {a : Act} {Q : Exit → Act → World → Prop}
theorem freeze_heap (W : World) (g k : Nat) (cur : Array Value) (e : TypeId) (h : W.heap[g]? = some (.cells cur e (0, 0))) :
    (W.freeze ⟨g, k, none⟩ 1).heap[g]? = some (.cells cur e (k, k + 1)) ∧ (∀ j, j ≠ g → (W.freeze ⟨g, k, none⟩ 1).heap[j]? = W.heap[j]?) ∧ (W.freeze ⟨g, k, none⟩ 1).heap.size = W.heap.size := by
  unfold World.freeze
  rw [if_neg (by decide)]
  refine ⟨?_, fun j hj => ?_, by simp⟩
  · simp [Array.getElem?_modify, h]
  · simp [Array.getElem?_modify, Ne.symm hj]
/-- '[]byte("..")' of a constant: a literal's row, converted to its own type: it is marked, and only read from then on. -/
theorem R_mark {w0 W : World} (base : Nat) (hgd : o.guard = none) (x : Operand) (t e : TypeId) (ho : o.op = .convert t t x) (ht : P.underlying t = some (.slice e)) (he : P.underlying e = some (.int .u8))
    (A : Option Addr) (c : Nat) (xs : List Int) (ok : Nat → Prop) (hx : a.eval x = .slice A xs.length c) (HO : (Kd.int .u8).R e W base ok (.slice A xs.length c) xs) (hn : 0 < xs.length) (HB : Below base w0 W)
    (h : ∀ w1, (Kd.int .u8).C w1 A xs.length xs → Below base w0 w1 → wpList P ops Q rest (a.put o.dst (.slice A xs.length c)) w1) : wpList P ops Q (o :: rest) a W := by
  have hC := (Kd.R_reads' HO).2.2
  obtain ⟨hok, inner, hown, hr⟩ := HO
  obtain ⟨hlen, h1 | ⟨g, cap, cur, hv, hg, hh, hnc, hcap, hsz, htk⟩⟩ := hown
  · exact absurd h1.2 (by omega)
  · simp only [Value.slice.injEq] at hv
    obtain ⟨rfl, hn', rfl⟩ := hv
    have hsh : W.shape? g = some (e, cur.size) := by
      unfold World.shape?
      rw [hh]
    have hrun : (convert t t (.slice (some ⟨g, 0, none⟩) xs.length c)).run P W = .ok (.slice (some ⟨g, 0, none⟩) xs.length c) (W.freeze ⟨g, cur.size, none⟩ 1) := by
      simp [convert, run_underlying ht, run_underlying he, markStringish, hsh]
    obtain ⟨z1, z2, z3⟩ := freeze_heap W g cur.size cur e hh
    have hbl : Below base w0 (W.freeze ⟨g, cur.size, none⟩ 1) := by
      refine ⟨HB.os, HB.tape, HB.output, ?_, fun k hk => ?_⟩
      · rw [z3]; exact HB.size
      · rw [z2 k (by omega)]; exact HB.block k hk
    refine wpList_plain hgd fun K hK => ?_
    unfold Oper.wp
    simp [execOp, ho, hx, hrun, Result.andThen]
    refine hK _ _ (h _ ?_ hbl)
    refine ⟨hC.1, hC.2.1, fun hp => ?_⟩
    obtain ⟨ad, e1, hc⟩ := hC.2.2 hp
    refine ⟨ad, e1, fun j p hj => ?_⟩
    obtain ⟨cc, hl, hK2, hcell⟩ := hc j p hj
    refine ⟨cc, hl, hK2, fun i u hu => ?_⟩
    have h3 := hcell i u hu
    rw [← h3]
    cases e1
    unfold World.cell?
    by_cases hb : (Addr.add ⟨g, 0, none⟩ (j * (Kd.int .u8).sz + i)).block = g
    · rw [hb, z1, hh]
    · rw [z2 _ hb]
end
end Go.Proofs.YthblkmdknelpbaaCopy
