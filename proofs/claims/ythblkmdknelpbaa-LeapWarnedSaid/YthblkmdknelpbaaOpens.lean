/- How the arguments of a law, read as data, are values of the printed kinds: integers, bools, strings, slices and structs of these. -/
import Derived.Test.YthblkmdknelpbaaWWords
import Derived.SizedLaws
import Derived.ChangeSlices
import Derived.ProofKit
import Derived.OpenShut
namespace Go.Proofs.YthblkmdknelpbaaO
open Go.RowKit Go.Proofs.YthblkmdknelpbaaW.PrintWords
open Go.ChangeShapes Go.WideShapes

/-- The reading's answer at one fuel. -/
def Opens {α : Type} (P : Program) (d : Kd α) (t : TypeId) (wf : α → Prop) : Prop :=
  P.cellsOf t = d.sz ∧ ∀ (H : Type) (enc : TypeId × Value → H) (w : World) (base : Nat) (sp : Nat → Bool) (held : Bool) (fuel : Nat) (cs : List Value) (y : DataW H × List MemPlace),
    DataW.trod enc P w base sp held fuel t cs = some y → (∀ n ∈ y.1.weights P t, n ≤ reachBytes) → ∃ x, d.K w x cs ∧ wf x

theorem Opens.mono {α : Type} {P : Program} {d : Kd α} {t : TypeId} {wf wf' : α → Prop} (h : Opens P d t wf) (hw : ∀ x, wf x → wf' x) : Opens P d t wf' :=
  ⟨h.1, fun H enc w base sp held fuel cs y hy hn => by
    obtain ⟨x, hx, hwx⟩ := h.2 H enc w base sp held fuel cs y hy hn
    exact ⟨x, hx, hw x hwx⟩⟩

theorem opens_int {P : Program} {t : TypeId} {k : IntKind} (ht : P.underlying t = some (.int k)) (hc : P.cellsOf t = 1) : Opens P (Kd.int k) t (fun x => (Lit.int k x).wf = true) := by
  refine ⟨hc, fun H enc w base sp held fuel cs y hy hn => ?_⟩
  cases fuel with
  | zero => simp [DataW.trod] at hy
  | succ fuel =>
    unfold DataW.trod at hy
    rw [ht] at hy
    match cs, hy with
    | [.int k' n], hy =>
      simp only at hy
      split at hy
      · rename_i h
        obtain ⟨rfl, hw⟩ := h
        exact ⟨n, rfl, hw⟩
      · cases hy

theorem opens_bool {P : Program} {t : TypeId} (ht : P.underlying t = some .bool) (hc : P.cellsOf t = 1) : Opens P Kd.bool t (fun _ => True) := by
  refine ⟨hc, fun H enc w base sp held fuel cs y hy hn => ?_⟩
  cases fuel with
  | zero => simp [DataW.trod] at hy
  | succ fuel =>
    unfold DataW.trod at hy
    rw [ht] at hy
    match cs, hy with
    | [.bool b], hy => exact ⟨b, rfl, trivial⟩

theorem opens_string {P : Program} {t : TypeId} (ht : P.underlying t = some .string) (hc : P.cellsOf t = 1) : Opens P Kd.string t (fun s => s.size ≤ 140737488351232) := by
  refine ⟨hc, fun H enc w base sp held fuel cs y hy hn => ?_⟩
  cases fuel with
  | zero => simp [DataW.trod] at hy
  | succ fuel =>
    unfold DataW.trod at hy
    rw [ht] at hy
    match cs, hy with
    | [.string s], hy =>
      simp only at hy
      split at hy
      · obtain rfl := Option.some.inj hy
        refine ⟨s, rfl, ?_⟩
        have := hn s.data.toList.length (by simp [DataW.weights])
        simpa [reachBytes] using this
      · cases hy

theorem mapM_some {α β : Type} {f : α → Option β} : ∀ {l : List α} {r : List β}, l.mapM f = some r → r.length = l.length ∧ ∀ i (h : i < l.length), ∃ b, f l[i] = some b ∧ r[i]? = some b
  | [], r, h => by
    simp at h; subst h; exact ⟨rfl, fun i h => absurd h (Nat.not_lt_zero _)⟩
  | a :: l, r, h => by
    rw [List.mapM_cons] at h
    cases hf : f a with
    | none => rw [hf] at h; simp at h
    | some b =>
      rw [hf] at h
      cases hl : l.mapM f with
      | none => rw [hl] at h; simp at h
      | some r' =>
        rw [hl] at h
        simp at h
        subst h
        obtain ⟨h1, h2⟩ := mapM_some hl
        refine ⟨by simp [h1], fun i hi => ?_⟩
        cases i with
        | zero => exact ⟨b, hf, rfl⟩
        | succ i =>
          obtain ⟨c, hc, hr⟩ := h2 i (by simpa using hi)
          exact ⟨c, by simpa using hc, by simpa using hr⟩

theorem mem_weightsAll {H : Type} {P : Program} {e : TypeId} : ∀ {l : List (DataW H)} {x : DataW H} {n : Nat}, x ∈ l → n ∈ x.weights P e → n ∈ DataW.weightsAll P e l
  | _ :: _, x, n, hx, hn => by
    simp only [DataW.weightsAll, List.mem_append]
    rcases List.mem_cons.1 hx with rfl | hx
    · exact .inl hn
    · exact .inr (mem_weightsAll hx hn)

theorem list_choose {α : Type} {n : Nat} {p : Nat → α → Prop} (h : ∀ i, i < n → ∃ x, p i x) : ∃ l : List α, l.length = n ∧ ∀ i x, l[i]? = some x → p i x := by
  induction n with
  | zero => exact ⟨[], rfl, fun i x h => by simp at h⟩
  | succ n ih =>
    obtain ⟨l, hl, hp⟩ := ih (fun i hi => h i (by omega))
    obtain ⟨x, hx⟩ := h n (by omega)
    refine ⟨l ++ [x], by simp [hl], fun i y hy => ?_⟩
    by_cases hi : i < l.length
    · rw [List.getElem?_append_left hi] at hy
      exact hp i y hy
    · rw [List.getElem?_append_right (by omega)] at hy
      have : i - l.length = 0 := by
        cases hk : i - l.length with
        | zero => rfl
        | succ k => rw [hk] at hy; simp at hy
      rw [this] at hy
      simp at hy
      subst hy
      have : i = n := by omega
      subst this
      exact hx

theorem cells_at {w : World} {base : Nat} {a : Addr} {n : Nat} {cs : List Value} (h : w.cells? base a n = some cs) : cs.length = n ∧ ∀ i u, cs[i]? = some u → w.cell? (a.add i) = some u := by
  unfold World.cells? at h
  split at h
  · obtain ⟨h1, h2⟩ := mapM_some h
    refine ⟨by simpa using h1, fun i u hu => ?_⟩
    have hi : i < cs.length := by
      rcases Nat.lt_or_ge i cs.length with hi | hi
      · exact hi
      · rw [List.getElem?_eq_none hi] at hu; cases hu
    obtain ⟨b, hb, hr⟩ := h2 i (by omega)
    rw [hu] at hr
    obtain rfl := Option.some.inj hr
    simpa using hb
  · cases h

theorem addr_add_add (a : Addr) (i j : Nat) : (a.add i).add j = a.add (i + j) := by
  unfold Addr.add
  by_cases hi : i = 0
  · subst hi; simp
  · by_cases hj : j = 0
    · subst hj; simp
    · simp [hi, hj, Nat.add_assoc]

theorem opens_slice {α : Type} {P : Program} {d : Kd α} {t e : TypeId} {wf : α → Prop} {B : Nat} (ht : P.underlying t = some (.slice e)) (hc : P.cellsOf t = 1) (hB : P.bytesOf e = B) (he : Opens P d e wf) :
    Opens P (Kd.slice e d) t (fun xs => xs.length ≤ maxLen ∧ xs.length * B ≤ 140737488351232 ∧ ∀ x ∈ xs, wf x) := by
  refine ⟨hc, fun H enc w base sp held fuel cs y hy hn => ?_⟩
  cases fuel with
  | zero => simp [DataW.trod] at hy
  | succ fuel =>
    unfold DataW.trod at hy
    rw [ht] at hy
    match cs, hy with
    | [.slice none 0 0], hy => exact ⟨[], ⟨none, 0, rfl, Nat.le_refl _, Kd.C_nil _ _⟩, by simp, by simp, fun x hx => by simp at hx⟩
    | [.slice (some a) len cap], hy =>
      simp only at hy
      split at hy
      · rename_i hh
        obtain ⟨hb, hlc, hcm⟩ := hh
        rw [Option.bind_eq_some_iff] at hy
        obtain ⟨elems, hel, hy⟩ := hy
        rw [Option.map_eq_some_iff] at hy
        obtain ⟨rest, hrest, rfl⟩ := hy
        obtain ⟨hl1, hl2⟩ := mapM_some hel
        have hlen : elems.length = len := by simpa using hl1
        have hall : ∀ i, i < len → ∃ x, (∃ c, d.K w x c ∧ c.length = d.sz ∧ ∀ j u, c[j]? = some u → w.cell? (a.add (i * d.sz + j)) = some u) ∧ wf x := by
          intro i hi
          obtain ⟨z, hz, hr⟩ := hl2 i (by simpa using hi)
          simp only [List.getElem_range] at hz
          rw [Option.bind_eq_some_iff] at hz
          obtain ⟨c, hc1, hc2⟩ := hz
          obtain ⟨x, hx, hwx⟩ := he.2 H enc w base sp held fuel c z hc2 (fun n hnz => hn n (by
            simp only [DataW.weights, ht, List.mem_cons, List.mem_append]
            exact .inr (.inl (mem_weightsAll (List.mem_map.2 ⟨z, List.mem_of_getElem? hr, rfl⟩) hnz))))
          obtain ⟨hcl, hca⟩ := cells_at hc1
          refine ⟨x, ⟨c, hx, by rw [hcl, he.1], fun j u hu => ?_⟩, hwx⟩
          have := hca j u hu
          rw [he.1] at this
          rw [addr_add_add] at this
          exact this
        obtain ⟨xs, hxl, hxp⟩ := list_choose hall
        have hbytes : xs.length * B ≤ 140737488351232 := by
          have := hn ((elems.map (·.1)).length + (rest.map (·.1)).length) 
          have h2 := hn (((elems.map (·.1)).length + (rest.map (·.1)).length) * P.bytesOf e) (by simp [DataW.weights, ht])
          rw [hB] at h2
          simp only [List.length_map] at h2
          have h3 : xs.length ≤ elems.length + rest.length := by omega
          have h4 := Nat.mul_le_mul_right B h3
          simp only [reachBytes] at h2
          omega
        refine ⟨xs, ⟨some a, cap, by rw [hxl], by omega, ?_⟩, by omega, hbytes, fun x hx => ?_⟩
        · refine ⟨rfl, ?_, fun _ => ⟨a, rfl, fun j p hp => ?_⟩⟩
          · unfold maxLen at hcm; omega
          · obtain ⟨⟨c, h1, h2, h3⟩, _⟩ := hxp j p hp
            exact ⟨c, h2, h1, h3⟩
        · obtain ⟨i, hi⟩ := List.getElem?_of_mem hx
          exact (hxp i x hi).2
      · cases hy

/-- A struct's fields, from cell 'off' on. -/
def OpensFs {α : Type} (P : Program) (d : Kd α) (fs : List Field) (off : Nat) (wf : α → Prop) : Prop :=
  ∀ (H : Type) (enc : TypeId × Value → H) (w : World) (base : Nat) (sp : Nat → Bool) (held : Bool) (fuel : Nat) (cs : List Value) (ys : List (DataW H × List MemPlace)),
    fs.mapM (fun f => DataW.trod enc P w base sp held fuel f.type ((cs.drop f.offset).take (P.cellsOf f.type))) = some ys → cs.length = off + d.sz →
    (∀ n ∈ DataW.weightsEach P (fs.map (·.type)) (ys.map (·.1)), n ≤ reachBytes) → ∃ x, d.K w x (cs.drop off) ∧ wf x

theorem opensFs_one {α : Type} {P : Program} {d : Kd α} {f : Field} {off : Nat} {wf : α → Prop} (ho : f.offset = off) (h : Opens P d f.type wf) : OpensFs P d [f] off wf := by
  intro H enc w base sp held fuel cs ys hy hl hn
  obtain ⟨h1, h2⟩ := mapM_some hy
  obtain ⟨z, hz, hr⟩ := h2 0 (by simp)
  simp only [List.getElem_cons_zero] at hz
  match ys, h1, hr with
  | [z'], _, hr =>
    simp at hr
    subst hr
    rw [ho, h.1, List.take_of_length_le (by rw [List.length_drop]; omega)] at hz
    exact h.2 H enc w base sp held fuel _ _ hz (fun n hnn => hn n (by simp [DataW.weightsEach, hnn]))

theorem opensFs_cons {α β : Type} {P : Program} {a : Kd α} {b : Kd β} {f : Field} {fs : List Field} {off : Nat} {wa : α → Prop} {wb : β → Prop} (ho : f.offset = off) (h : Opens P a f.type wa) (hs : OpensFs P b fs (off + a.sz) wb) :
    OpensFs P (Kd.pair a b) (f :: fs) off (fun x => wa x.1 ∧ wb x.2) := by
  intro H enc w base sp held fuel cs ys hy hl hn
  rw [List.mapM_cons] at hy
  have hpl : (Kd.pair a b).sz = a.sz + b.sz := rfl
  rw [hpl] at hl
  cases hf : DataW.trod enc P w base sp held fuel f.type ((cs.drop f.offset).take (P.cellsOf f.type)) with
  | none => rw [hf] at hy; simp at hy
  | some z =>
    rw [hf] at hy
    cases hr : fs.mapM (fun f => DataW.trod enc P w base sp held fuel f.type ((cs.drop f.offset).take (P.cellsOf f.type))) with
    | none => rw [hr] at hy; simp at hy
    | some zs =>
      rw [hr] at hy
      simp at hy
      subst hy
      rw [ho, h.1] at hf
      obtain ⟨x, hx, hwx⟩ := h.2 H enc w base sp held fuel _ _ hf (fun n hnn => hn n (by simp [DataW.weightsEach, hnn]))
      obtain ⟨y, hyK, hwy⟩ := hs H enc w base sp held fuel cs zs hr (by omega) (fun n hnn => hn n (by simp only [List.map_cons, DataW.weightsEach, List.mem_append]; exact .inr hnn))
      refine ⟨(x, y), ⟨_, _, ?_, hx, hyK⟩, hwx, hwy⟩
      rw [← List.drop_drop, List.take_append_drop]

theorem opens_struct {α β : Type} {P : Program} {d : Kd α} {t : TypeId} {fs : Array Field} {wf : α → Prop} {f : β → α} (g : α → β) (hfg : ∀ a, f (g a) = a) (ht : P.underlying t = some (.struct fs)) (hc : P.cellsOf t = d.sz) (h : OpensFs P d fs.toList 0 wf) :
    Opens P (Kd.iso d f) t (fun b => wf (f b)) := by
  refine ⟨hc, fun H enc w base sp held fuel cs y hy hn => ?_⟩
  cases fuel with
  | zero => simp [DataW.trod] at hy
  | succ fuel =>
    unfold DataW.trod at hy
    rw [ht] at hy
    simp only at hy
    split at hy
    · rename_i hl
      rw [Option.map_eq_some_iff] at hy
      obtain ⟨ys, hys, rfl⟩ := hy
      obtain ⟨x, hx, hwx⟩ := h H enc w base sp held fuel cs ys hys (by rw [hl, hc]; omega) (fun n hnn => hn n (by simp only [DataW.weights, ht]; exact hnn))
      refine ⟨g x, ?_, by show wf (f (g x)); rw [hfg]; exact hwx⟩
      show d.K w (f (g x)) cs
      rw [hfg]
      simpa using hx
    · cases hy

/-- An argument of a law. -/
theorem Opens.arg {α H : Type} {enc : TypeId × Value → H} {P : Program} {d : Kd α} {t : TypeId} {wf : α → Prop} (h : Opens P d t wf) {W : World} {base : Nat} {sp : Nat → Bool} {held : Bool} {v : Value} {x : DataW H} {ps : List MemPlace} {ts : List TypeId} {ds : List (DataW H)} {j : Nat}
    (hsz : (DataW.weightsEach P ts ds).all (· ≤ reachBytes) = true) (hj : ts[j]? = some t) (hd : ds[j]? = some x) (hr : DataW.Trod enc P W base sp held t v x ps) : ∃ a, d.K W a v.cells.toList ∧ wf a := by
  obtain ⟨fuel, hf⟩ := hr
  refine h.2 H enc W base sp held fuel _ _ hf (fun n hn => ?_)
  have := List.all_eq_true.1 hsz _ (DataW.weights_mem_each hj hd n hn)
  simpa using this

/-- A slice argument. -/
theorem K_slice {α : Type} {d : Kd α} {e : Nat} {w : World} {xs : List α} {A : Option Addr} {n c : Nat} (h : (Kd.slice e d).K w xs (Value.slice A n c).cells.toList) : n = xs.length ∧ xs.length ≤ c ∧ d.C w A xs.length xs := by
  obtain ⟨A', c', hcs, hl, hC⟩ := h
  simp [Value.cells] at hcs
  obtain ⟨rfl, rfl, rfl⟩ := hcs
  exact ⟨rfl, hl, hC⟩

theorem wf_i64 {x : Int} (h : (Lit.int .i64 x).wf = true) : -9223372036854775808 ≤ x ∧ x ≤ 9223372036854775807 := by
  simp [Lit.wf, IntKind.min, IntKind.max, IntKind.signed, IntKind.bits] at h
  exact h
theorem wf_u8 {x : Int} (h : (Lit.int .u8 x).wf = true) : 0 ≤ x ∧ x ≤ 255 := by
  simp [Lit.wf, IntKind.min, IntKind.max, IntKind.signed, IntKind.bits] at h
  exact h
theorem wf_u32 {x : Int} (h : (Lit.int .u32 x).wf = true) : 0 ≤ x ∧ x ≤ 4294967295 := by
  simp [Lit.wf, IntKind.min, IntKind.max, IntKind.signed, IntKind.bits] at h
  exact h
theorem wf_u64 {x : Int} (h : (Lit.int .u64 x).wf = true) : 0 ≤ x ∧ x ≤ 18446744073709551615 := by
  simp [Lit.wf, IntKind.min, IntKind.max, IntKind.signed, IntKind.bits] at h
  exact h

end Go.Proofs.YthblkmdknelpbaaO
