/- leap.utc: the walk, a range over slices.Backward. -/
import Derived.Sort.CutIn
import Derived.Test.YthblkmdknelpbaaRQ
import Derived.Test.YthblkmdknelpbaaUtc
import Derived.Test.YthblkmdknelpbaaWWords
import Derived.Test.YthblkmdknelpbaaWLast
namespace Go.Proofs.YthblkmdknelpbaaU
open Go.RowKit Go.Shelf Go.Proofs.YthblkmdknelpbaaW.PrintWords Go.Proofs.YthblkmdknelpbaaW.PrintLast Go.Proofs.YthblkmdknelpbaaRQ
attribute [local go_sem] Oper.semAt_some

theorem sec_in (F : Fence) (n : Nat) (h13 : F.fn 13) (hro : F.round = none) (x : Int) (w : World) : CallsIn F n Try.prog 13 #[.int .i64 x] w fun e w' => e = .returned (.int .i64 (wrap64 (x * 1048576))) ∧ w' = w := by
  refine callsIn_of_wp Try.func13 rfl h13 ?_ hro
  simp only [Try.ntmps13, List.size_toArray, List.length_cons, List.length_nil, Nat.reduceAdd, Nat.reduceSub, Array.replicate_succ, Array.replicate_zero, List.push_toArray, List.append_toArray, List.nil_append, List.cons_append]
  gi_wp2
  go_ret
  exact ⟨rfl, rfl⟩
theorem bwd_in (F : Fence) (n : Nat) (h17 : F.fn 17) (hro : F.round = none) (A : Option Addr) (len cap : Nat) (w : World) :
    CallsIn F n Try.prog 17 #[.slice A len cap] w fun e w' => e = .returned (.func (.func 21) #[] #[.pointer (some ⟨w.heap.size, 0, none⟩)]) ∧ w' = w.alloc (.cells #[.slice A len cap] 22) := by
  refine callsIn_of_wp Try.func17 rfl h17 ?_ hro
  simp only [Try.ntmps17, List.size_toArray, List.length_cons, List.length_nil, Nat.reduceAdd, Nat.reduceSub, Array.replicate_succ, Array.replicate_zero, List.push_toArray, List.append_toArray, List.nil_append, List.cons_append]
  gi_wp2
  go_ret
  exact ⟨rfl, rfl⟩
/-- slices.Backward(s) hands back a value that stops. -/
theorem bw_stops (F : Fence) (h21 : F.fn 21) (hro : F.round = none) (n : Nat) (hn : 1 ≤ n) (Bs n₀ len cap : Nat) (A : Option Addr) (zs : Nat → Int × Int) (hreach : len ≤ 140737488351232) (w : World) (hBs : Bs < w.heap.size) (hn₀ : n₀ ≤ w.heap.size) (hBn : Bs < n₀)
    (hc : w.cell? ⟨Bs, 0, none⟩ = some (.slice A len cap)) (hI : 0 < len → ∃ ad, A = some ad ∧ ad.block < n₀ ∧ Cs w ad len zs) :
    SeqStopsK F n Try.prog 21 #[.pointer (some ⟨Bs, 0, none⟩)] (encEl (len := len) zs) (Below n₀) (fun ys => ys = came len 0) (fun pre => ∃ m, m < len ∧ pre = came len m) len w := fun l J Jx W hW _ _ hY h0 => by
  have hc' := (hW.cell (p := ⟨Bs, 0, none⟩) hBs).trans hc
  have hI' : 0 < len → ∃ ad, A = some ad ∧ ad.block < n₀ ∧ Cs W ad len zs := fun h => by
    obtain ⟨ad, e1, e2, e3⟩ := hI h
    exact ⟨ad, e1, e2, e3.below (hW.mono hn₀) e2⟩
  refine (bw1_in F n h21 hro hn l Bs n₀ len cap A zs hreach J Jx hY W hBn hc' hI' h0).mono ?_
  rintro e W' ⟨he, hj | ⟨m, hm, hj⟩⟩
  · exact ⟨he, .inl ⟨_, rfl, hj⟩⟩
  · exact ⟨he, .inr ⟨_, ⟨m, hm, rfl⟩, hj⟩⟩
theorem cells_own {β : Type} (B : Nat) (t : TypeId) (cs : Array Value) : Own (fun (_ : β) W => W.heap[B]? = some (.cells cs t (0, 0))) := fun s X Y row hs hg hrow =>
  (hg.block B (Array.getElem?_eq_some_iff.1 hs).1 (fun e' => by obtain ⟨o, ho, hc⟩ := hrow B e'.symm; rw [hs] at ho; cases ho; cases hc)).trans hs
theorem info36 : ∃ i0, Try.prog.info? 36 = some i0 ∧ i0.size = 2 := Option.map_eq_some_iff.1 (show (Try.prog.info? 36).map (fun i => i.size) = some 2 by kernel_rfl)
/-- What the element behind number m says. -/
def st (lf : Nat → Int × Int) (u : Int) (m : Nat) : Option (Int × Bool) :=
  if u ≥ wrap64 ((lf (m + 1)).1 + wrap64 ((lf (m + 1)).2 * 1048576)) then some (wrap64 (u - wrap64 ((lf (m + 1)).2 * 1048576)), false)
  else if (lf (m + 1)).2 > (lf m).2 ∧ u ≥ wrap64 (wrap64 ((lf (m + 1)).1 + wrap64 ((lf (m + 1)).2 * 1048576)) - 1048576) then some (wrap64 (u - wrap64 ((lf (m + 1)).2 * 1048576)), true)
  else none
/-- The first of the elements behind the first that says something, from the last one down. -/
def utcL (lf : Nat → Int × Int) (u : Int) : Nat → Option (Int × Bool)
  | 0 => none
  | m + 1 => match st lf u m with
    | some r => some r
    | none => utcL lf u m
def utcP (lf : Nat → Int × Int) (u : Int) (len : Nat) : Int × Bool := (utcL lf u (len - 1)).getD (wrap64 (u - wrap64 ((lf 0).2 * 1048576)), false)
theorem utcL_skip (lf : Nat → Int × Int) (u : Int) (n : Nat) : ∀ (q m : Nat), m + q = n → (∀ x ∈ came n m, st lf u x.val = none) → utcL lf u n = utcL lf u m := by
  intro q
  induction q with
  | zero => intro m h _; obtain rfl : m = n := by omega
            rfl
  | succ q ih =>
    intro m h hx
    rw [came_succ (show m < n by omega)] at hx
    rw [ih (m + 1) (by omega) (fun x h => hx x (List.mem_append_left _ h))]
    have := hx ⟨m, by omega⟩ (List.mem_append_right _ (List.mem_singleton.2 rfl))
    simp only at this
    show (match st lf u m with | some r => some r | none => utcL lf u m) = _
    rw [this]
theorem utc_fin (F : Fence) (n : Nat) (D : Nat) (tmps : Array Value) (w W' : World) (r : Int × Bool) (hK : W'.heap[D]? = some (.deferred (some []))) (q2 : W'.heap[w.heap.size + 1 + 1]? = some (.cells #[.int .i64 r.1] 23 (0, 0))) (q3 : W'.heap[w.heap.size + 1 + 1 + 1]? = some (.cells #[.bool r.2] 4 (0, 0)))
    (hB : Below w.heap.size w W') (hDw : w.heap.size ≤ D) (t4 : tmps[4]?.getD undef = .pointer (some ⟨w.heap.size + 1 + 1, 0, none⟩)) (t5 : tmps[5]?.getD undef = .pointer (some ⟨w.heap.size + 1 + 1 + 1, 0, none⟩)) :
    bodyPostM F n Try.prog Try.f12 (fun e W' => e = Ending.returned (Value.tuple #[Value.int IntKind.i64 r.1, Value.bool r.2]) ∧ Below w.heap.size w W') Exit.ret { tmps := tmps, defers := [{ target := .collected D, args := #[] }] } W' := by
  refine ⟨by simp, .inl ⟨_, _, rfl, run_takeDeferred hK, ?_⟩⟩
  have h2 := cell_kept (blk_cell q2 0) (grownBy_putObj' _ D (.deferred none)) (fun r e => by cases e; exact ⟨_, hK, rfl⟩)
  have h3 := cell_kept (blk_cell q3 0) (grownBy_putObj' _ D (.deferred none)) (fun r e => by cases e; exact ⟨_, hK, rfl⟩)
  refine ⟨.tuple #[.int .i64 r.1, .bool r.2], ?_, rfl, hB.trans (belowK_b (w := w) (Nat.le_refl _) _ D _ _ hDw hK rfl rfl)⟩
  simp [results, Try.f12, go_sem, t4, t5, h2, h3]
set_option maxRecDepth 100000 in
set_option maxHeartbeats 4000000 in
theorem utc_in (F : Fence) (h12 : F.fn 12) (h13 : F.fn 13) (h17 : F.fn 17) (h21 : F.fn 21) (hro : F.round = none) (n : Nat) (hn : 6 ≤ n) (A : Option Addr) (len cap : Nat) (ex u : Int) (lf : Nat → Int × Int) (w : World) (h1 : 1 ≤ len) (hlc : len ≤ cap) (hreach : len ≤ 140737488351232) (ad : Addr) (hA : A = some ad) (hb : ad.block < w.heap.size) (hcs : Cs w ad len lf) :
    CallsIn F n Try.prog 12 #[.agg #[.slice A len cap, .int .i64 ex], .int .i64 u] w fun e W' =>
      e = .returned (.tuple #[.int .i64 (utcP lf u len).1, .bool (utcP lf u len).2]) ∧ Below w.heap.size w W' := by
  subst hA
  have hn0 : 1 ≤ n := by omega
  refine callsIn_of_wp_marks Try.func12 rfl h12 ?_ hro
  simp only [Try.ntmps12, List.size_toArray, List.length_cons, List.length_nil, Nat.reduceAdd, Nat.reduceSub, Array.replicate_succ, Array.replicate_zero, List.push_toArray, List.append_toArray, List.nil_append, List.cons_append]
  obtain ⟨i0, hi0, hsi0⟩ := info36
  obtain ⟨A', hA'⟩ : ∃ A', A' = (if cap = 1 then some ad else some (ad.add 2)) := ⟨_, rfl⟩
  have hcut : ∀ W, (Instr.slice 22 (.slice (some ad) len cap) (some (.int .i64 1)) none none).run Try.prog W = .ok (.slice A' (len - 1) (cap - 1)) W := by
    intro W
    rw [cut_from (P := Try.prog) 22 36 .i64 Try.underlying22 hi0 2 hsi0 (some ad) len cap 1 (by omega) (by omega) W, hA']
    rfl
  have hsl : 0 < len - 1 → ∃ ad', A' = some ad' ∧ ad'.block < w.heap.size ∧ Cs w ad' (len - 1) (fun j => lf (j + 1)) := by
    intro h
    refine ⟨ad.add 2, by rw [hA', if_neg (by omega)], by rw [add_block]; exact hb, fun j hj => ?_⟩
    have e : (ad.add 2).add (j * 2) = ad.add ((j + 1) * 2) := by
      unfold Addr.add
      by_cases hj0 : j * 2 = 0
      · rw [if_pos hj0, if_neg (by omega), if_neg (by omega), show (j + 1) * 2 = 2 by omega]
      · rw [if_neg hj0, if_neg (by omega), if_neg (by omega)]
        simp only
        rw [show ad.off + 2 + j * 2 = ad.off + (j + 1) * 2 by omega]
    rw [e]
    exact hcs (j + 1) (by omega)
  clear hA'
  gi_wp2_with (gi_at_call 17; refine (bwd_in F (n - 1) h17 hro _ _ _ _).mono ?_; rintro e w' ⟨rfl, rfl⟩)
  clear hcut
  obtain ⟨W0, hW0⟩ : ∃ W0, ((((w.alloc (.cells #[.slice (some ad) len cap, .int .i64 ex] 25)).alloc (.cells #[.int .i64 u] 23)).alloc (.cells #[.int .i64 0] 23)).alloc (.cells #[.bool false] 4)).alloc (.cells #[.slice A' (len - 1) (cap - 1)] 22) = W0 := ⟨_, rfl⟩
  have hsz0 : W0.heap.size = w.heap.size + 5 := by rw [← hW0]; simp
  have hB0 : Below w.heap.size w W0 := by rw [← hW0]; exact (((((Below.refl _ w).alloc (Nat.le_refl _) _).alloc (by simp) _).alloc (by simp; omega) _).alloc (by simp; omega) _).alloc (by simp; omega) _
  have b0 : W0.heap[w.heap.size]? = some (.cells #[.slice (some ad) len cap, .int .i64 ex] 25 (0, 0)) := by rw [← hW0]; exact blk_alloc (blk_alloc (blk_alloc (blk_alloc (blk_new w _) _) _) _) _
  have b1 : W0.heap[w.heap.size + 1]? = some (.cells #[.int .i64 u] 23 (0, 0)) := by rw [← hW0]; exact blk_alloc (blk_alloc (blk_alloc (by have := blk_new (w.alloc (.cells #[.slice (some ad) len cap, .int .i64 ex] 25)) (.cells #[.int .i64 u] 23); rwa [World.size_alloc] at this) _) _) _
  have b2 : W0.heap[w.heap.size + 1 + 1]? = some (.cells #[.int .i64 0] 23 (0, 0)) := by rw [← hW0]; exact blk_alloc (blk_alloc (by have := blk_new ((w.alloc (.cells #[.slice (some ad) len cap, .int .i64 ex] 25)).alloc (.cells #[.int .i64 u] 23)) (.cells #[.int .i64 0] 23); simpa only [World.size_alloc] using this) _) _
  have b3 : W0.heap[w.heap.size + 1 + 1 + 1]? = some (.cells #[.bool false] 4 (0, 0)) := by rw [← hW0]; exact blk_alloc (by have := blk_new (((w.alloc (.cells #[.slice (some ad) len cap, .int .i64 ex] 25)).alloc (.cells #[.int .i64 u] 23)).alloc (.cells #[.int .i64 0] 23)) (.cells #[.bool false] 4); simpa only [World.size_alloc] using this) _
  have b4 : W0.heap[w.heap.size + 1 + 1 + 1 + 1]? = some (.cells #[.slice A' (len - 1) (cap - 1)] 22 (0, 0)) := by rw [← hW0]; have := blk_new ((((w.alloc (.cells #[.slice (some ad) len cap, .int .i64 ex] 25)).alloc (.cells #[.int .i64 u] 23)).alloc (.cells #[.int .i64 0] 23)).alloc (.cells #[.bool false] 4)) (.cells #[.slice A' (len - 1) (cap - 1)] 22); simpa only [World.size_alloc] using this
  rw [hW0]
  clear hW0
  refine wpIn_rangeFunc_ownH hro (by omega) (gf := 21) (lb := #[.pointer (some ⟨w.heap.size + 1 + 1 + 1 + 1, 0, none⟩)]) rfl h21 (enters_of Try.func21 (by kernel_rfl) rfl)
    (bw_stops F h21 hro (n - 1) (by omega) (w.heap.size + 1 + 1 + 1 + 1) W0.heap.size (len - 1) (cap - 1) A' (fun j => lf (j + 1)) (by omega) W0 (by omega) (by omega) (by omega) (blk_cell b4 0)
      (fun h => by obtain ⟨ad', e1, e2, e3⟩ := hsl h; exact ⟨ad', e1, by omega, e3.below hB0 e2⟩)) belowK_t (belowK_b (by omega)) (Below.refl _ _) (fun _ => rfl)
    (fun (pre : List (Fin (len - 1))) W => ((((W.heap[w.heap.size]? = some (.cells #[.slice (some ad) len cap, .int .i64 ex] 25 (0, 0)) ∧ W.heap[w.heap.size + 1]? = some (.cells #[.int .i64 u] 23 (0, 0))) ∧ (W.heap[w.heap.size + 1 + 1]? = some (.cells #[.int .i64 0] 23 (0, 0)) ∧ W.heap[w.heap.size + 1 + 1 + 1]? = some (.cells #[.bool false] 4 (0, 0)))) ∧ (∀ x ∈ pre, st lf u x.val = none)) ∧ W0.heap.size ≤ W.heap.size) ∧ Below w.heap.size w W)
    (fun c (pre : List (Fin (len - 1))) W => (c = .ret ∧ ∃ ini last r, pre = ini ++ [last] ∧ (∀ x ∈ ini, st lf u x.val = none) ∧ st lf u last.val = some r ∧ W.heap[w.heap.size + 1 + 1]? = some (.cells #[.int .i64 r.1] 23 (0, 0)) ∧ W.heap[w.heap.size + 1 + 1 + 1]? = some (.cells #[.bool r.2] 4 (0, 0))) ∧ Below w.heap.size w W)
    (OwnFrom.and (Own.from (fun s X Y row hs hg hr => ⟨⟨⟨⟨cells_own _ _ _ () X Y row hs.1.1.1.1 hg hr, cells_own _ _ _ () X Y row hs.1.1.1.2 hg hr⟩, cells_own _ _ _ () X Y row hs.1.1.2.1 hg hr, cells_own _ _ _ () X Y row hs.1.1.2.2 hg hr⟩, hs.1.2⟩, Nat.le_trans hs.2 hg.size⟩) _) (ownFrom_below (Nat.le_refl _) (by omega)))
    (fun c => OwnFrom.and (Own.from (fun s X Y row hs hg hr => by obtain ⟨hc, ini, last, r, e1, e2, e3, e4, e5⟩ := hs; exact ⟨hc, ini, last, r, e1, e2, e3, cells_own _ _ _ () X Y row e4 hg hr, cells_own _ _ _ () X Y row e5 hg hr⟩) _) (ownFrom_below (Nat.le_refl _) (by omega)))
    ⟨⟨⟨⟨⟨b0, b1⟩, b2, b3⟩, by simp⟩, Nat.le_refl _⟩, hB0⟩
    (fun x a' W => ∃ Bx, w.heap.size + 1 + 1 + 1 + 1 < Bx ∧ W.heap[Bx]? = some (.cells #[.int .i64 (lf (x.val + 1)).1, .int .i64 (lf (x.val + 1)).2] 36 (0, 0)) ∧ a' = { tmps := #[.agg #[.slice (some ad) len cap, .int .i64 ex], .int .i64 u, .pointer (some ⟨w.heap.size, 0, none⟩), .pointer (some ⟨w.heap.size + 1, 0, none⟩), .pointer (some ⟨w.heap.size + 1 + 1, 0, none⟩), .pointer (some ⟨w.heap.size + 1 + 1 + 1, 0, none⟩), .int .i64 (x.val : Int), .pointer (some ⟨Bx, 0, none⟩), undef, .pointer (some ⟨w.heap.size, 0, none⟩), .slice (some ad) len cap, .slice A' (len - 1) (cap - 1), .func (.func 21) #[] #[.pointer (some ⟨w.heap.size + 1 + 1 + 1 + 1, 0, none⟩)], .int .i64 (x.val : Int), .agg #[.int .i64 (lf (x.val + 1)).1, .int .i64 (lf (x.val + 1)).2], undef, undef, undef, undef, undef, undef, undef, undef, undef, undef, undef, undef, undef, undef, undef, undef, undef, undef, undef, undef, undef, undef, undef, undef, undef, undef, undef, undef, undef, undef, undef, undef, undef, undef, undef, undef, undef, undef, undef, undef, undef, undef], defers := [] })
    (fun x a' s X Y row hs hg hr => by obtain ⟨Bx, h1, h2, h3⟩ := hs; exact ⟨Bx, h1, cells_own Bx 36 _ () X Y row h2 hg (fun r e => (hr r e).2), h3⟩)
    ?assign ?body ?done ?stop
  case assign =>
    rintro l pre x W K ⟨⟨⟨⟨⟨p0, p1⟩, p2, p3⟩, hp⟩, q0⟩, hB⟩ hK
    dsimp only [encEl]
    gi_wp2
    exact hK _ _ ((KeepsOthers.alloc _ _).from _) ((Below.refl _ W).alloc q0 _)
      ⟨⟨⟨⟨⟨blk_alloc p0 _, blk_alloc p1 _⟩, blk_alloc p2 _, blk_alloc p3 _⟩, hp⟩, by rw [World.size_alloc]; omega⟩, hB.alloc hB.size _⟩
      ⟨W.heap.size, by omega, blk_new W _, rfl⟩
  case body =>
    rintro l pre x a' W hl ⟨rr, hr⟩ ⟨⟨⟨⟨⟨p0, p1⟩, p2, p3⟩, hp⟩, q0⟩, hB⟩ ⟨Bx, hBx, bX, rfl⟩ hlt
    have c00 := blk_cell p0 0
    have c01 := blk_cell p0 1
    have c1 := blk_cell p1 0
    have cX0 := blk_cell bX 0
    have cX1 := blk_cell bX 1
    have hmx : Try.prog.follows .mixedOrders = true := by kernel_rfl
    have hx := x.isLt
    have hn1 : 1 ≤ n - 1 - 1 := by omega
    gi_upto_region 4 with (fail)
    dsimp only
    gi_cut [8] from 15 (fun v8 wc => v8 = .int .i64 (wrap64 ((lf (x.val + 1)).1 + wrap64 ((lf (x.val + 1)).2 * 1048576))) ∧ ∃ q, wc = W.drewN q)
    case first =>
      refine quiet_round l hro (by kernel_rfl) (by kernel_rfl) (by kernel_rfl) ?_
      repeat (gi_big_quiet_step ((gi_at_call 13; exact CallsIn.quiet_of_same (sec_in F _ h13 hro _ _))))
      refine wpQuietIn_nil ?_
      intro _ hw'
      obtain ⟨nq, hw''⟩ := hw'
      subst hw''
      gi_wp2
      gi_meet
      case rel => exact ⟨by first | rfl | (congr 1; exact i64_w _), nq, rfl⟩
    case rest =>
      obtain ⟨rfl, nq, rfl⟩ := hcut
      obtain ⟨e0, e1⟩ := (hcs.below hB hb) x.val (by omega)
      obtain ⟨W1, hW1⟩ : ∃ W1, W.drewN nq = W1 := ⟨_, rfl⟩
      replace p0 : W1.heap[w.heap.size]? = some (.cells #[.slice (some ad) len cap, .int .i64 ex] 25 (0, 0)) := by rw [← hW1]; exact p0
      replace p1 : W1.heap[w.heap.size + 1]? = some (.cells #[.int .i64 u] 23 (0, 0)) := by rw [← hW1]; exact p1
      replace p2 : W1.heap[w.heap.size + 1 + 1]? = some (.cells #[.int .i64 0] 23 (0, 0)) := by rw [← hW1]; exact p2
      replace p3 : W1.heap[w.heap.size + 1 + 1 + 1]? = some (.cells #[.bool false] 4 (0, 0)) := by rw [← hW1]; exact p3
      replace bX : W1.heap[Bx]? = some (.cells #[.int .i64 (lf (x.val + 1)).1, .int .i64 (lf (x.val + 1)).2] 36 (0, 0)) := by rw [← hW1]; exact bX
      replace e0 : W1.cell? (ad.add (x.val * 2)) = some (.int .i64 (lf x.val).1) := by rw [← hW1]; exact e0
      replace e1 : W1.cell? ⟨(ad.add (x.val * 2)).block, (ad.add (x.val * 2)).off + 1, none⟩ = some (.int .i64 (lf x.val).2) := by rw [← hW1]; exact e1
      have hB1 : Below w.heap.size w W1 := by rw [← hW1]; exact pw_below_drewN hB _
      have hK1 : KeepsFrom W0.heap.size W W1 := by rw [← hW1]; exact (show KeepsOthers W (W.drewN nq) from ⟨Nat.le_refl _, fun _ _ h _ => h⟩).from _
      have hP1 : Below W0.heap.size W W1 := by rw [← hW1]; exact pw_below_drewN (Below.refl _ _) _
      have q1 : W0.heap.size ≤ W1.heap.size := by rw [← hW1]; exact q0
      rw [hW1]
      clear hW1 c00 c01 c1 cX0 cX1
      have c00 := blk_cell p0 0
      have c01 := blk_cell p0 1
      have c1 := blk_cell p1 0
      have cX0 := blk_cell bX 0
      have cX1 := blk_cell bX 1
      have c2 := blk_cell p2 0
      have c3 := blk_cell p3 0
      have f2 := blk_frozen p2 0
      have f3 := blk_frozen p3 0
      by_cases t1 : wrap64 ((lf (x.val + 1)).1 + wrap64 ((lf (x.val + 1)).2 * 1048576)) ≤ u
      · have hst : st lf u x.val = some (wrap64 (u - wrap64 ((lf (x.val + 1)).2 * 1048576)), false) := by unfold st; rw [if_pos t1]
        gi_wp2
        gi_region_with_o (gi_at_call 13; refine (CallsIn.inRound l (sec_in F _ h13 hro _ _)).mono ?_; rintro e w' ⟨rfl, rfl⟩)
        all_goals gi_wp2
        all_goals
          refine ⟨hK1.trans ((((KeepsOthers.setCell _ _ _).trans (KeepsOthers.setCell _ _ _)).trans (KeepsOthers.drew _)).from _), ⟨rfl, pre, x, _, rfl, hp, hst, ?_, ?_⟩, below_drew ((hB1.setCell (by simp; omega) _).setCell (by simp; omega) _)⟩
          · exact blk_drew ((Below.heap_setCell _ _ _ _ (by simp)).trans (blk_put (cs := #[.int .i64 0]) p2 0 _ (by rw [i64_w]; rfl)))
          · exact blk_drew (blk_put (cs := #[.bool false]) ((Below.heap_setCell _ _ _ _ (by simp)).trans p3) 0 _ rfl)
      · have hxn : (x.val : Int) < (len : Int) := by omega
        have hx0 : (0 : Int) ≤ (x.val : Int) := by omega
        gi_upto_region 7 with (fail)
        have hb43 : ∃ b : Bool, b = decide ((lf x.val).2 < (lf (x.val + 1)).2 ∧ wrap64 (wrap64 ((lf (x.val + 1)).1 + wrap64 ((lf (x.val + 1)).2 * 1048576)) - 1048576) ≤ u) := ⟨_, rfl⟩
        obtain ⟨b, hb43⟩ := hb43
        have HB43 : Aside0 (b = decide ((lf x.val).2 < (lf (x.val + 1)).2 ∧ wrap64 (wrap64 ((lf (x.val + 1)).1 + wrap64 ((lf (x.val + 1)).2 * 1048576)) - 1048576) ≤ u)) := ⟨hb43⟩
        clear hb43
        gi_cut [43] from 29 (fun v43 wc => v43 = .bool b ∧ ∃ q, wc = W1.drewN q)
        case first =>
          by_cases t2 : (lf x.val).2 < (lf (x.val + 1)).2
          · have d2 : decide ((lf x.val).2 < (lf (x.val + 1)).2) = true := decide_eq_true t2
            by_cases t3 : wrap64 (wrap64 ((lf (x.val + 1)).1 + wrap64 ((lf (x.val + 1)).2 * 1048576)) - 1048576) ≤ u
            · have d3 : decide (wrap64 (wrap64 ((lf (x.val + 1)).1 + wrap64 ((lf (x.val + 1)).2 * 1048576)) - 1048576) ≤ u) = true := decide_eq_true t3
              refine quiet_round l hro (by kernel_rfl) (by kernel_rfl) (by kernel_rfl) ?_
              repeat (gi_big_quiet_step (fail))
              refine wpQuietIn_nil ?_
              intro _ hw'
              obtain ⟨nq, hw''⟩ := hw'
              subst hw''
              gi_wp2
              gi_meet
              case rel => exact ⟨by have := HB43.out; rw [this, decide_eq_true ⟨t2, t3⟩], nq, rfl⟩
            · have d3 : decide (wrap64 (wrap64 ((lf (x.val + 1)).1 + wrap64 ((lf (x.val + 1)).2 * 1048576)) - 1048576) ≤ u) = false := decide_eq_false t3
              refine quiet_round l hro (by kernel_rfl) (by kernel_rfl) (by kernel_rfl) ?_
              repeat (gi_big_quiet_step (fail))
              refine wpQuietIn_nil ?_
              intro _ hw'
              obtain ⟨nq, hw''⟩ := hw'
              subst hw''
              gi_wp2
              gi_meet
              case rel => exact ⟨by have := HB43.out; rw [this, decide_eq_false (fun h => by have := h.2; omega)], nq, rfl⟩
          · have d2 : decide ((lf x.val).2 < (lf (x.val + 1)).2) = false := decide_eq_false t2
            · skip
              refine quiet_round l hro (by kernel_rfl) (by kernel_rfl) (by kernel_rfl) ?_
              repeat (gi_big_quiet_step (fail))
              refine wpQuietIn_nil ?_
              intro _ hw'
              obtain ⟨nq, hw''⟩ := hw'
              subst hw''
              gi_wp2
              gi_meet
              case rel => exact ⟨by have := HB43.out; rw [this, decide_eq_false (fun h => by have := h.1; omega)], nq, rfl⟩
        case rest =>
          obtain ⟨rfl, nq, rfl⟩ := hcut
          have HB := HB43.out
          clear HB43
          obtain ⟨W2, hW2⟩ : ∃ W2, W1.drewN nq = W2 := ⟨_, rfl⟩
          replace p0 : W2.heap[w.heap.size]? = some (.cells #[.slice (some ad) len cap, .int .i64 ex] 25 (0, 0)) := by rw [← hW2]; exact p0
          replace p1 : W2.heap[w.heap.size + 1]? = some (.cells #[.int .i64 u] 23 (0, 0)) := by rw [← hW2]; exact p1
          replace p2 : W2.heap[w.heap.size + 1 + 1]? = some (.cells #[.int .i64 0] 23 (0, 0)) := by rw [← hW2]; exact p2
          replace p3 : W2.heap[w.heap.size + 1 + 1 + 1]? = some (.cells #[.bool false] 4 (0, 0)) := by rw [← hW2]; exact p3
          replace bX : W2.heap[Bx]? = some (.cells #[.int .i64 (lf (x.val + 1)).1, .int .i64 (lf (x.val + 1)).2] 36 (0, 0)) := by rw [← hW2]; exact bX
          replace hB1 : Below w.heap.size w W2 := by rw [← hW2]; exact pw_below_drewN hB1 _
          replace hK1 : KeepsFrom W0.heap.size W W2 := by rw [← hW2]; exact hK1.trans ((show KeepsOthers W1 (W1.drewN nq) from ⟨Nat.le_refl _, fun _ _ h _ => h⟩).from _)
          replace hP1 : Below W0.heap.size W W2 := by rw [← hW2]; exact pw_below_drewN hP1 _
          replace q1 : W0.heap.size ≤ W2.heap.size := by rw [← hW2]; exact q1
          rw [hW2]
          clear hW2 c00 c01 c1 cX0 cX1 c2 c3 f2 f3 e0 e1
          have c1 := blk_cell p1 0
          have cX0 := blk_cell bX 0
          have cX1 := blk_cell bX 1
          have c2 := blk_cell p2 0
          have c3 := blk_cell p3 0
          have f2 := blk_frozen p2 0
          have f3 := blk_frozen p3 0
          cases b
          · have hn : ¬ ((lf x.val).2 < (lf (x.val + 1)).2 ∧ wrap64 (wrap64 ((lf (x.val + 1)).1 + wrap64 ((lf (x.val + 1)).2 * 1048576)) - 1048576) ≤ u) := of_decide_eq_false HB.symm
            have hst : st lf u x.val = none := by unfold st; rw [if_neg t1, if_neg hn]
            clear HB hn
            gi_wp2
            rw [hsz0] at hK1 hP1 q1
            refine ⟨hK1, hP1, ⟨⟨⟨⟨p0, p1⟩, p2, p3⟩, fun y hy => ?_⟩, q1⟩, hB1⟩
            rcases List.mem_append.1 hy with h | h
            · exact hp y h
            · obtain rfl := List.mem_singleton.1 h
              exact hst
          · have hy : (lf x.val).2 < (lf (x.val + 1)).2 ∧ wrap64 (wrap64 ((lf (x.val + 1)).1 + wrap64 ((lf (x.val + 1)).2 * 1048576)) - 1048576) ≤ u := of_decide_eq_true HB.symm
            have hst : st lf u x.val = some (wrap64 (u - wrap64 ((lf (x.val + 1)).2 * 1048576)), true) := by unfold st; rw [if_neg t1, if_pos hy]
            clear HB hy
            gi_wp2
            gi_region_with_o (gi_at_call 13; refine (CallsIn.inRound l (sec_in F _ h13 hro _ _)).mono ?_; rintro e w' ⟨rfl, rfl⟩)
            all_goals gi_wp2
            all_goals
              refine ⟨hK1.trans ((((KeepsOthers.setCell _ _ _).trans (KeepsOthers.setCell _ _ _)).trans (KeepsOthers.drew _)).from _), ⟨rfl, pre, x, _, rfl, hp, hst, ?_, ?_⟩, below_drew ((hB1.setCell (by simp; omega) _).setCell (by simp; omega) _)⟩
              · exact blk_drew ((Below.heap_setCell _ _ _ _ (by simp)).trans (blk_put (cs := #[.int .i64 0]) p2 0 _ (by rw [i64_w]; rfl)))
              · exact blk_drew (blk_put (cs := #[.bool false]) ((Below.heap_setCell _ _ _ _ (by simp)).trans p3) 0 _ rfl)
  case done =>
    rintro D ys W hD rfl ⟨⟨⟨⟨⟨p0, p1⟩, p2, p3⟩, hp⟩, q0⟩, hB⟩ hK
    have hL : utcP lf u len = (wrap64 (u - wrap64 ((lf 0).2 * 1048576)), false) := by
      unfold utcP
      rw [utcL_skip lf u (len - 1) (len - 1) 0 (by omega) hp]
      rfl
    have hmx : Try.prog.follows .mixedOrders = true := by kernel_rfl
    obtain ⟨e0, e1⟩ := (hcs.below hB hb) 0 (by omega)
    rw [Nat.zero_mul, Addr.add_zero'] at e0 e1
    have c00 := blk_cell p0 0
    have c1 := blk_cell p1 0
    have c2 := blk_cell p2 0
    have c3 := blk_cell p3 0
    have f2 := blk_frozen p2 0
    have f3 := blk_frozen p3 0
    gi_wp2
    gi_region_with_o (gi_at_call 13; refine (sec_in F _ h13 hro _ _).mono ?_; rintro e w' ⟨rfl, rfl⟩)
    all_goals gi_wp2
    all_goals
      refine utc_fin F n D _ w _ (utcP lf u len) ?_ ?_ ?_ ?_ (by omega) (by simp) (by simp)
      · first | exact blk_drew ((Below.heap_setCell _ _ _ _ (by simp; omega)).trans ((Below.heap_setCell _ _ _ _ (by simp; omega)).trans hK)) | exact (Below.heap_setCell _ _ _ _ (by simp; omega)).trans ((Below.heap_setCell _ _ _ _ (by simp; omega)).trans (blk_drew hK))
      · rw [hL]
        exact blk_drew ((Below.heap_setCell _ _ _ _ (by simp)).trans (blk_put (cs := #[.int .i64 0]) p2 0 _ (by rw [i64_w]; rfl)))
      · rw [hL]
        exact blk_drew (blk_put (cs := #[.bool false]) ((Below.heap_setCell _ _ _ _ (by simp)).trans p3) 0 _ rfl)
      · exact below_drew ((hB.setCell (by simp; omega) _).setCell (by simp; omega) _)
  case stop =>
    rintro D c pre W hD ⟨m, hm, rfl⟩ ⟨⟨rfl, ini, last, r, e1, e2, e3, q2, q3⟩, hB⟩ hK
    rw [came_succ hm] at e1
    obtain ⟨rfl, e5⟩ := List.append_inj' e1 rfl
    obtain rfl : (⟨m, hm⟩ : Fin (len - 1)) = last := by simpa using e5
    have hL : utcP lf u len = r := by
      unfold utcP
      rw [utcL_skip lf u (len - 1) (len - 1 - (m + 1)) (m + 1) (by omega) e2]
      show ((match st lf u m with | some r => some r | none => utcL lf u m).getD _) = r
      simp only at e3
      rw [e3]
      rfl
    gi_wp2
    refine utc_fin F n D _ w _ r hK q2 q3 hB (by omega) ?_ ?_
    · rfl
    · rfl
/-- **leap.utc.** -/
theorem utc_calls (A : Option Addr) (len cap : Nat) (ex u : Int) (lf : Nat → Int × Int) (w : World) (h1 : 1 ≤ len) (hlc : len ≤ cap) (hreach : len ≤ 140737488351232) (ad : Addr) (hA : A = some ad) (hb : ad.block < w.heap.size) (hcs : Cs w ad len lf) :
    Calls Try.prog 12 #[.agg #[.slice A len cap, .int .i64 ex], .int .i64 u] w fun e W' =>
      e = .returned (.tuple #[.int .i64 (utcP lf u len).1, .bool (utcP lf u len).2]) ∧ Below w.heap.size w W' :=
  (callsIn_wide (n := 6)).1 (utc_in Fence.wide trivial trivial trivial trivial rfl 6 (Nat.le_refl _) A len cap ex u lf w h1 hlc hreach ad hA hb hcs)
end Go.Proofs.YthblkmdknelpbaaU
