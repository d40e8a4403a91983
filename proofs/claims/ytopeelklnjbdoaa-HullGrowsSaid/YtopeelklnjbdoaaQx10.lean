-- Written by wip/print2.py (the kit's printer, with functions given by hand).
import Derived.Test.YtopeelklnjbdoaaQx0
import Derived.Test.YtopeelklnjbdoaaQx1
import Derived.Test.YtopeelklnjbdoaaQx3
import Derived.Test.YtopeelklnjbdoaaQx4
import Derived.Test.YtopeelklnjbdoaaQx9
namespace Go.Proofs.Ytopeelklnjbdoaa.Q
open Go.RowKit Go.Proofs.YtopeelklnjbdoaaW.PrintWords Go.Proofs.YtopeelklnjbdoaaW.PrintLast Go.Proofs.YtopeelklnjbdoaaW.PrintMore
attribute [local go_sem] max2_int min2_int max_two min_two max_three min_three max_four min_four   -- for this text's walks alone
open Go.Shelf Go.Proofs.YtopeelklnjbdoaaS
set_option linter.unusedVariables false
set_option linter.unusedSimpArgs false

attribute [local go_sem high] eqA25
/-! ### sundiallaw15_HullGrows: function 5 -/
def sundiallaw15_HullGrows.T16 : Bool × List (List Nat × List Nat) := (true, [([], []), ([], []), ([0, 1], [0, 1]), ([], []), ([3], [3]), ([2, 4, 2], [2, 4]), ([], []), ([5, 6, 5], [5, 6]), ([7], [7]), ([8], [8]), ([8], [8]), ([], []), ([11, 9, 7, 0, 1, 2, 3, 4, 5, 6, 7, 8, 9, 11], [9, 11]), ([10, 12, 0, 1, 2, 3, 4, 5, 6, 7, 8, 9, 10, 11, 12], [10])])
def sundiallaw15_HullGrows.B16 : List Nat := [0, 0, 3, 0, 8, 31, 0, 127, 255, 511, 511, 0, 3071, 8191]
theorem sundiallaw15_HullGrows.tab16 : rtab .any (opsOf Try.f5 16) = sundiallaw15_HullGrows.T16 := by kernel_rfl
theorem sundiallaw15_HullGrows.bits16 : waitsOk sundiallaw15_HullGrows.T16.2 sundiallaw15_HullGrows.B16 = true := by kernel_rfl
set_option maxHeartbeats 8000000 in
set_option maxRecDepth 100000 in
theorem sundiallaw15_HullGrows.calls (k : Nat) (A0 : Option Addr) (c0 : Nat) (l0 : List (S25)) (a1 : Int) (r : Bool) (w : World) (hr0 : Kd.C k25 w A0 l0.length l0) (hc0 : l0.length ≤ c0) (h : sundiallaw15_HullGrows.f k l0 a1 = some r) :
    Calls Try.prog 5 #[.slice A0 l0.length c0, .int .i64 a1] w fun e w' => e = .returned (.bool r) ∧ Below w.heap.size w w' := by
  have hu25 := Try.underlying25
  have HR0 := Aside0.mk hr0
  have HC0 := Aside0.mk hc0
  clear hr0 hc0
  have HB := Aside0.mk (Below.refl w.heap.size w)
  have H : ((sundiallaw15_awake.f k).bind fun t257 => (if t257 = true then ((hull_Hull.f k l0 (Int.tmod (wrap64 ((Int.tmod a1 32) + 32)) 32)).bind fun bt258 => (if bt258.2.2 = 0 then ((hull_Held.f k l0 bt258.1).bind fun bt262 => ((hull_Held.f k l0 bt258.2.1).bind fun bt264 => (if bt262.2 = 0 then (if bt264.2 = 0 then (if bt262.1 < (wrap64 ((l0.length : Int) - (Int.tmod (wrap64 ((Int.tmod a1 32) + 32)) 32))) then (none) else (sundiallaw15_HullGrows.j0 k l0 (Int.tmod (wrap64 ((Int.tmod a1 32) + 32)) 32) (decide (bt264.1 < (wrap64 ((l0.length : Int) - (Int.tmod (wrap64 ((Int.tmod a1 32) + 32)) 32))))) bt258.1 bt258.2.1)) else (none)) else (none)))) else (some (bt258.1 == 0 && (bt258.2.1 == 0))))) else (none))) = some r := h
  clear h
  replace H := Option.bind_eq_some_iff.mp H
  obtain ⟨t257, A30, H⟩ := H
  replace H : (if t257 = true then ((hull_Hull.f k l0 (Int.tmod (wrap64 ((Int.tmod a1 32) + 32)) 32)).bind fun bt258 => (if bt258.2.2 = 0 then ((hull_Held.f k l0 bt258.1).bind fun bt262 => ((hull_Held.f k l0 bt258.2.1).bind fun bt264 => (if bt262.2 = 0 then (if bt264.2 = 0 then (if bt262.1 < (wrap64 ((l0.length : Int) - (Int.tmod (wrap64 ((Int.tmod a1 32) + 32)) 32))) then (none) else (sundiallaw15_HullGrows.j0 k l0 (Int.tmod (wrap64 ((Int.tmod a1 32) + 32)) 32) (decide (bt264.1 < (wrap64 ((l0.length : Int) - (Int.tmod (wrap64 ((Int.tmod a1 32) + 32)) 32))))) bt258.1 bt258.2.1)) else (none)) else (none)))) else (some (bt258.1 == 0 && (bt258.2.1 == 0))))) else (none)) = some r := H
  have A3 := Aside0.mk A30
  clear A30
  by_cases c4 : t257 = true
  · subst c4
    have H1 : ((hull_Hull.f k l0 (Int.tmod (wrap64 ((Int.tmod a1 32) + 32)) 32)).bind fun bt258 => (if bt258.2.2 = 0 then ((hull_Held.f k l0 bt258.1).bind fun bt262 => ((hull_Held.f k l0 bt258.2.1).bind fun bt264 => (if bt262.2 = 0 then (if bt264.2 = 0 then (if bt262.1 < (wrap64 ((l0.length : Int) - (Int.tmod (wrap64 ((Int.tmod a1 32) + 32)) 32))) then (none) else (sundiallaw15_HullGrows.j0 k l0 (Int.tmod (wrap64 ((Int.tmod a1 32) + 32)) 32) (decide (bt264.1 < (wrap64 ((l0.length : Int) - (Int.tmod (wrap64 ((Int.tmod a1 32) + 32)) 32))))) bt258.1 bt258.2.1)) else (none)) else (none)))) else (some (bt258.1 == 0 && (bt258.2.1 == 0))))) = some r := by rw [if_pos rfl] at H; exact H
    clear H
    have H := H1
    clear H1
    replace H := Option.bind_eq_some_iff.mp H
    obtain ⟨⟨t258, t259, t260⟩, A50, H⟩ := H
    replace H : (if t260 = 0 then ((hull_Held.f k l0 t258).bind fun bt262 => ((hull_Held.f k l0 t259).bind fun bt264 => (if bt262.2 = 0 then (if bt264.2 = 0 then (if bt262.1 < (wrap64 ((l0.length : Int) - (Int.tmod (wrap64 ((Int.tmod a1 32) + 32)) 32))) then (none) else (sundiallaw15_HullGrows.j0 k l0 (Int.tmod (wrap64 ((Int.tmod a1 32) + 32)) 32) (decide (bt264.1 < (wrap64 ((l0.length : Int) - (Int.tmod (wrap64 ((Int.tmod a1 32) + 32)) 32))))) t258 t259)) else (none)) else (none)))) else (some (t258 == 0 && (t259 == 0)))) = some r := H
    have A5 := Aside0.mk A50
    clear A50
    by_cases c6 : t260 = 0
    · rw [if_pos c6] at H
      have c6b0 : (t260 == 0) = true := beq_iff_eq.mpr c6
      have c6b1 : (t260 != 0) = false := bne_eq_false_iff_eq.mpr c6
      clear c6
      replace H := Option.bind_eq_some_iff.mp H
      obtain ⟨⟨t262, t263⟩, A70, H⟩ := H
      replace H : ((hull_Held.f k l0 t259).bind fun bt264 => (if t263 = 0 then (if bt264.2 = 0 then (if t262 < (wrap64 ((l0.length : Int) - (Int.tmod (wrap64 ((Int.tmod a1 32) + 32)) 32))) then (none) else (sundiallaw15_HullGrows.j0 k l0 (Int.tmod (wrap64 ((Int.tmod a1 32) + 32)) 32) (decide (bt264.1 < (wrap64 ((l0.length : Int) - (Int.tmod (wrap64 ((Int.tmod a1 32) + 32)) 32))))) t258 t259)) else (none)) else (none))) = some r := H
      have A7 := Aside0.mk A70
      clear A70
      replace H := Option.bind_eq_some_iff.mp H
      obtain ⟨⟨t264, t265⟩, A80, H⟩ := H
      replace H : (if t263 = 0 then (if t265 = 0 then (if t262 < (wrap64 ((l0.length : Int) - (Int.tmod (wrap64 ((Int.tmod a1 32) + 32)) 32))) then (none) else (sundiallaw15_HullGrows.j0 k l0 (Int.tmod (wrap64 ((Int.tmod a1 32) + 32)) 32) (decide (t264 < (wrap64 ((l0.length : Int) - (Int.tmod (wrap64 ((Int.tmod a1 32) + 32)) 32))))) t258 t259)) else (none)) else (none)) = some r := H
      have A8 := Aside0.mk A80
      clear A80
      have HC9 := Aside0.mk H
      clear H
      go_enter Try.func5, Try.ntmps5
      go_upto_region 9 with (first | ((with_reducible refine gate_callee (f := 7) rfl ?_); refine goesL_ (some 17) rfl rfl Try.func7 (by kernel_rfl) rfl #[] rfl (by (try simp only [List.map_toArray, List.map_cons, List.map_nil]); first | done | rfl | (simp only [List.length_drop, List.length_take]; rfl)) ?_; (with_reducible refine (sundiallaw15_awake.calls k  true _ A3.out).mono ?_); rintro e w10 ⟨rfl, hb⟩; refine ⟨_, rfl, ?_⟩; have n0_ := Aside0.mk (below_step (by repeat (first | (with_reducible first | exact HB.out | apply below_alloc | apply pw_below_drewN | apply below_drew1) | exact HB.out)) hb); clear HB; have HB := n0_; clear n0_; (try clear hb); (try clear hb2); (try clear hk); (try clear hi)) | ((with_reducible refine gate_callee (f := 8) rfl ?_); refine goesL_ (some 26) rfl rfl Try.func8 (by kernel_rfl) rfl #[.slice A0 l0.length c0, .int .i64 (Int.tmod (wrap64 ((Int.tmod a1 32) + 32)) 32)] rfl (by (try simp only [List.map_toArray, List.map_cons, List.map_nil]); first | done | rfl | (simp only [List.length_drop, List.length_take]; rfl)) ?_; (with_reducible refine (hull_Hull.calls k _ _ l0 (Int.tmod (wrap64 ((Int.tmod a1 32) + 32)) 32) t258 t259 t260 _ ?side1 ?side2 A5.out).mono ?_); (case side1 => repeat (first | exact (Kd.C_below HR0.out HB.out) | (with_reducible refine Kd.C_alloc ?_ _) | (with_reducible refine Kd.C_drewN ?_ _) | (with_reducible refine Kd.C_drew ?_))); (case side2 => exact HC0.out); rintro e w11 ⟨rfl, hb⟩; refine ⟨_, rfl, ?_⟩; have n0_ := Aside0.mk (below_step (by repeat (first | (with_reducible first | exact HB.out | apply below_alloc | apply pw_below_drewN | apply below_drew1) | exact HB.out)) hb); clear HB; have HB := n0_; clear n0_; (try clear hb); (try clear hb2); (try clear hk); (try clear hi)) | ((with_reducible refine gate_dst (N := 5) rfl ?_); (try (refine gate_guard (by rfl) ?_; dsimp only)); refine box_event ?hg (N := 5) ?hd (cs := #[.int .i64 0, .int .i64 0]) (t := 25) ?hr ?_; (case hd => rfl); (case hg => rfl); (case hr => first | (go_simp; done) | (go_simp; rfl)); intro gb261 hg w12 hbox hb; have n0_ := Aside0.mk (below_step (by repeat (first | (with_reducible first | exact HB.out | apply below_alloc | apply pw_below_drewN | apply below_drew1) | exact HB.out)) hb); have n1_ := Aside0.mk (hbox); have n2_ := Aside0.mk ((by rw [hg]; exact (below_size (by repeat (first | (with_reducible first | exact HB.out | apply below_alloc | apply pw_below_drewN | apply below_drew1) | exact HB.out))) : w.heap.size ≤ gb261)); have n3_ := Aside0.mk ((by rw [hg]; exact (below_size (by repeat (first | (with_reducible first | exact HB.out | apply below_alloc | apply pw_below_drewN | apply below_drew1) | exact HB.out))) : w.heap.size ≤ gb261)); clear HB; have HB := n0_; have BK261 := n1_; have GW261 := n2_; have GE261 := n3_; clear n0_ n1_ n2_ n3_; clear hb hbox hg; have hcz13_0 : w12.cell? ⟨gb261, 0, none⟩ = some (.int .i64 0) := (blk_cell BK261.out 0).trans rfl; have hcz13_1 : w12.cell? ⟨gb261, 1, none⟩ = some (.int .i64 0) := (blk_cell BK261.out 1).trans rfl; have hfz13_0 := blk_frozen BK261.out 0; have hfz13_1 := blk_frozen BK261.out 1) | ((with_reducible refine gate_callee (f := 10) rfl ?_); refine goesL_ (some 38) rfl rfl Try.func10 (by kernel_rfl) rfl #[.slice A0 l0.length c0, .int .i64 t258] rfl (by (try simp only [List.map_toArray, List.map_cons, List.map_nil]); first | done | rfl | (simp only [List.length_drop, List.length_take]; rfl)) ?_; (with_reducible refine (hull_Held.calls k _ _ l0 t258 t262 t263 _ ?side1 ?side2 A7.out).mono ?_); (case side1 => exact Kd.C_below HR0.out (by repeat (first | (with_reducible first | exact HB.out | apply below_alloc | apply pw_below_drewN | apply below_drew1 | refine below_set ?_ GE261.out) | exact HB.out))); (case side2 => exact HC0.out); rintro e w14 ⟨rfl, hb⟩; refine ⟨_, rfl, ?_⟩; have n0_ := Aside0.mk (blk_below (g := gb261) (o := .cells #[.int .i64 t258, .int .i64 t259] 25 (0, 0)) (by (with_reducible repeat (first | refine blk_drewN ?_ _ | refine blk_drew ?_ | refine blk_alloc ?_ _)); refine blk_put (cs := #[.int .i64 t258, .int .i64 0]) ?_ 1 _ rfl; (with_reducible repeat (first | refine blk_drewN ?_ _ | refine blk_drew ?_ | refine blk_alloc ?_ _)); refine blk_put (cs := #[.int .i64 0, .int .i64 0]) ?_ 0 _ rfl; (with_reducible repeat (first | refine blk_drewN ?_ _ | refine blk_drew ?_ | refine blk_alloc ?_ _)); exact BK261.out) hb); have n1_ := Aside0.mk (below_step (by repeat (first | (with_reducible first | exact HB.out | apply below_alloc | apply pw_below_drewN | apply below_drew1 | refine below_set ?_ GE261.out) | exact HB.out)) hb); clear BK261; clear HB; have BK261 := n0_; have HB := n1_; clear n0_ n1_; (try clear hb); (try clear hb2); (try clear hk); (try clear hi); have hcz15_0 : w14.cell? ⟨gb261, 0, none⟩ = some (.int .i64 t258) := (blk_cell BK261.out 0).trans rfl; have hcz15_1 : w14.cell? ⟨gb261, 1, none⟩ = some (.int .i64 t259) := (blk_cell BK261.out 1).trans rfl; have hfz15_0 := blk_frozen BK261.out 0; have hfz15_1 := blk_frozen BK261.out 1) | ((with_reducible refine gate_callee (f := 10) rfl ?_); refine goesL_ (some 45) rfl rfl Try.func10 (by kernel_rfl) rfl #[.slice A0 l0.length c0, .int .i64 t259] rfl (by (try simp only [List.map_toArray, List.map_cons, List.map_nil]); first | done | rfl | (simp only [List.length_drop, List.length_take]; rfl)) ?_; (with_reducible refine (hull_Held.calls k _ _ l0 t259 t264 t265 _ ?side1 ?side2 A8.out).mono ?_); (case side1 => repeat (first | exact (Kd.C_below HR0.out HB.out) | (with_reducible refine Kd.C_alloc ?_ _) | (with_reducible refine Kd.C_drewN ?_ _) | (with_reducible refine Kd.C_drew ?_))); (case side2 => exact HC0.out); rintro e w16 ⟨rfl, hb⟩; refine ⟨_, rfl, ?_⟩; have n0_ := Aside0.mk (blk_below (g := gb261) (o := .cells #[.int .i64 t258, .int .i64 t259] 25 (0, 0)) (by (with_reducible repeat (first | refine blk_drewN ?_ _ | refine blk_drew ?_ | refine blk_alloc ?_ _)); exact BK261.out) hb); have n1_ := Aside0.mk (below_step (by repeat (first | (with_reducible first | exact HB.out | apply below_alloc | apply pw_below_drewN | apply below_drew1 | refine below_set ?_ GE261.out) | exact HB.out)) hb); clear BK261; clear HB; have BK261 := n0_; have HB := n1_; clear n0_ n1_; (try clear hb); (try clear hb2); (try clear hk); (try clear hi)))
      (try simp only [Act.put, List.setIfInBounds_toArray, List.set_cons_zero, List.set_cons_succ])
      go_cut [69] (fun v69 wc => ∃ (kq : Nat) (x69_8 : Bool), v69 = .bool x69_8 ∧ Aside0 (sundiallaw15_HullGrows.j0 kq l0 (Int.tmod (wrap64 ((Int.tmod a1 32) + 32)) 32) x69_8 t258 t259 = some r) ∧ Aside0 (kq ≤ k) ∧ Aside0 (wc.heap[gb261]? = some (.cells #[.int .i64 t258, .int .i64 t259] 25 (0, 0))) ∧ Aside0 (Below w.heap.size w wc))
      case first =>
        have H := HC9.out
        clear HC9
        by_cases c17 : t263 = 0
        · rw [if_pos c17] at H
          have c17b0 : (t263 == 0) = true := beq_iff_eq.mpr c17
          have c17b1 : (t263 != 0) = false := bne_eq_false_iff_eq.mpr c17
          clear c17
          (first | rw [c17b0] | (simp only [i64_w, i32_w]; rw [c17b0]) | skip)
          by_cases c18 : t265 = 0
          · rw [if_pos c18] at H
            have c18b0 : (t265 == 0) = true := beq_iff_eq.mpr c18
            have c18b1 : (t265 != 0) = false := bne_eq_false_iff_eq.mpr c18
            clear c18
            by_cases c19 : t262 < (wrap64 ((l0.length : Int) - (Int.tmod (wrap64 ((Int.tmod a1 32) + 32)) 32)))
            · rw [if_pos c19] at H
              exact absurd H (by simp)
            · rw [if_neg c19] at H
              have c19b0 : decide (t262 < (wrap64 ((l0.length : Int) - (Int.tmod (wrap64 ((Int.tmod a1 32) + 32)) 32)))) = false := decide_eq_false c19
              clear c19
              have H' := Aside0.mk H
              clear H
              go_wp2
              go_meet
              case rel => exact ⟨_, (decide (t264 < (wrap64 ((l0.length : Int) - (Int.tmod (wrap64 ((Int.tmod a1 32) + 32)) 32))))), (by first | rfl | (simp; done) | (simp [*]; done)), H', ⟨by first | omega | exact Nat.le_refl _⟩, ⟨by (with_reducible repeat (first | refine blk_drewN ?_ _ | refine blk_drew ?_ | refine blk_alloc ?_ _)); exact BK261.out⟩, ⟨by repeat (first | (with_reducible first | exact HB.out | apply below_alloc | apply pw_below_drewN | apply below_drew1 | refine below_set ?_ GE261.out) | exact HB.out)⟩⟩
          · rw [if_neg c18] at H
            exact absurd H (by simp)
        · rw [if_neg c17] at H
          exact absurd H (by simp)
      case rest =>
        clear HC9
        try clear c1
        try clear p2
        try clear c4
        try clear c5
        try clear c6
        try clear c6b0
        try clear c6b1
        try clear p6
        try clear c7
        try clear c8
        try clear c10
        try clear c17
        try clear c17b0
        try clear c17b1
        try clear c18
        try clear c18b0
        try clear c18b1
        try clear c19
        try clear c19b0
        try clear hcz13_0
        try clear hcz13_1
        try clear hcz15_0
        try clear hcz15_1
        try clear hfz13_0
        try clear hfz13_1
        try clear hfz15_0
        try clear hfz15_1
        obtain ⟨kq, x69_8, rfl, HA, HJ8, BK261, HB⟩ := hcut
        cases kq with
        | zero => exact absurd HA.out (by simp [sundiallaw15_HullGrows.j0])
        | succ kj8 =>
          have H := HA.out
          clear HA
          simp only [sundiallaw15_HullGrows.j0] at H
          by_cases c20 : x69_8 = true
          · subst c20
            have H1 : (none) = some r := by rw [if_pos rfl] at H; exact H
            clear H
            have H := H1
            clear H1
            exact absurd H (by simp)
          · replace c20 := Bool.eq_false_iff.mpr c20
            subst c20
            have H1 : ((hull_Hull.f kj8 l0 (wrap64 ((Int.tmod (wrap64 ((Int.tmod a1 32) + 32)) 32) + 1))).bind fun bt266 => (if bt266.2.2 = 0 then (if bt266.1 > t258 then (none) else (if bt266.2.1 < t259 then (none) else (sundiallaw15_HullGrows.j1 kj8 l0 (Int.tmod (wrap64 ((Int.tmod a1 32) + 32)) 32) false t258 t259))) else (sundiallaw15_HullGrows.j1 kj8 l0 (Int.tmod (wrap64 ((Int.tmod a1 32) + 32)) 32) (bt266.2.2 != 61) t258 t259))) = some r := by rw [if_neg (show ¬ (false = true) by decide)] at H; exact H
            clear H
            have H := H1
            clear H1
            replace H := Option.bind_eq_some_iff.mp H
            obtain ⟨⟨t266, t267, t268⟩, A210, H⟩ := H
            replace H : (if t268 = 0 then (if t266 > t258 then (none) else (if t267 < t259 then (none) else (sundiallaw15_HullGrows.j1 kj8 l0 (Int.tmod (wrap64 ((Int.tmod a1 32) + 32)) 32) false t258 t259))) else (sundiallaw15_HullGrows.j1 kj8 l0 (Int.tmod (wrap64 ((Int.tmod a1 32) + 32)) 32) (t268 != 61) t258 t259)) = some r := H
            have A21 := Aside0.mk A210
            clear A210
            have HC22 := Aside0.mk H
            clear H
            go_upto_region 12 with (first | ((with_reducible refine gate_callee (f := 8) rfl ?_); refine goesL_ (some 74) rfl rfl Try.func8 (by kernel_rfl) rfl #[.slice A0 l0.length c0, .int .i64 (wrap64 ((Int.tmod (wrap64 ((Int.tmod a1 32) + 32)) 32) + 1))] rfl (by (try simp only [List.map_toArray, List.map_cons, List.map_nil]); first | done | rfl | (simp only [List.length_drop, List.length_take]; rfl)) ?_; (with_reducible refine (hull_Hull.calls kj8 _ _ l0 (wrap64 ((Int.tmod (wrap64 ((Int.tmod a1 32) + 32)) 32) + 1)) t266 t267 t268 _ ?side1 ?side2 A21.out).mono ?_); (case side1 => repeat (first | exact (Kd.C_below HR0.out HB.out) | (with_reducible refine Kd.C_alloc ?_ _) | (with_reducible refine Kd.C_drewN ?_ _) | (with_reducible refine Kd.C_drew ?_))); (case side2 => exact HC0.out); rintro e w23 ⟨rfl, hb⟩; refine ⟨_, rfl, ?_⟩; have n0_ := Aside0.mk (blk_below (g := gb261) (o := .cells #[.int .i64 t258, .int .i64 t259] 25 (0, 0)) (by (with_reducible repeat (first | refine blk_drewN ?_ _ | refine blk_drew ?_ | refine blk_alloc ?_ _)); exact BK261.out) hb); have n1_ := Aside0.mk (below_step (by repeat (first | (with_reducible first | exact HB.out | apply below_alloc | apply pw_below_drewN | apply below_drew1 | refine below_set ?_ GE261.out) | exact HB.out)) hb); clear BK261; clear HB; have BK261 := n0_; have HB := n1_; clear n0_ n1_; (try clear hb); (try clear hb2); (try clear hk); (try clear hi)) | ((with_reducible refine gate_dst (N := 11) rfl ?_); (try (refine gate_guard (by rfl) ?_; dsimp only)); refine box_event ?hg (N := 11) ?hd (cs := #[.int .i64 0, .int .i64 0]) (t := 25) ?hr ?_; (case hd => rfl); (case hg => rfl); (case hr => first | (go_simp; done) | (go_simp; rfl)); intro gb269 hg w24 hbox hb; have n0_ := Aside0.mk (blk_below (g := gb261) (o := .cells #[.int .i64 t258, .int .i64 t259] 25 (0, 0)) (by (with_reducible repeat (first | refine blk_drewN ?_ _ | refine blk_drew ?_ | refine blk_alloc ?_ _)); exact BK261.out) hb); have n1_ := Aside0.mk (below_step (by repeat (first | (with_reducible first | exact HB.out | apply below_alloc | apply pw_below_drewN | apply below_drew1 | refine below_set ?_ GE261.out) | exact HB.out)) hb); have n2_ := Aside0.mk (hbox); have n3_ := Aside0.mk ((by rw [hg]; exact (below_size (by repeat (first | (with_reducible first | exact HB.out | apply below_alloc | apply pw_below_drewN | apply below_drew1 | refine below_set ?_ GE261.out) | exact HB.out))) : w.heap.size ≤ gb269)); have n4_ := Aside0.mk ((by rw [hg]; exact (below_size (by repeat (first | (with_reducible first | exact HB.out | apply below_alloc | apply pw_below_drewN | apply below_drew1 | refine below_set ?_ GE261.out) | exact HB.out))) : w.heap.size ≤ gb269)); have n5_ := Aside0.mk ((by rw [hg]; exact Nat.ne_of_lt (blk_lt (g := gb261) (o := .cells #[.int .i64 t258, .int .i64 t259] 25 (0, 0)) (by (with_reducible repeat (first | refine blk_drewN ?_ _ | refine blk_drew ?_ | refine blk_alloc ?_ _)); exact BK261.out)) : gb261 ≠ gb269)); have n6_ := Aside0.mk ((by rw [hg]; exact Nat.ne_of_gt (blk_lt (g := gb261) (o := .cells #[.int .i64 t258, .int .i64 t259] 25 (0, 0)) (by (with_reducible repeat (first | refine blk_drewN ?_ _ | refine blk_drew ?_ | refine blk_alloc ?_ _)); exact BK261.out)) : gb269 ≠ gb261)); clear BK261; clear HB; have BK261 := n0_; have HB := n1_; have BK269 := n2_; have GW269 := n3_; have GE269 := n4_; have NB261_269 := n5_; have NB269_261 := n6_; clear n0_ n1_ n2_ n3_ n4_ n5_ n6_; clear hb hbox hg; have hnb25 := NB269_261.out; have hnc25 := NB261_269.out; have hcz26_0 : w24.cell? ⟨gb269, 0, none⟩ = some (.int .i64 0) := (blk_cell BK269.out 0).trans rfl; have hcz26_1 : w24.cell? ⟨gb269, 1, none⟩ = some (.int .i64 0) := (blk_cell BK269.out 1).trans rfl; have hfz26_0 := blk_frozen BK269.out 0; have hfz26_1 := blk_frozen BK269.out 1))
            (try simp only [Act.put, List.setIfInBounds_toArray, List.set_cons_zero, List.set_cons_succ])
            go_cut [100] (fun v100 wc => ∃ (kq : Nat) (x100_21 : Bool), v100 = .bool x100_21 ∧ Aside0 (sundiallaw15_HullGrows.j1 kq l0 (Int.tmod (wrap64 ((Int.tmod a1 32) + 32)) 32) x100_21 t258 t259 = some r) ∧ Aside0 (kq ≤ kj8) ∧ Aside0 (wc.heap[gb261]? = some (.cells #[.int .i64 t258, .int .i64 t259] 25 (0, 0))) ∧ Aside0 (wc.heap[gb269]? = some (.cells #[.int .i64 t266, .int .i64 t267] 25 (0, 0))) ∧ Aside0 (Below w.heap.size w wc))
            case first =>
              have H := HC22.out
              clear HC22
              by_cases c27 : t268 = 0
              · rw [if_pos c27] at H
                have c27b0 : (t268 == 0) = true := beq_iff_eq.mpr c27
                have c27b1 : (t268 != 0) = false := bne_eq_false_iff_eq.mpr c27
                clear c27
                (first | rw [c27b0] | (simp only [i64_w, i32_w]; rw [c27b0]) | skip)
                by_cases c28 : t266 > t258
                · rw [if_pos c28] at H
                  exact absurd H (by simp)
                · rw [if_neg c28] at H
                  have c28b0 : decide (t258 < t266) = false := decide_eq_false c28
                  clear c28
                  by_cases c29 : t267 < t259
                  · rw [if_pos c29] at H
                    exact absurd H (by simp)
                  · rw [if_neg c29] at H
                    have c29b0 : decide (t267 < t259) = false := decide_eq_false c29
                    clear c29
                    have H' := Aside0.mk H
                    clear H
                    have hnb30 := NB269_261.out
                    have hnc30 := NB261_269.out
                    have hcz31_0 : w24.cell? ⟨gb269, 0, none⟩ = some (.int .i64 0) := (blk_cell BK269.out 0).trans rfl
                    have hcz31_1 : w24.cell? ⟨gb269, 1, none⟩ = some (.int .i64 0) := (blk_cell BK269.out 1).trans rfl
                    have hfz31_0 := blk_frozen BK269.out 0
                    have hfz31_1 := blk_frozen BK269.out 1
                    have hcz32_0 : w24.cell? ⟨gb261, 0, none⟩ = some (.int .i64 t258) := (blk_cell BK261.out 0).trans rfl
                    have hcz32_1 : w24.cell? ⟨gb261, 1, none⟩ = some (.int .i64 t259) := (blk_cell BK261.out 1).trans rfl
                    have hfz32_0 := blk_frozen BK261.out 0
                    have hfz32_1 := blk_frozen BK261.out 1
                    go_wp2
                    go_meet
                    case rel => exact ⟨_, (false), (by first | rfl | (simp; done) | (simp [*]; done)), H', ⟨by have := HJ8.out; first | omega | exact Nat.le_refl _⟩, ⟨by (with_reducible repeat (first | refine blk_drewN ?_ _ | refine blk_drew ?_ | refine blk_alloc ?_ _)); refine blk_far ?_ NB261_269.out _; (with_reducible repeat (first | refine blk_drewN ?_ _ | refine blk_drew ?_ | refine blk_alloc ?_ _)); refine blk_far ?_ NB261_269.out _; (with_reducible repeat (first | refine blk_drewN ?_ _ | refine blk_drew ?_ | refine blk_alloc ?_ _)); exact BK261.out⟩, ⟨by (with_reducible repeat (first | refine blk_drewN ?_ _ | refine blk_drew ?_ | refine blk_alloc ?_ _)); refine blk_put (cs := #[.int .i64 t266, .int .i64 0]) ?_ 1 _ rfl; (with_reducible repeat (first | refine blk_drewN ?_ _ | refine blk_drew ?_ | refine blk_alloc ?_ _)); refine blk_put (cs := #[.int .i64 0, .int .i64 0]) ?_ 0 _ rfl; (with_reducible repeat (first | refine blk_drewN ?_ _ | refine blk_drew ?_ | refine blk_alloc ?_ _)); exact BK269.out⟩, ⟨by repeat (first | (with_reducible first | exact HB.out | apply below_alloc | apply pw_below_drewN | apply below_drew1 | refine below_set ?_ GE261.out | refine below_set ?_ GE269.out) | exact HB.out)⟩⟩
              · rw [if_neg c27] at H
                have c27b0 : (t268 == 0) = false := beq_eq_false_iff_ne.mpr c27
                have c27b1 : (t268 != 0) = true := bne_iff_ne.mpr c27
                (first | rw [c27b0] | (simp only [i64_w, i32_w]; rw [c27b0]) | skip)
                have H' := Aside0.mk H
                clear H
                go_wp2
                go_meet
                case rel => exact ⟨_, ((t268 != 61)), (by first | rfl | (simp; done) | (simp [*]; done)), H', ⟨by have := HJ8.out; first | omega | exact Nat.le_refl _⟩, ⟨by (with_reducible repeat (first | refine blk_drewN ?_ _ | refine blk_drew ?_ | refine blk_alloc ?_ _)); refine blk_far ?_ NB261_269.out _; (with_reducible repeat (first | refine blk_drewN ?_ _ | refine blk_drew ?_ | refine blk_alloc ?_ _)); refine blk_far ?_ NB261_269.out _; (with_reducible repeat (first | refine blk_drewN ?_ _ | refine blk_drew ?_ | refine blk_alloc ?_ _)); exact BK261.out⟩, ⟨by (with_reducible repeat (first | refine blk_drewN ?_ _ | refine blk_drew ?_ | refine blk_alloc ?_ _)); refine blk_put (cs := #[.int .i64 t266, .int .i64 0]) ?_ 1 _ rfl; (with_reducible repeat (first | refine blk_drewN ?_ _ | refine blk_drew ?_ | refine blk_alloc ?_ _)); refine blk_put (cs := #[.int .i64 0, .int .i64 0]) ?_ 0 _ rfl; (with_reducible repeat (first | refine blk_drewN ?_ _ | refine blk_drew ?_ | refine blk_alloc ?_ _)); exact BK269.out⟩, ⟨by repeat (first | (with_reducible first | exact HB.out | apply below_alloc | apply pw_below_drewN | apply below_drew1 | refine below_set ?_ GE261.out | refine below_set ?_ GE269.out) | exact HB.out)⟩⟩
            case rest =>
              clear HC22
              try clear c1
              try clear c2
              try clear p2
              try clear c3
              try clear c4
              try clear c5
              try clear c6
              try clear c6b0
              try clear c6b1
              try clear p6
              try clear c7
              try clear c8
              try clear c10
              try clear c17
              try clear c17b0
              try clear c17b1
              try clear c18
              try clear c18b0
              try clear c18b1
              try clear c19
              try clear c19b0
              try clear c20
              try clear c25
              try clear c27
              try clear c27b0
              try clear c27b1
              try clear c28
              try clear c28b0
              try clear c29
              try clear c29b0
              try clear c30
              try clear hcz13_0
              try clear hcz13_1
              try clear hcz15_0
              try clear hcz15_1
              try clear hcz26_0
              try clear hcz26_1
              try clear hcz31_0
              try clear hcz31_1
              try clear hcz32_0
              try clear hcz32_1
              try clear hfz13_0
              try clear hfz13_1
              try clear hfz15_0
              try clear hfz15_1
              try clear hfz26_0
              try clear hfz26_1
              try clear hfz31_0
              try clear hfz31_1
              try clear hfz32_0
              try clear hfz32_1
              try clear p2
              try clear p6
              obtain ⟨kq, x100_21, rfl, HA, HJ21, BK261, BK269, HB⟩ := hcut
              cases kq with
              | zero => exact absurd HA.out (by simp [sundiallaw15_HullGrows.j1])
              | succ kj21 =>
                have H := HA.out
                clear HA
                simp only [sundiallaw15_HullGrows.j1] at H
                by_cases c33 : x100_21 = true
                · subst c33
                  have H1 : (none) = some r := by rw [if_pos rfl] at H; exact H
                  clear H
                  have H := H1
                  clear H1
                  exact absurd H (by simp)
                · replace c33 := Bool.eq_false_iff.mpr c33
                  subst c33
                  have H1 : (if (l0.length : Int) = 32 then (some true) else ((some (([] : List (S25)) : List (S25))).bind fun y270 => (if y270.length + l0.length < 8796093022208 then ((some (y270 ++ l0 : List (S25))).bind fun y273 => ((some (([(⟨t258, t259⟩ : S25)] : List (S25)) : List (S25))).bind fun y276 => (if y273.length + y276.length < 8796093022208 then ((hull_Hull.f kj21 (y273 ++ y276) (Int.tmod (wrap64 ((Int.tmod a1 32) + 32)) 32)).bind fun bt282 => ((some (([(⟨(-2305843009213693952), 2305843009213693952⟩ : S25)] : List (S25)) : List (S25))).bind fun y286 => (if y286.length + l0.length < 8796093022208 then ((hull_Hull.f kj21 (y286 ++ l0) (Int.tmod (wrap64 ((Int.tmod a1 32) + 32)) 32)).bind fun bt292 => (if bt282.2.2 = 0 then (if (bt282.1 == t258 && (bt282.2.1 == t259)) = true then (if bt292.2.2 = 0 then (some (bt292.1 == t258 && (bt292.2.1 == t259))) else (none)) else (none)) else (none))) else (none)))) else (none)))) else (none)))) = some r := by rw [if_neg (show ¬ (false = true) by decide)] at H; exact H
                  clear H
                  have H := H1
                  clear H1
                  by_cases c34 : (l0.length : Int) = 32
                  · rw [if_pos c34] at H
                    have c34b0 : ((l0.length : Int) == 32) = true := beq_iff_eq.mpr c34
                    have c34b1 : ((l0.length : Int) != 32) = false := bne_eq_false_iff_eq.mpr c34
                    clear c34
                    obtain rfl := Option.some.inj H
                    go_wp2
                    go_ret
                    exact ⟨by first | rfl | (simp [errW_none, errW_some] <;> rfl) | (simp [*, errW_none, errW_some] <;> rfl), by repeat (first | (with_reducible first | exact HB.out | apply below_alloc | apply pw_below_drewN | apply below_drew1 | refine below_set ?_ GE261.out | refine below_set ?_ GE269.out) | exact HB.out)⟩
                  · rw [if_neg c34] at H
                    have c34b0 : ((l0.length : Int) == 32) = false := beq_eq_false_iff_ne.mpr c34
                    have c34b1 : ((l0.length : Int) != 32) = true := bne_iff_ne.mpr c34
                    obtain ⟨y270, hy270⟩ : ∃ y_ : List (S25), y_ = (([] : List (S25))) := ⟨_, rfl⟩
                    replace H : (if y270.length + l0.length < 8796093022208 then ((some (y270 ++ l0 : List (S25))).bind fun y273 => ((some (([(⟨t258, t259⟩ : S25)] : List (S25)) : List (S25))).bind fun y276 => (if y273.length + y276.length < 8796093022208 then ((hull_Hull.f kj21 (y273 ++ y276) (Int.tmod (wrap64 ((Int.tmod a1 32) + 32)) 32)).bind fun bt282 => ((some (([(⟨(-2305843009213693952), 2305843009213693952⟩ : S25)] : List (S25)) : List (S25))).bind fun y286 => (if y286.length + l0.length < 8796093022208 then ((hull_Hull.f kj21 (y286 ++ l0) (Int.tmod (wrap64 ((Int.tmod a1 32) + 32)) 32)).bind fun bt292 => (if bt282.2.2 = 0 then (if (bt282.1 == t258 && (bt282.2.1 == t259)) = true then (if bt292.2.2 = 0 then (some (bt292.1 == t258 && (bt292.2.1 == t259))) else (none)) else (none)) else (none))) else (none)))) else (none)))) else (none)) = some r := by first | (rw [hy270]; with_reducible exact H) | (have H2_ := (Option.bind_some _ _).symm.trans H; rw [hy270]; with_reducible exact H2_) | (have H2_ := (Option.bind_some _ _).symm.trans H; with_reducible exact H2_) | with_reducible exact H | (rw [hy270]; exact H) | exact H
                    have Ny270 := Aside0.mk hy270
                    clear hy270
                    by_cases c35 : y270.length + l0.length < 8796093022208
                    · rw [if_pos c35] at H
                      have LMc35 := Aside0.mk c35
                      clear c35
                      obtain ⟨y273, hy273⟩ : ∃ y_ : List (S25), y_ = (y270 ++ l0) := ⟨_, rfl⟩
                      replace H : ((some (([(⟨t258, t259⟩ : S25)] : List (S25)) : List (S25))).bind fun y276 => (if y273.length + y276.length < 8796093022208 then ((hull_Hull.f kj21 (y273 ++ y276) (Int.tmod (wrap64 ((Int.tmod a1 32) + 32)) 32)).bind fun bt282 => ((some (([(⟨(-2305843009213693952), 2305843009213693952⟩ : S25)] : List (S25)) : List (S25))).bind fun y286 => (if y286.length + l0.length < 8796093022208 then ((hull_Hull.f kj21 (y286 ++ l0) (Int.tmod (wrap64 ((Int.tmod a1 32) + 32)) 32)).bind fun bt292 => (if bt282.2.2 = 0 then (if (bt282.1 == t258 && (bt282.2.1 == t259)) = true then (if bt292.2.2 = 0 then (some (bt292.1 == t258 && (bt292.2.1 == t259))) else (none)) else (none)) else (none))) else (none)))) else (none))) = some r := by first | (rw [hy273]; with_reducible exact H) | (have H2_ := (Option.bind_some _ _).symm.trans H; rw [hy273]; with_reducible exact H2_) | (have H2_ := (Option.bind_some _ _).symm.trans H; with_reducible exact H2_) | with_reducible exact H | (rw [hy273]; exact H) | exact H
                      have Ny273 := Aside0.mk hy273
                      clear hy273
                      obtain ⟨y276, hy276⟩ : ∃ y_ : List (S25), y_ = (([(⟨t258, t259⟩ : S25)] : List (S25))) := ⟨_, rfl⟩
                      replace H : (if y273.length + y276.length < 8796093022208 then ((hull_Hull.f kj21 (y273 ++ y276) (Int.tmod (wrap64 ((Int.tmod a1 32) + 32)) 32)).bind fun bt282 => ((some (([(⟨(-2305843009213693952), 2305843009213693952⟩ : S25)] : List (S25)) : List (S25))).bind fun y286 => (if y286.length + l0.length < 8796093022208 then ((hull_Hull.f kj21 (y286 ++ l0) (Int.tmod (wrap64 ((Int.tmod a1 32) + 32)) 32)).bind fun bt292 => (if bt282.2.2 = 0 then (if (bt282.1 == t258 && (bt282.2.1 == t259)) = true then (if bt292.2.2 = 0 then (some (bt292.1 == t258 && (bt292.2.1 == t259))) else (none)) else (none)) else (none))) else (none)))) else (none)) = some r := by first | (rw [hy276]; with_reducible exact H) | (have H2_ := (Option.bind_some _ _).symm.trans H; rw [hy276]; with_reducible exact H2_) | (have H2_ := (Option.bind_some _ _).symm.trans H; with_reducible exact H2_) | with_reducible exact H | (rw [hy276]; exact H) | exact H
                      have Ny276 := Aside0.mk hy276
                      clear hy276
                      by_cases c36 : y273.length + y276.length < 8796093022208
                      · rw [if_pos c36] at H
                        have LMc36 := Aside0.mk c36
                        clear c36
                        obtain ⟨y279, hy279⟩ : ∃ y_ : List (S25), y_ = (y273 ++ y276) := ⟨_, rfl⟩
                        replace H : ((hull_Hull.f kj21 y279 (Int.tmod (wrap64 ((Int.tmod a1 32) + 32)) 32)).bind fun bt282 => ((some (([(⟨(-2305843009213693952), 2305843009213693952⟩ : S25)] : List (S25)) : List (S25))).bind fun y286 => (if y286.length + l0.length < 8796093022208 then ((hull_Hull.f kj21 (y286 ++ l0) (Int.tmod (wrap64 ((Int.tmod a1 32) + 32)) 32)).bind fun bt292 => (if bt282.2.2 = 0 then (if (bt282.1 == t258 && (bt282.2.1 == t259)) = true then (if bt292.2.2 = 0 then (some (bt292.1 == t258 && (bt292.2.1 == t259))) else (none)) else (none)) else (none))) else (none)))) = some r := by first | (rw [hy279]; with_reducible exact H) | (have H2_ := (Option.bind_some _ _).symm.trans H; rw [hy279]; with_reducible exact H2_) | (have H2_ := (Option.bind_some _ _).symm.trans H; with_reducible exact H2_) | with_reducible exact H | (rw [hy279]; exact H) | exact H
                        have Ny279 := Aside0.mk hy279
                        clear hy279
                        replace H := Option.bind_eq_some_iff.mp H
                        obtain ⟨⟨t282, t283, t284⟩, A370, H⟩ := H
                        replace H : ((some (([(⟨(-2305843009213693952), 2305843009213693952⟩ : S25)] : List (S25)) : List (S25))).bind fun y286 => (if y286.length + l0.length < 8796093022208 then ((hull_Hull.f kj21 (y286 ++ l0) (Int.tmod (wrap64 ((Int.tmod a1 32) + 32)) 32)).bind fun bt292 => (if t284 = 0 then (if (t282 == t258 && (t283 == t259)) = true then (if bt292.2.2 = 0 then (some (bt292.1 == t258 && (bt292.2.1 == t259))) else (none)) else (none)) else (none))) else (none))) = some r := H
                        have A37 := Aside0.mk A370
                        clear A370
                        obtain ⟨y286, hy286⟩ : ∃ y_ : List (S25), y_ = (([(⟨(-2305843009213693952), 2305843009213693952⟩ : S25)] : List (S25))) := ⟨_, rfl⟩
                        replace H : (if y286.length + l0.length < 8796093022208 then ((hull_Hull.f kj21 (y286 ++ l0) (Int.tmod (wrap64 ((Int.tmod a1 32) + 32)) 32)).bind fun bt292 => (if t284 = 0 then (if (t282 == t258 && (t283 == t259)) = true then (if bt292.2.2 = 0 then (some (bt292.1 == t258 && (bt292.2.1 == t259))) else (none)) else (none)) else (none))) else (none)) = some r := by first | (rw [hy286]; with_reducible exact H) | (have H2_ := (Option.bind_some _ _).symm.trans H; rw [hy286]; with_reducible exact H2_) | (have H2_ := (Option.bind_some _ _).symm.trans H; with_reducible exact H2_) | with_reducible exact H | (rw [hy286]; exact H) | exact H
                        have Ny286 := Aside0.mk hy286
                        clear hy286
                        by_cases c38 : y286.length + l0.length < 8796093022208
                        · rw [if_pos c38] at H
                          have LMc38 := Aside0.mk c38
                          clear c38
                          obtain ⟨y289, hy289⟩ : ∃ y_ : List (S25), y_ = (y286 ++ l0) := ⟨_, rfl⟩
                          replace H : ((hull_Hull.f kj21 y289 (Int.tmod (wrap64 ((Int.tmod a1 32) + 32)) 32)).bind fun bt292 => (if t284 = 0 then (if (t282 == t258 && (t283 == t259)) = true then (if bt292.2.2 = 0 then (some (bt292.1 == t258 && (bt292.2.1 == t259))) else (none)) else (none)) else (none))) = some r := by first | (rw [hy289]; with_reducible exact H) | (have H2_ := (Option.bind_some _ _).symm.trans H; rw [hy289]; with_reducible exact H2_) | (have H2_ := (Option.bind_some _ _).symm.trans H; with_reducible exact H2_) | with_reducible exact H | (rw [hy289]; exact H) | exact H
                          have Ny289 := Aside0.mk hy289
                          clear hy289
                          replace H := Option.bind_eq_some_iff.mp H
                          obtain ⟨⟨t292, t293, t294⟩, A390, H⟩ := H
                          replace H : (if t284 = 0 then (if (t282 == t258 && (t283 == t259)) = true then (if t294 = 0 then (some (t292 == t258 && (t293 == t259))) else (none)) else (none)) else (none)) = some r := H
                          have A39 := Aside0.mk A390
                          clear A390
                          by_cases c40 : t284 = 0
                          · rw [if_pos c40] at H
                            have c40b0 : (t284 == 0) = true := beq_iff_eq.mpr c40
                            have c40b1 : (t284 != 0) = false := bne_eq_false_iff_eq.mpr c40
                            clear c40
                            by_cases c41 : (t282 == t258 && (t283 == t259)) = true
                            · rw [if_pos c41] at H
                              have c41b0 : (t282 == t258 && (t283 == t259)) = true := c41
                              (try (have c41b1 : decide (t282 = t258 && (t283 == t259)) = true := by simpa using c41))
                              (try (have c41b2 : (t282 == t258 && (t283 == t259)) = true := by simpa using c41))
                              clear c41
                              by_cases c42 : t294 = 0
                              · rw [if_pos c42] at H
                                have c42b0 : (t294 == 0) = true := beq_iff_eq.mpr c42
                                have c42b1 : (t294 != 0) = false := bne_eq_false_iff_eq.mpr c42
                                clear c42
                                obtain rfl := Option.some.inj H
                                try go_wp2
                                have n0_ := Aside0.mk (blk_drew BK261.out)
                                have n1_ := Aside0.mk (blk_drew BK269.out)
                                have n2_ := Aside0.mk (below_drew1 HB.out)
                                clear BK261
                                clear BK269
                                clear HB
                                have BK261 := n0_
                                have BK269 := n1_
                                have HB := n2_
                                clear n0_ n1_ n2_
                                refine start_ (n := 14) (S := fun w' => w'.cell? ⟨gb261, 0, none⟩ = some (.int .i64 t258) ∧ w'.cell? ⟨gb261, 1, none⟩ = some (.int .i64 t259)) (ds := []) #[false, false, false, false, false, false, false, false, false, false, false, false, false, false] (by kernel_rfl) rfl rfl ⟨(blk_cell BK261.out 0).trans rfl, (blk_cell BK261.out 1).trans rfl⟩ (fun hHeld => ?_); refine with_tabW sundiallaw15_HullGrows.tab16 sundiallaw15_HullGrows.bits16 (fun HT_ HW_ => ?_)
                                generalize wc.drew = w43 at BK261 BK269 HB hHeld ⊢
                                refine pure_ (i := 1) (N := some 106) (v := ?_) (a' := ?_) #[false, true, false, false, false, false, false, false, false, false, false, false, false, false] rfl rfl (any_of HT_.out (by kernel_rfl)) (fun _ _ _ h => h) (Or.inl ⟨by rfl, ?_⟩) ?_ ?_
                                rotate_left
                                · intro w'
                                  go_simp
                                  with_reducible rfl
                                rotate_left
                                · simp only [Act.put, List.setIfInBounds_toArray, List.set_cons_zero, List.set_cons_succ, i64_w, i32_w]
                                  rfl
                                refine pure_ (i := 6) (N := some 111) (v := ?_) (a' := ?_) #[false, true, false, false, false, false, true, false, false, false, false, false, false, false] rfl rfl (any_of HT_.out (by kernel_rfl)) (fun _ _ _ h => h) (Or.inl ⟨by rfl, ?_⟩) ?_ ?_
                                rotate_left
                                · intro w'
                                  go_simp
                                  with_reducible rfl
                                rotate_left
                                · simp only [Act.put, List.setIfInBounds_toArray, List.set_cons_zero, List.set_cons_succ, i64_w, i32_w]
                                  rfl
                                refine take_ (i := 3) (N := some 108) (v := ?_) (a' := ?_) #[false, true, false, true, false, false, true, false, false, false, false, false, false, false] rfl rfl (take_ofW HT_.out HW_.out (by kernel_rfl)) (fun _ _ _ h => h) (Or.inl ⟨by rfl, ?_⟩) hHeld ?_ ?_
                                rotate_left
                                · rintro w' ⟨s0, s1⟩
                                  go_simp
                                  with_reducible rfl
                                rotate_left
                                · simp only [Act.put, List.setIfInBounds_toArray, List.set_cons_zero, List.set_cons_succ, i64_w, i32_w]
                                  rfl
                                refine join_ (σ := Value × Value × Value × Value × Nat) 2 #[true, true, true, true, true, true, true, true, true, true, true, true, false, false] (fun s_ => [(105, s_.1), (107, s_.2.1), (109, s_.2.2.1), (110, s_.2.2.2.1), (112, .tuple #[.agg #[.int .i64 t282, .int .i64 t283], .int .i64 t284]), (13, .pointer (some ⟨s_.2.2.2.2, 0, none⟩)), (104, .tuple #[.agg #[.int .i64 t282, .int .i64 t283], .int .i64 t284]), (113, .agg #[.int .i64 t282, .int .i64 t283]), (114, .int .i64 t284)]) (fun s_ w' => (w'.cell? ⟨gb261, 0, none⟩ = some (.int .i64 t258) ∧ w'.cell? ⟨gb261, 1, none⟩ = some (.int .i64 t259)) ∧ (Kd.R k25 25 w' w.heap.size (fun k_ => some k_ ≠ (s_.2.2.2.1 : Value).ownBlock ∧ k_ ≠ gb261 ∧ k_ ≠ gb269 ∧ k_ ≠ s_.2.2.2.2) s_.2.2.1 y276) ∧ (Kd.R k25 25 w' w.heap.size (fun k_ => some k_ ≠ (s_.2.2.1 : Value).ownBlock ∧ k_ ≠ gb261 ∧ k_ ≠ gb269 ∧ k_ ≠ s_.2.2.2.2) s_.2.2.2.1 y279) ∧ (w'.heap[gb261]? = some (.cells #[.int .i64 t258, .int .i64 t259] 25 (0, 0))) ∧ (w'.heap[gb269]? = some (.cells #[.int .i64 t266, .int .i64 t267] 25 (0, 0))) ∧ (w'.heap[s_.2.2.2.2]? = some (.cells #[.int .i64 0, .int .i64 0] 25 (0, 0))) ∧ (w.heap.size ≤ s_.2.2.2.2) ∧ (w.heap.size ≤ s_.2.2.2.2) ∧ (gb261 ≠ s_.2.2.2.2) ∧ (s_.2.2.2.2 ≠ gb261) ∧ (gb269 ≠ s_.2.2.2.2) ∧ (s_.2.2.2.2 ≠ gb269) ∧ (Below w.heap.size w w')) ?_ ?_
                                rotate_left
                                · intro hJ0_2_4_5_7_11
                                  refine join_ (σ := Value × Value × Value × Value) 3 #[true, true, true, true, true, true, true, true, true, true, true, false, false, false] (fun s_ => [(105, s_.1), (107, s_.2.1), (109, s_.2.2.1), (110, s_.2.2.2), (112, .tuple #[.agg #[.int .i64 t282, .int .i64 t283], .int .i64 t284]), (104, .tuple #[.agg #[.int .i64 t282, .int .i64 t283], .int .i64 t284]), (113, .agg #[.int .i64 t282, .int .i64 t283]), (114, .int .i64 t284)]) (fun s_ w' => (w'.cell? ⟨gb261, 0, none⟩ = some (.int .i64 t258) ∧ w'.cell? ⟨gb261, 1, none⟩ = some (.int .i64 t259)) ∧ (Kd.R k25 25 w' w.heap.size (fun k_ => some k_ ≠ (s_.2.2.2 : Value).ownBlock ∧ k_ ≠ gb261 ∧ k_ ≠ gb269) s_.2.2.1 y276) ∧ (Kd.R k25 25 w' w.heap.size (fun k_ => some k_ ≠ (s_.2.2.1 : Value).ownBlock ∧ k_ ≠ gb261 ∧ k_ ≠ gb269) s_.2.2.2 y279) ∧ (w'.heap[gb261]? = some (.cells #[.int .i64 t258, .int .i64 t259] 25 (0, 0))) ∧ (w'.heap[gb269]? = some (.cells #[.int .i64 t266, .int .i64 t267] 25 (0, 0))) ∧ (Below w.heap.size w w')) ?_ ?_
                                  rotate_left
                                  · intro hJ0_2_4_5_7
                                    refine join_ (σ := Value × Value × Value × Value × Nat) 6 #[true, true, true, true, true, true, true, false, false, false, false, true, false, false] (fun s_ => [(105, s_.1), (107, s_.2.1), (109, s_.2.2.1), (110, s_.2.2.2.1), (13, .pointer (some ⟨s_.2.2.2.2, 0, none⟩))]) (fun s_ w' => (w'.cell? ⟨gb261, 0, none⟩ = some (.int .i64 t258) ∧ w'.cell? ⟨gb261, 1, none⟩ = some (.int .i64 t259)) ∧ (Kd.R k25 25 w' w.heap.size (fun k_ => some k_ ≠ (s_.2.2.2.1 : Value).ownBlock ∧ k_ ≠ gb261 ∧ k_ ≠ gb269 ∧ k_ ≠ s_.2.2.2.2) s_.2.2.1 y276) ∧ (Kd.R k25 25 w' w.heap.size (fun k_ => some k_ ≠ (s_.2.2.1 : Value).ownBlock ∧ k_ ≠ gb261 ∧ k_ ≠ gb269 ∧ k_ ≠ s_.2.2.2.2) s_.2.2.2.1 y279) ∧ (w'.heap[gb261]? = some (.cells #[.int .i64 t258, .int .i64 t259] 25 (0, 0))) ∧ (w'.heap[gb269]? = some (.cells #[.int .i64 t266, .int .i64 t267] 25 (0, 0))) ∧ (w'.heap[s_.2.2.2.2]? = some (.cells #[.int .i64 0, .int .i64 0] 25 (0, 0))) ∧ (w.heap.size ≤ s_.2.2.2.2) ∧ (w.heap.size ≤ s_.2.2.2.2) ∧ (gb261 ≠ s_.2.2.2.2) ∧ (s_.2.2.2.2 ≠ gb261) ∧ (gb269 ≠ s_.2.2.2.2) ∧ (s_.2.2.2.2 ≠ gb269) ∧ (Below w.heap.size w w')) ?_ ?_
                                    rotate_left
                                    · intro hJ0_2_4_5_11
                                      refine join_ (σ := Value × Value × Value × Value) 7 #[true, true, true, true, true, true, true, false, false, false, false, false, false, false] (fun s_ => [(105, s_.1), (107, s_.2.1), (109, s_.2.2.1), (110, s_.2.2.2)]) (fun s_ w' => (w'.cell? ⟨gb261, 0, none⟩ = some (.int .i64 t258) ∧ w'.cell? ⟨gb261, 1, none⟩ = some (.int .i64 t259)) ∧ (Kd.R k25 25 w' w.heap.size (fun k_ => some k_ ≠ (s_.2.2.2 : Value).ownBlock ∧ k_ ≠ gb261 ∧ k_ ≠ gb269) s_.2.2.1 y276) ∧ (Kd.R k25 25 w' w.heap.size (fun k_ => some k_ ≠ (s_.2.2.1 : Value).ownBlock ∧ k_ ≠ gb261 ∧ k_ ≠ gb269) s_.2.2.2 y279) ∧ (w'.heap[gb261]? = some (.cells #[.int .i64 t258, .int .i64 t259] 25 (0, 0))) ∧ (w'.heap[gb269]? = some (.cells #[.int .i64 t266, .int .i64 t267] 25 (0, 0))) ∧ (Below w.heap.size w w')) ?_ ?_
                                      rotate_left
                                      · intro hJ0_2_4_5
                                        refine join_ (σ := Value × Value × Value × Nat) 7 #[true, true, true, true, true, false, true, false, false, false, false, true, false, false] (fun s_ => [(105, s_.1), (107, s_.2.1), (109, s_.2.2.1), (13, .pointer (some ⟨s_.2.2.2, 0, none⟩))]) (fun s_ w' => (w'.cell? ⟨gb261, 0, none⟩ = some (.int .i64 t258) ∧ w'.cell? ⟨gb261, 1, none⟩ = some (.int .i64 t259)) ∧ (Kd.R k25 25 w' w.heap.size (fun k_ => some k_ ≠ (s_.2.2.1 : Value).ownBlock ∧ k_ ≠ gb261 ∧ k_ ≠ gb269 ∧ k_ ≠ s_.2.2.2) s_.2.1 y273) ∧ (Kd.R k25 25 w' w.heap.size (fun k_ => some k_ ≠ (s_.2.1 : Value).ownBlock ∧ k_ ≠ gb261 ∧ k_ ≠ gb269 ∧ k_ ≠ s_.2.2.2) s_.2.2.1 y276) ∧ (w'.heap[gb261]? = some (.cells #[.int .i64 t258, .int .i64 t259] 25 (0, 0))) ∧ (w'.heap[gb269]? = some (.cells #[.int .i64 t266, .int .i64 t267] 25 (0, 0))) ∧ (w'.heap[s_.2.2.2]? = some (.cells #[.int .i64 0, .int .i64 0] 25 (0, 0))) ∧ (w.heap.size ≤ s_.2.2.2) ∧ (w.heap.size ≤ s_.2.2.2) ∧ (gb261 ≠ s_.2.2.2) ∧ (s_.2.2.2 ≠ gb261) ∧ (gb269 ≠ s_.2.2.2) ∧ (s_.2.2.2 ≠ gb269) ∧ (Below w.heap.size w w')) ?_ ?_
                                        rotate_left
                                        · intro hJ0_2_4_11
                                          refine join_ (σ := Value × Value × Value) 8 #[true, true, true, true, true, false, true, false, false, false, false, false, false, false] (fun s_ => [(105, s_.1), (107, s_.2.1), (109, s_.2.2)]) (fun s_ w' => (w'.cell? ⟨gb261, 0, none⟩ = some (.int .i64 t258) ∧ w'.cell? ⟨gb261, 1, none⟩ = some (.int .i64 t259)) ∧ (Kd.R k25 25 w' w.heap.size (fun k_ => some k_ ≠ (s_.2.2 : Value).ownBlock ∧ k_ ≠ gb261 ∧ k_ ≠ gb269) s_.2.1 y273) ∧ (Kd.R k25 25 w' w.heap.size (fun k_ => some k_ ≠ (s_.2.1 : Value).ownBlock ∧ k_ ≠ gb261 ∧ k_ ≠ gb269) s_.2.2 y276) ∧ (w'.heap[gb261]? = some (.cells #[.int .i64 t258, .int .i64 t259] 25 (0, 0))) ∧ (w'.heap[gb269]? = some (.cells #[.int .i64 t266, .int .i64 t267] 25 (0, 0))) ∧ (Below w.heap.size w w')) ?_ ?_
                                          rotate_left
                                          · intro hJ0_2_4
                                            refine join_ (σ := Value × Value × Nat) 8 #[true, true, true, true, false, false, true, false, false, false, false, true, false, false] (fun s_ => [(105, s_.1), (107, s_.2.1), (13, .pointer (some ⟨s_.2.2, 0, none⟩))]) (fun s_ w' => (w'.cell? ⟨gb261, 0, none⟩ = some (.int .i64 t258) ∧ w'.cell? ⟨gb261, 1, none⟩ = some (.int .i64 t259)) ∧ (Kd.R k25 25 w' w.heap.size (fun k_ => k_ ≠ gb261 ∧ k_ ≠ gb269 ∧ k_ ≠ s_.2.2) s_.2.1 y273) ∧ (w'.heap[gb261]? = some (.cells #[.int .i64 t258, .int .i64 t259] 25 (0, 0))) ∧ (w'.heap[gb269]? = some (.cells #[.int .i64 t266, .int .i64 t267] 25 (0, 0))) ∧ (w'.heap[s_.2.2]? = some (.cells #[.int .i64 0, .int .i64 0] 25 (0, 0))) ∧ (w.heap.size ≤ s_.2.2) ∧ (w.heap.size ≤ s_.2.2) ∧ (gb261 ≠ s_.2.2) ∧ (s_.2.2 ≠ gb261) ∧ (gb269 ≠ s_.2.2) ∧ (s_.2.2 ≠ gb269) ∧ (Below w.heap.size w w')) ?_ ?_
                                            rotate_left
                                            · intro hJ0_2_11
                                              refine join_ (σ := Value × Value × Nat) 8 #[true, true, false, true, true, false, true, false, false, false, false, true, false, false] (fun s_ => [(105, s_.1), (109, s_.2.1), (13, .pointer (some ⟨s_.2.2, 0, none⟩))]) (fun s_ w' => (w'.cell? ⟨gb261, 0, none⟩ = some (.int .i64 t258) ∧ w'.cell? ⟨gb261, 1, none⟩ = some (.int .i64 t259)) ∧ (Kd.R k25 25 w' w.heap.size (fun k_ => some k_ ≠ (s_.2.1 : Value).ownBlock ∧ k_ ≠ gb261 ∧ k_ ≠ gb269 ∧ k_ ≠ s_.2.2) s_.1 y270) ∧ (Kd.R k25 25 w' w.heap.size (fun k_ => some k_ ≠ (s_.1 : Value).ownBlock ∧ k_ ≠ gb261 ∧ k_ ≠ gb269 ∧ k_ ≠ s_.2.2) s_.2.1 y276) ∧ (w'.heap[gb261]? = some (.cells #[.int .i64 t258, .int .i64 t259] 25 (0, 0))) ∧ (w'.heap[gb269]? = some (.cells #[.int .i64 t266, .int .i64 t267] 25 (0, 0))) ∧ (w'.heap[s_.2.2]? = some (.cells #[.int .i64 0, .int .i64 0] 25 (0, 0))) ∧ (w.heap.size ≤ s_.2.2) ∧ (w.heap.size ≤ s_.2.2) ∧ (gb261 ≠ s_.2.2) ∧ (s_.2.2 ≠ gb261) ∧ (gb269 ≠ s_.2.2) ∧ (s_.2.2 ≠ gb269) ∧ (Below w.heap.size w w')) ?_ ?_
                                              rotate_left
                                              · intro hJ0_4_11
                                                refine join_ (σ := Value × Value) 9 #[true, true, true, true, false, false, true, false, false, false, false, false, false, false] (fun s_ => [(105, s_.1), (107, s_.2)]) (fun s_ w' => (w'.cell? ⟨gb261, 0, none⟩ = some (.int .i64 t258) ∧ w'.cell? ⟨gb261, 1, none⟩ = some (.int .i64 t259)) ∧ (Kd.R k25 25 w' w.heap.size (fun k_ => k_ ≠ gb261 ∧ k_ ≠ gb269) s_.2 y273) ∧ (w'.heap[gb261]? = some (.cells #[.int .i64 t258, .int .i64 t259] 25 (0, 0))) ∧ (w'.heap[gb269]? = some (.cells #[.int .i64 t266, .int .i64 t267] 25 (0, 0))) ∧ (Below w.heap.size w w')) ?_ ?_
                                                rotate_left
                                                · intro hJ0_2
                                                  refine join_ (σ := Value × Value) 9 #[true, true, false, true, true, false, true, false, false, false, false, false, false, false] (fun s_ => [(105, s_.1), (109, s_.2)]) (fun s_ w' => (w'.cell? ⟨gb261, 0, none⟩ = some (.int .i64 t258) ∧ w'.cell? ⟨gb261, 1, none⟩ = some (.int .i64 t259)) ∧ (Kd.R k25 25 w' w.heap.size (fun k_ => some k_ ≠ (s_.2 : Value).ownBlock ∧ k_ ≠ gb261 ∧ k_ ≠ gb269) s_.1 y270) ∧ (Kd.R k25 25 w' w.heap.size (fun k_ => some k_ ≠ (s_.1 : Value).ownBlock ∧ k_ ≠ gb261 ∧ k_ ≠ gb269) s_.2 y276) ∧ (w'.heap[gb261]? = some (.cells #[.int .i64 t258, .int .i64 t259] 25 (0, 0))) ∧ (w'.heap[gb269]? = some (.cells #[.int .i64 t266, .int .i64 t267] 25 (0, 0))) ∧ (Below w.heap.size w w')) ?_ ?_
                                                  rotate_left
                                                  · intro hJ0_4
                                                    refine join_ (σ := Value × Nat) 9 #[true, true, false, true, false, false, true, false, false, false, false, true, false, false] (fun s_ => [(105, s_.1), (13, .pointer (some ⟨s_.2, 0, none⟩))]) (fun s_ w' => (w'.cell? ⟨gb261, 0, none⟩ = some (.int .i64 t258) ∧ w'.cell? ⟨gb261, 1, none⟩ = some (.int .i64 t259)) ∧ (Kd.R k25 25 w' w.heap.size (fun k_ => k_ ≠ gb261 ∧ k_ ≠ gb269 ∧ k_ ≠ s_.2) s_.1 y270) ∧ (w'.heap[gb261]? = some (.cells #[.int .i64 t258, .int .i64 t259] 25 (0, 0))) ∧ (w'.heap[gb269]? = some (.cells #[.int .i64 t266, .int .i64 t267] 25 (0, 0))) ∧ (w'.heap[s_.2]? = some (.cells #[.int .i64 0, .int .i64 0] 25 (0, 0))) ∧ (w.heap.size ≤ s_.2) ∧ (w.heap.size ≤ s_.2) ∧ (gb261 ≠ s_.2) ∧ (s_.2 ≠ gb261) ∧ (gb269 ≠ s_.2) ∧ (s_.2 ≠ gb269) ∧ (Below w.heap.size w w')) ?_ ?_
                                                    rotate_left
                                                    · intro hJ0_11
                                                      refine join_ (σ := Value × Nat) 9 #[false, true, false, true, true, false, true, false, false, false, false, true, false, false] (fun s_ => [(109, s_.1), (13, .pointer (some ⟨s_.2, 0, none⟩))]) (fun s_ w' => (w'.cell? ⟨gb261, 0, none⟩ = some (.int .i64 t258) ∧ w'.cell? ⟨gb261, 1, none⟩ = some (.int .i64 t259)) ∧ (Kd.R k25 25 w' w.heap.size (fun k_ => k_ ≠ gb261 ∧ k_ ≠ gb269 ∧ k_ ≠ s_.2) s_.1 y276) ∧ (w'.heap[gb261]? = some (.cells #[.int .i64 t258, .int .i64 t259] 25 (0, 0))) ∧ (w'.heap[gb269]? = some (.cells #[.int .i64 t266, .int .i64 t267] 25 (0, 0))) ∧ (w'.heap[s_.2]? = some (.cells #[.int .i64 0, .int .i64 0] 25 (0, 0))) ∧ (w.heap.size ≤ s_.2) ∧ (w.heap.size ≤ s_.2) ∧ (gb261 ≠ s_.2) ∧ (s_.2 ≠ gb261) ∧ (gb269 ≠ s_.2) ∧ (s_.2 ≠ gb269) ∧ (Below w.heap.size w w')) ?_ ?_
                                                      rotate_left
                                                      · intro hJ4_11
                                                        refine join_ (σ := Value) 10 #[true, true, false, true, false, false, true, false, false, false, false, false, false, false] (fun s_ => [(105, s_)]) (fun s_ w' => (w'.cell? ⟨gb261, 0, none⟩ = some (.int .i64 t258) ∧ w'.cell? ⟨gb261, 1, none⟩ = some (.int .i64 t259)) ∧ (Kd.R k25 25 w' w.heap.size (fun k_ => k_ ≠ gb261 ∧ k_ ≠ gb269) s_ y270) ∧ (w'.heap[gb261]? = some (.cells #[.int .i64 t258, .int .i64 t259] 25 (0, 0))) ∧ (w'.heap[gb269]? = some (.cells #[.int .i64 t266, .int .i64 t267] 25 (0, 0))) ∧ (Below w.heap.size w w')) ?_ ?_
                                                        rotate_left
                                                        · intro hJ0
                                                          refine join_ (σ := Value) 10 #[false, true, false, true, true, false, true, false, false, false, false, false, false, false] (fun s_ => [(109, s_)]) (fun s_ w' => (w'.cell? ⟨gb261, 0, none⟩ = some (.int .i64 t258) ∧ w'.cell? ⟨gb261, 1, none⟩ = some (.int .i64 t259)) ∧ (Kd.R k25 25 w' w.heap.size (fun k_ => k_ ≠ gb261 ∧ k_ ≠ gb269) s_ y276) ∧ (w'.heap[gb261]? = some (.cells #[.int .i64 t258, .int .i64 t259] 25 (0, 0))) ∧ (w'.heap[gb269]? = some (.cells #[.int .i64 t266, .int .i64 t267] 25 (0, 0))) ∧ (Below w.heap.size w w')) ?_ ?_
                                                          rotate_left
                                                          · intro hJ4
                                                            refine join_ (σ := Nat) 10 #[false, true, false, true, false, false, true, false, false, false, false, true, false, false] (fun s_ => [(13, .pointer (some ⟨s_, 0, none⟩))]) (fun s_ w' => (w'.cell? ⟨gb261, 0, none⟩ = some (.int .i64 t258) ∧ w'.cell? ⟨gb261, 1, none⟩ = some (.int .i64 t259)) ∧ (w'.heap[gb261]? = some (.cells #[.int .i64 t258, .int .i64 t259] 25 (0, 0))) ∧ (w'.heap[gb269]? = some (.cells #[.int .i64 t266, .int .i64 t267] 25 (0, 0))) ∧ (w'.heap[s_]? = some (.cells #[.int .i64 0, .int .i64 0] 25 (0, 0))) ∧ (w.heap.size ≤ s_) ∧ (w.heap.size ≤ s_) ∧ (gb261 ≠ s_) ∧ (s_ ≠ gb261) ∧ (gb269 ≠ s_) ∧ (s_ ≠ gb269) ∧ (Below w.heap.size w w')) ?_ ?_
                                                            rotate_left
                                                            · intro hJ11
                                                              refine three_ (i := 0) (j := 4) (k := 11) (Ni := some 105) (Nj := some 109) (Nk := some 13) #[true, true, false, true, false, false, true, false, false, false, false, false, false, false] #[false, true, false, true, true, false, true, false, false, false, false, false, false, false] #[false, true, false, true, false, false, true, false, false, false, false, true, false, false] rfl rfl rfl rfl rfl rfl (three_of HT_.out (by kernel_rfl)) (by decide) (by decide) (by decide) (fun K hK => ?_) (fun K hK => ?_) (fun K hK => ?_)
                                                              · skip
                                                                refine Kd.R_lit_step k25 _ 25 ?hg (N := 105) ?hd (xs := ([] : List (S25))) (inner := []) (ok := fun _ => True) (okp := fun _ => True) ?hr ?hp (fun _ hk => hk) trivial (Below.refl _ _) (Nat.le_refl _) (by simp) ?_; (case hd => rfl); (case hg => rfl); (case hr => first | (go_simp; done) | (go_simp; rfl)); (case hp => exact (Reps.none _ _))
                                                                intro v271 w44 ho45 hb hg_ hnew_
                                                                clear hg_ hnew_
                                                                (first | rw [← Ny270.out] at ho45 | (simp only [Int.reduceToNat] at ho45; rw [← Ny270.out] at ho45))
                                                                have n0_ := Aside0.mk (Kd.R_lower (Kd.R_newB (Kd.R_newB ho45 (g := gb261) (o := .cells #[.int .i64 t258, .int .i64 t259] 25 (0, 0)) (by (with_reducible repeat (first | refine blk_drewN ?_ _ | refine blk_drew ?_ | refine blk_alloc ?_ _)); exact BK261.out)) (g := gb269) (o := .cells #[.int .i64 t266, .int .i64 t267] 25 (0, 0)) (by (with_reducible repeat (first | refine blk_drewN ?_ _ | refine blk_drew ?_ | refine blk_alloc ?_ _)); exact BK269.out)) (below_size (by repeat (first | (with_reducible first | exact HB.out | apply below_alloc | apply pw_below_drewN | apply below_drew1 | refine below_set ?_ GE261.out | refine below_set ?_ GE269.out) | exact HB.out))))
                                                                have n1_ := Aside0.mk (blk_below (g := gb261) (o := .cells #[.int .i64 t258, .int .i64 t259] 25 (0, 0)) (by (with_reducible repeat (first | refine blk_drewN ?_ _ | refine blk_drew ?_ | refine blk_alloc ?_ _)); exact BK261.out) hb)
                                                                have n2_ := Aside0.mk (blk_below (g := gb269) (o := .cells #[.int .i64 t266, .int .i64 t267] 25 (0, 0)) (by (with_reducible repeat (first | refine blk_drewN ?_ _ | refine blk_drew ?_ | refine blk_alloc ?_ _)); exact BK269.out) hb)
                                                                have n3_ := Aside0.mk (below_step (by repeat (first | (with_reducible first | exact HB.out | apply below_alloc | apply pw_below_drewN | apply below_drew1 | refine below_set ?_ GE261.out | refine below_set ?_ GE269.out) | exact HB.out)) hb)
                                                                clear BK261
                                                                clear BK269
                                                                clear HB
                                                                have HO272 := n0_
                                                                have BK261 := n1_
                                                                have BK269 := n2_
                                                                have HB := n3_
                                                                clear n0_ n1_ n2_ n3_
                                                                clear hb ho45
                                                                refine hK.out _ _ ⟨(blk_cell BK261.out 0).trans rfl, (blk_cell BK261.out 1).trans rfl⟩ (fun hHeld => ?_)
                                                                clear hK K
                                                                refine norm_ (a' := ?_) ?_ ?_
                                                                rotate_left
                                                                · show Act.put _ (some 105) _ = _
                                                                  simp only [Act.put, List.setIfInBounds_toArray, List.set_cons_zero, List.set_cons_succ, i64_w, i32_w]
                                                                  rfl
                                                                exact norm_ (by first | (simp only [putAll, Act.put, List.setIfInBounds_toArray, List.set_cons_zero, List.set_cons_succ]; done) | (simp only [putAll, Act.put, List.setIfInBounds_toArray, List.set_cons_zero, List.set_cons_succ]; rfl)) (hJ0 (v271) _ ⟨hHeld, (by (with_reducible repeat (first | apply Kd.R_alloc | apply Kd.R_drewN | apply Kd.R_drew)); exact Kd.R_mono HO272.out (fun _ hk => ⟨hk.1.2, hk.2⟩)), (by (with_reducible repeat (first | refine blk_drewN ?_ _ | refine blk_drew ?_ | refine blk_alloc ?_ _)); exact BK261.out), (by (with_reducible repeat (first | refine blk_drewN ?_ _ | refine blk_drew ?_ | refine blk_alloc ?_ _)); exact BK269.out), (by repeat (first | (with_reducible first | exact HB.out | apply below_alloc | apply pw_below_drewN | apply below_drew1 | refine below_set ?_ GE261.out | refine below_set ?_ GE269.out) | exact HB.out))⟩)
                                                              · skip
                                                                refine Kd.R_lit_step k25 _ 25 ?hg (N := 109) ?hd (xs := ([(⟨t258, t259⟩ : S25)] : List (S25))) (inner := [.int .i64 t258, .int .i64 t259]) (ok := fun _ => True) (okp := fun _ => True) ?hr ?hp (fun _ hk => hk) trivial (Below.refl _ _) (Nat.le_refl _) (by simp) ?_; (case hd => rfl); (case hg => rfl); (case hr => first | (go_simp; done) | (go_simp; rfl)); (case hp => exact (Reps.c2 (show Kd.M k25 _ _ _ (⟨t258, t259⟩ : S25) [.int .i64 t258, .int .i64 t259] from (k25_mkM _ _ _ (⟨t258, t259⟩ : S25) )) (Reps.none _ _)))
                                                                intro v277 w44 ho45 hb hg_ hnew_
                                                                clear hg_ hnew_
                                                                (first | rw [← Ny276.out] at ho45 | (simp only [Int.reduceToNat] at ho45; rw [← Ny276.out] at ho45))
                                                                have n0_ := Aside0.mk (Kd.R_lower (Kd.R_newB (Kd.R_newB ho45 (g := gb261) (o := .cells #[.int .i64 t258, .int .i64 t259] 25 (0, 0)) (by (with_reducible repeat (first | refine blk_drewN ?_ _ | refine blk_drew ?_ | refine blk_alloc ?_ _)); exact BK261.out)) (g := gb269) (o := .cells #[.int .i64 t266, .int .i64 t267] 25 (0, 0)) (by (with_reducible repeat (first | refine blk_drewN ?_ _ | refine blk_drew ?_ | refine blk_alloc ?_ _)); exact BK269.out)) (below_size (by repeat (first | (with_reducible first | exact HB.out | apply below_alloc | apply pw_below_drewN | apply below_drew1 | refine below_set ?_ GE261.out | refine below_set ?_ GE269.out) | exact HB.out))))
                                                                have n1_ := Aside0.mk (blk_below (g := gb261) (o := .cells #[.int .i64 t258, .int .i64 t259] 25 (0, 0)) (by (with_reducible repeat (first | refine blk_drewN ?_ _ | refine blk_drew ?_ | refine blk_alloc ?_ _)); exact BK261.out) hb)
                                                                have n2_ := Aside0.mk (blk_below (g := gb269) (o := .cells #[.int .i64 t266, .int .i64 t267] 25 (0, 0)) (by (with_reducible repeat (first | refine blk_drewN ?_ _ | refine blk_drew ?_ | refine blk_alloc ?_ _)); exact BK269.out) hb)
                                                                have n3_ := Aside0.mk (below_step (by repeat (first | (with_reducible first | exact HB.out | apply below_alloc | apply pw_below_drewN | apply below_drew1 | refine below_set ?_ GE261.out | refine below_set ?_ GE269.out) | exact HB.out)) hb)
                                                                clear BK261
                                                                clear BK269
                                                                clear HB
                                                                have HO278 := n0_
                                                                have BK261 := n1_
                                                                have BK269 := n2_
                                                                have HB := n3_
                                                                clear n0_ n1_ n2_ n3_
                                                                clear hb ho45
                                                                refine hK.out _ _ ⟨(blk_cell BK261.out 0).trans rfl, (blk_cell BK261.out 1).trans rfl⟩ (fun hHeld => ?_)
                                                                clear hK K
                                                                refine norm_ (a' := ?_) ?_ ?_
                                                                rotate_left
                                                                · show Act.put _ (some 109) _ = _
                                                                  simp only [Act.put, List.setIfInBounds_toArray, List.set_cons_zero, List.set_cons_succ, i64_w, i32_w]
                                                                  rfl
                                                                exact norm_ (by first | (simp only [putAll, Act.put, List.setIfInBounds_toArray, List.set_cons_zero, List.set_cons_succ]; done) | (simp only [putAll, Act.put, List.setIfInBounds_toArray, List.set_cons_zero, List.set_cons_succ]; rfl)) (hJ4 (v277) _ ⟨hHeld, (by (with_reducible repeat (first | apply Kd.R_alloc | apply Kd.R_drewN | apply Kd.R_drew)); exact Kd.R_mono HO278.out (fun _ hk => ⟨hk.1.2, hk.2⟩)), (by (with_reducible repeat (first | refine blk_drewN ?_ _ | refine blk_drew ?_ | refine blk_alloc ?_ _)); exact BK261.out), (by (with_reducible repeat (first | refine blk_drewN ?_ _ | refine blk_drew ?_ | refine blk_alloc ?_ _)); exact BK269.out), (by repeat (first | (with_reducible first | exact HB.out | apply below_alloc | apply pw_below_drewN | apply below_drew1 | refine below_set ?_ GE261.out | refine below_set ?_ GE269.out) | exact HB.out))⟩)
                                                              · skip
                                                                refine box_step ?hg (N := 13) ?hd (cs := #[.int .i64 0, .int .i64 0]) (t := 25) ?hr ?_; (case hd => rfl); (case hg => rfl); (case hr => first | (go_simp; done) | (go_simp; rfl))
                                                                intro gb285 hg w44 hbox hb
                                                                have n0_ := Aside0.mk (blk_below (g := gb261) (o := .cells #[.int .i64 t258, .int .i64 t259] 25 (0, 0)) (by (with_reducible repeat (first | refine blk_drewN ?_ _ | refine blk_drew ?_ | refine blk_alloc ?_ _)); exact BK261.out) hb)
                                                                have n1_ := Aside0.mk (blk_below (g := gb269) (o := .cells #[.int .i64 t266, .int .i64 t267] 25 (0, 0)) (by (with_reducible repeat (first | refine blk_drewN ?_ _ | refine blk_drew ?_ | refine blk_alloc ?_ _)); exact BK269.out) hb)
                                                                have n2_ := Aside0.mk (below_step (by repeat (first | (with_reducible first | exact HB.out | apply below_alloc | apply pw_below_drewN | apply below_drew1 | refine below_set ?_ GE261.out | refine below_set ?_ GE269.out) | exact HB.out)) hb)
                                                                have n3_ := Aside0.mk (hbox)
                                                                have n4_ := Aside0.mk ((by rw [hg]; exact (below_size (by repeat (first | (with_reducible first | exact HB.out | apply below_alloc | apply pw_below_drewN | apply below_drew1 | refine below_set ?_ GE261.out | refine below_set ?_ GE269.out) | exact HB.out))) : w.heap.size ≤ gb285))
                                                                have n5_ := Aside0.mk ((by rw [hg]; exact (below_size (by repeat (first | (with_reducible first | exact HB.out | apply below_alloc | apply pw_below_drewN | apply below_drew1 | refine below_set ?_ GE261.out | refine below_set ?_ GE269.out) | exact HB.out))) : w.heap.size ≤ gb285))
                                                                have n6_ := Aside0.mk ((by rw [hg]; exact Nat.ne_of_lt (blk_lt (g := gb261) (o := .cells #[.int .i64 t258, .int .i64 t259] 25 (0, 0)) (by (with_reducible repeat (first | refine blk_drewN ?_ _ | refine blk_drew ?_ | refine blk_alloc ?_ _)); exact BK261.out)) : gb261 ≠ gb285))
                                                                have n7_ := Aside0.mk ((by rw [hg]; exact Nat.ne_of_gt (blk_lt (g := gb261) (o := .cells #[.int .i64 t258, .int .i64 t259] 25 (0, 0)) (by (with_reducible repeat (first | refine blk_drewN ?_ _ | refine blk_drew ?_ | refine blk_alloc ?_ _)); exact BK261.out)) : gb285 ≠ gb261))
                                                                have n8_ := Aside0.mk ((by rw [hg]; exact Nat.ne_of_lt (blk_lt (g := gb269) (o := .cells #[.int .i64 t266, .int .i64 t267] 25 (0, 0)) (by (with_reducible repeat (first | refine blk_drewN ?_ _ | refine blk_drew ?_ | refine blk_alloc ?_ _)); exact BK269.out)) : gb269 ≠ gb285))
                                                                have n9_ := Aside0.mk ((by rw [hg]; exact Nat.ne_of_gt (blk_lt (g := gb269) (o := .cells #[.int .i64 t266, .int .i64 t267] 25 (0, 0)) (by (with_reducible repeat (first | refine blk_drewN ?_ _ | refine blk_drew ?_ | refine blk_alloc ?_ _)); exact BK269.out)) : gb285 ≠ gb269))
                                                                clear BK261
                                                                clear BK269
                                                                clear HB
                                                                have BK261 := n0_
                                                                have BK269 := n1_
                                                                have HB := n2_
                                                                have BK285 := n3_
                                                                have GW285 := n4_
                                                                have GE285 := n5_
                                                                have NB261_285 := n6_
                                                                have NB285_261 := n7_
                                                                have NB269_285 := n8_
                                                                have NB285_269 := n9_
                                                                clear n0_ n1_ n2_ n3_ n4_ n5_ n6_ n7_ n8_ n9_
                                                                clear hb hbox hg
                                                                refine hK.out _ _ ⟨(blk_cell BK261.out 0).trans rfl, (blk_cell BK261.out 1).trans rfl⟩ (fun hHeld => ?_)
                                                                clear hK K
                                                                refine norm_ (a' := ?_) ?_ ?_
                                                                rotate_left
                                                                · show Act.put _ (some 13) _ = _
                                                                  simp only [Act.put, List.setIfInBounds_toArray, List.set_cons_zero, List.set_cons_succ, i64_w, i32_w]
                                                                  rfl
                                                                exact norm_ (by first | (simp only [putAll, Act.put, List.setIfInBounds_toArray, List.set_cons_zero, List.set_cons_succ]; done) | (simp only [putAll, Act.put, List.setIfInBounds_toArray, List.set_cons_zero, List.set_cons_succ]; rfl)) (hJ11 (gb285) _ ⟨hHeld, (by (with_reducible repeat (first | refine blk_drewN ?_ _ | refine blk_drew ?_ | refine blk_alloc ?_ _)); exact BK261.out), (by (with_reducible repeat (first | refine blk_drewN ?_ _ | refine blk_drew ?_ | refine blk_alloc ?_ _)); exact BK269.out), (by (with_reducible repeat (first | refine blk_drewN ?_ _ | refine blk_drew ?_ | refine blk_alloc ?_ _)); exact BK285.out), GW285.out, GE285.out, NB261_285.out, NB285_261.out, NB269_285.out, NB285_269.out, (by repeat (first | (with_reducible first | exact HB.out | apply below_alloc | apply pw_below_drewN | apply below_drew1 | refine below_set ?_ GE261.out | refine below_set ?_ GE269.out | refine below_set ?_ GE285.out) | exact HB.out))⟩)
                                                            · skip
                                                              rintro gb285 w45 ⟨hS_, h0_, h1_, h2_, h3_, h4_, h5_, h6_, h7_, h8_, h9_⟩
                                                              have n0_ : Aside0 (w45.heap[gb261]? = some (.cells #[.int .i64 t258, .int .i64 t259] 25 (0, 0))) := ⟨h0_⟩
                                                              have n1_ : Aside0 (w45.heap[gb269]? = some (.cells #[.int .i64 t266, .int .i64 t267] 25 (0, 0))) := ⟨h1_⟩
                                                              have n2_ : Aside0 (w45.heap[gb285]? = some (.cells #[.int .i64 0, .int .i64 0] 25 (0, 0))) := ⟨h2_⟩
                                                              have n3_ : Aside0 (w.heap.size ≤ gb285) := ⟨h3_⟩
                                                              have n4_ : Aside0 (w.heap.size ≤ gb285) := ⟨h4_⟩
                                                              have n5_ : Aside0 (gb261 ≠ gb285) := ⟨h5_⟩
                                                              have n6_ : Aside0 (gb285 ≠ gb261) := ⟨h6_⟩
                                                              have n7_ : Aside0 (gb269 ≠ gb285) := ⟨h7_⟩
                                                              have n8_ : Aside0 (gb285 ≠ gb269) := ⟨h8_⟩
                                                              have n9_ : Aside0 (Below w.heap.size w w45) := ⟨h9_⟩
                                                              clear BK261
                                                              clear BK269
                                                              clear HB
                                                              clear h0_ h1_ h2_ h3_ h4_ h5_ h6_ h7_ h8_ h9_
                                                              have BK261 := n0_
                                                              have BK269 := n1_
                                                              have BK285 := n2_
                                                              have GW285 := n3_
                                                              have GE285 := n4_
                                                              have NB261_285 := n5_
                                                              have NB285_261 := n6_
                                                              have NB269_285 := n7_
                                                              have NB285_269 := n8_
                                                              have HB := n9_
                                                              clear n0_ n1_ n2_ n3_ n4_ n5_ n6_ n7_ n8_ n9_
                                                              have hHeld : w45.cell? ⟨gb261, 0, none⟩ = some (.int .i64 t258) ∧ w45.cell? ⟨gb261, 1, none⟩ = some (.int .i64 t259) := hS_
                                                              refine norm_ (a' := ?_) ?_ ?_
                                                              rotate_left
                                                              · simp only [putAll, Act.put, List.setIfInBounds_toArray, List.set_cons_zero, List.set_cons_succ]
                                                                rfl
                                                              refine two_ (i := 0) (j := 4) (Ni := some 105) (Nj := some 109) #[true, true, false, true, false, false, true, false, false, false, false, true, false, false] #[false, true, false, true, true, false, true, false, false, false, false, true, false, false] rfl rfl rfl rfl (two_of HT_.out (by kernel_rfl)) (by decide) (by decide) (fun K hK => ?_) (fun K hK => ?_)
                                                              · skip
                                                                refine Kd.R_lit_step k25 _ 25 ?hg (N := 105) ?hd (xs := ([] : List (S25))) (inner := []) (ok := fun _ => True) (okp := fun _ => True) ?hr ?hp (fun _ hk => hk) trivial (Below.refl _ _) (Nat.le_refl _) (by simp) ?_; (case hd => rfl); (case hg => rfl); (case hr => first | (go_simp; done) | (go_simp; rfl)); (case hp => exact (Reps.none _ _))
                                                                intro v271 w46 ho47 hb hg_ hnew_
                                                                clear hg_ hnew_
                                                                (first | rw [← Ny270.out] at ho47 | (simp only [Int.reduceToNat] at ho47; rw [← Ny270.out] at ho47))
                                                                have n0_ := Aside0.mk (Kd.R_lower (Kd.R_newB (Kd.R_newB (Kd.R_newB ho47 (g := gb261) (o := .cells #[.int .i64 t258, .int .i64 t259] 25 (0, 0)) (by (with_reducible repeat (first | refine blk_drewN ?_ _ | refine blk_drew ?_ | refine blk_alloc ?_ _)); exact BK261.out)) (g := gb269) (o := .cells #[.int .i64 t266, .int .i64 t267] 25 (0, 0)) (by (with_reducible repeat (first | refine blk_drewN ?_ _ | refine blk_drew ?_ | refine blk_alloc ?_ _)); exact BK269.out)) (g := gb285) (o := .cells #[.int .i64 0, .int .i64 0] 25 (0, 0)) (by (with_reducible repeat (first | refine blk_drewN ?_ _ | refine blk_drew ?_ | refine blk_alloc ?_ _)); exact BK285.out)) (below_size (by repeat (first | (with_reducible first | exact HB.out | apply below_alloc | apply pw_below_drewN | apply below_drew1 | refine below_set ?_ GE261.out | refine below_set ?_ GE269.out | refine below_set ?_ GE285.out) | exact HB.out))))
                                                                have n1_ := Aside0.mk (blk_below (g := gb261) (o := .cells #[.int .i64 t258, .int .i64 t259] 25 (0, 0)) (by (with_reducible repeat (first | refine blk_drewN ?_ _ | refine blk_drew ?_ | refine blk_alloc ?_ _)); exact BK261.out) hb)
                                                                have n2_ := Aside0.mk (blk_below (g := gb269) (o := .cells #[.int .i64 t266, .int .i64 t267] 25 (0, 0)) (by (with_reducible repeat (first | refine blk_drewN ?_ _ | refine blk_drew ?_ | refine blk_alloc ?_ _)); exact BK269.out) hb)
                                                                have n3_ := Aside0.mk (blk_below (g := gb285) (o := .cells #[.int .i64 0, .int .i64 0] 25 (0, 0)) (by (with_reducible repeat (first | refine blk_drewN ?_ _ | refine blk_drew ?_ | refine blk_alloc ?_ _)); exact BK285.out) hb)
                                                                have n4_ := Aside0.mk (below_step (by repeat (first | (with_reducible first | exact HB.out | apply below_alloc | apply pw_below_drewN | apply below_drew1 | refine below_set ?_ GE261.out | refine below_set ?_ GE269.out | refine below_set ?_ GE285.out) | exact HB.out)) hb)
                                                                clear BK261
                                                                clear BK269
                                                                clear BK285
                                                                clear HB
                                                                have HO272 := n0_
                                                                have BK261 := n1_
                                                                have BK269 := n2_
                                                                have BK285 := n3_
                                                                have HB := n4_
                                                                clear n0_ n1_ n2_ n3_ n4_
                                                                clear hb ho47
                                                                refine hK.out _ _ ⟨(blk_cell BK261.out 0).trans rfl, (blk_cell BK261.out 1).trans rfl⟩ (fun hHeld => ?_)
                                                                clear hK K
                                                                refine norm_ (a' := ?_) ?_ ?_
                                                                rotate_left
                                                                · show Act.put _ (some 105) _ = _
                                                                  simp only [Act.put, List.setIfInBounds_toArray, List.set_cons_zero, List.set_cons_succ, i64_w, i32_w]
                                                                  rfl
                                                                exact norm_ (by first | (simp only [putAll, Act.put, List.setIfInBounds_toArray, List.set_cons_zero, List.set_cons_succ]; done) | (simp only [putAll, Act.put, List.setIfInBounds_toArray, List.set_cons_zero, List.set_cons_succ]; rfl)) (hJ0_11 (v271, gb285) _ ⟨hHeld, (by (with_reducible repeat (first | apply Kd.R_alloc | apply Kd.R_drewN | apply Kd.R_drew)); exact Kd.R_mono HO272.out (fun _ hk => ⟨hk.1.1.2, ⟨hk.1.2, hk.2⟩⟩)), (by (with_reducible repeat (first | refine blk_drewN ?_ _ | refine blk_drew ?_ | refine blk_alloc ?_ _)); exact BK261.out), (by (with_reducible repeat (first | refine blk_drewN ?_ _ | refine blk_drew ?_ | refine blk_alloc ?_ _)); exact BK269.out), (by (with_reducible repeat (first | refine blk_drewN ?_ _ | refine blk_drew ?_ | refine blk_alloc ?_ _)); exact BK285.out), GW285.out, GE285.out, NB261_285.out, NB285_261.out, NB269_285.out, NB285_269.out, (by repeat (first | (with_reducible first | exact HB.out | apply below_alloc | apply pw_below_drewN | apply below_drew1 | refine below_set ?_ GE261.out | refine below_set ?_ GE269.out | refine below_set ?_ GE285.out) | exact HB.out))⟩)
                                                              · skip
                                                                refine Kd.R_lit_step k25 _ 25 ?hg (N := 109) ?hd (xs := ([(⟨t258, t259⟩ : S25)] : List (S25))) (inner := [.int .i64 t258, .int .i64 t259]) (ok := fun _ => True) (okp := fun _ => True) ?hr ?hp (fun _ hk => hk) trivial (Below.refl _ _) (Nat.le_refl _) (by simp) ?_; (case hd => rfl); (case hg => rfl); (case hr => first | (go_simp; done) | (go_simp; rfl)); (case hp => exact (Reps.c2 (show Kd.M k25 _ _ _ (⟨t258, t259⟩ : S25) [.int .i64 t258, .int .i64 t259] from (k25_mkM _ _ _ (⟨t258, t259⟩ : S25) )) (Reps.none _ _)))
                                                                intro v277 w46 ho47 hb hg_ hnew_
                                                                clear hg_ hnew_
                                                                (first | rw [← Ny276.out] at ho47 | (simp only [Int.reduceToNat] at ho47; rw [← Ny276.out] at ho47))
                                                                have n0_ := Aside0.mk (Kd.R_lower (Kd.R_newB (Kd.R_newB (Kd.R_newB ho47 (g := gb261) (o := .cells #[.int .i64 t258, .int .i64 t259] 25 (0, 0)) (by (with_reducible repeat (first | refine blk_drewN ?_ _ | refine blk_drew ?_ | refine blk_alloc ?_ _)); exact BK261.out)) (g := gb269) (o := .cells #[.int .i64 t266, .int .i64 t267] 25 (0, 0)) (by (with_reducible repeat (first | refine blk_drewN ?_ _ | refine blk_drew ?_ | refine blk_alloc ?_ _)); exact BK269.out)) (g := gb285) (o := .cells #[.int .i64 0, .int .i64 0] 25 (0, 0)) (by (with_reducible repeat (first | refine blk_drewN ?_ _ | refine blk_drew ?_ | refine blk_alloc ?_ _)); exact BK285.out)) (below_size (by repeat (first | (with_reducible first | exact HB.out | apply below_alloc | apply pw_below_drewN | apply below_drew1 | refine below_set ?_ GE261.out | refine below_set ?_ GE269.out | refine below_set ?_ GE285.out) | exact HB.out))))
                                                                have n1_ := Aside0.mk (blk_below (g := gb261) (o := .cells #[.int .i64 t258, .int .i64 t259] 25 (0, 0)) (by (with_reducible repeat (first | refine blk_drewN ?_ _ | refine blk_drew ?_ | refine blk_alloc ?_ _)); exact BK261.out) hb)
                                                                have n2_ := Aside0.mk (blk_below (g := gb269) (o := .cells #[.int .i64 t266, .int .i64 t267] 25 (0, 0)) (by (with_reducible repeat (first | refine blk_drewN ?_ _ | refine blk_drew ?_ | refine blk_alloc ?_ _)); exact BK269.out) hb)
                                                                have n3_ := Aside0.mk (blk_below (g := gb285) (o := .cells #[.int .i64 0, .int .i64 0] 25 (0, 0)) (by (with_reducible repeat (first | refine blk_drewN ?_ _ | refine blk_drew ?_ | refine blk_alloc ?_ _)); exact BK285.out) hb)
                                                                have n4_ := Aside0.mk (below_step (by repeat (first | (with_reducible first | exact HB.out | apply below_alloc | apply pw_below_drewN | apply below_drew1 | refine below_set ?_ GE261.out | refine below_set ?_ GE269.out | refine below_set ?_ GE285.out) | exact HB.out)) hb)
                                                                clear BK261
                                                                clear BK269
                                                                clear BK285
                                                                clear HB
                                                                have HO278 := n0_
                                                                have BK261 := n1_
                                                                have BK269 := n2_
                                                                have BK285 := n3_
                                                                have HB := n4_
                                                                clear n0_ n1_ n2_ n3_ n4_
                                                                clear hb ho47
                                                                refine hK.out _ _ ⟨(blk_cell BK261.out 0).trans rfl, (blk_cell BK261.out 1).trans rfl⟩ (fun hHeld => ?_)
                                                                clear hK K
                                                                refine norm_ (a' := ?_) ?_ ?_
                                                                rotate_left
                                                                · show Act.put _ (some 109) _ = _
                                                                  simp only [Act.put, List.setIfInBounds_toArray, List.set_cons_zero, List.set_cons_succ, i64_w, i32_w]
                                                                  rfl
                                                                exact norm_ (by first | (simp only [putAll, Act.put, List.setIfInBounds_toArray, List.set_cons_zero, List.set_cons_succ]; done) | (simp only [putAll, Act.put, List.setIfInBounds_toArray, List.set_cons_zero, List.set_cons_succ]; rfl)) (hJ4_11 (v277, gb285) _ ⟨hHeld, (by (with_reducible repeat (first | apply Kd.R_alloc | apply Kd.R_drewN | apply Kd.R_drew)); exact Kd.R_mono HO278.out (fun _ hk => ⟨hk.1.1.2, ⟨hk.1.2, hk.2⟩⟩)), (by (with_reducible repeat (first | refine blk_drewN ?_ _ | refine blk_drew ?_ | refine blk_alloc ?_ _)); exact BK261.out), (by (with_reducible repeat (first | refine blk_drewN ?_ _ | refine blk_drew ?_ | refine blk_alloc ?_ _)); exact BK269.out), (by (with_reducible repeat (first | refine blk_drewN ?_ _ | refine blk_drew ?_ | refine blk_alloc ?_ _)); exact BK285.out), GW285.out, GE285.out, NB261_285.out, NB285_261.out, NB269_285.out, NB285_269.out, (by repeat (first | (with_reducible first | exact HB.out | apply below_alloc | apply pw_below_drewN | apply below_drew1 | refine below_set ?_ GE261.out | refine below_set ?_ GE269.out | refine below_set ?_ GE285.out) | exact HB.out))⟩)
                                                          · skip
                                                            rintro v277 w46 ⟨hS_, h0_, h1_, h2_, h3_⟩
                                                            have n0_ : Aside0 (Kd.R k25 25 w46 w.heap.size (fun k_ => k_ ≠ gb261 ∧ k_ ≠ gb269) v277 y276) := ⟨h0_⟩
                                                            have n1_ : Aside0 (w46.heap[gb261]? = some (.cells #[.int .i64 t258, .int .i64 t259] 25 (0, 0))) := ⟨h1_⟩
                                                            have n2_ : Aside0 (w46.heap[gb269]? = some (.cells #[.int .i64 t266, .int .i64 t267] 25 (0, 0))) := ⟨h2_⟩
                                                            have n3_ : Aside0 (Below w.heap.size w w46) := ⟨h3_⟩
                                                            clear BK261
                                                            clear BK269
                                                            clear HB
                                                            clear h0_ h1_ h2_ h3_
                                                            have HO278 := n0_
                                                            have BK261 := n1_
                                                            have BK269 := n2_
                                                            have HB := n3_
                                                            clear n0_ n1_ n2_ n3_
                                                            have hHeld : w46.cell? ⟨gb261, 0, none⟩ = some (.int .i64 t258) ∧ w46.cell? ⟨gb261, 1, none⟩ = some (.int .i64 t259) := hS_
                                                            refine norm_ (a' := ?_) ?_ ?_
                                                            rotate_left
                                                            · simp only [putAll, Act.put, List.setIfInBounds_toArray, List.set_cons_zero, List.set_cons_succ]
                                                              rfl
                                                            refine two_ (i := 0) (j := 11) (Ni := some 105) (Nj := some 13) #[true, true, false, true, true, false, true, false, false, false, false, false, false, false] #[false, true, false, true, true, false, true, false, false, false, false, true, false, false] rfl rfl rfl rfl (two_of HT_.out (by kernel_rfl)) (by decide) (by decide) (fun K hK => ?_) (fun K hK => ?_)
                                                            · skip
                                                              refine Kd.R_lit_step k25 _ 25 ?hg (N := 105) ?hd (xs := ([] : List (S25))) (inner := []) (ok := fun _ => True) (okp := fun _ => True) ?hr ?hp (fun _ hk => hk) trivial (Below.refl _ _) (Nat.le_refl _) (by simp) ?_; (case hd => rfl); (case hg => rfl); (case hr => first | (go_simp; done) | (go_simp; rfl)); (case hp => exact (Reps.none _ _))
                                                              intro v271 w47 ho48 hb hg_ hnew_
                                                              clear hg_ hnew_
                                                              (first | rw [← Ny270.out] at ho48 | (simp only [Int.reduceToNat] at ho48; rw [← Ny270.out] at ho48))
                                                              have n0_ := Aside0.mk (Kd.R_elder' (by (with_reducible repeat (first | apply Kd.R_alloc | apply Kd.R_drewN | apply Kd.R_drew)); exact HO278.out) (Kd.R_base ho48) hb)
                                                              have n1_ := Aside0.mk (Kd.R_lower (Kd.R_newB (Kd.R_newB (Kd.R_new' ho48 (Kd.R_lt (by (with_reducible repeat (first | apply Kd.R_alloc | apply Kd.R_drewN | apply Kd.R_drew)); exact HO278.out))) (g := gb261) (o := .cells #[.int .i64 t258, .int .i64 t259] 25 (0, 0)) (by (with_reducible repeat (first | refine blk_drewN ?_ _ | refine blk_drew ?_ | refine blk_alloc ?_ _)); exact BK261.out)) (g := gb269) (o := .cells #[.int .i64 t266, .int .i64 t267] 25 (0, 0)) (by (with_reducible repeat (first | refine blk_drewN ?_ _ | refine blk_drew ?_ | refine blk_alloc ?_ _)); exact BK269.out)) (below_size (by repeat (first | (with_reducible first | exact HB.out | apply below_alloc | apply pw_below_drewN | apply below_drew1 | refine below_set ?_ GE261.out | refine below_set ?_ GE269.out) | exact HB.out))))
                                                              have n2_ := Aside0.mk (blk_below (g := gb261) (o := .cells #[.int .i64 t258, .int .i64 t259] 25 (0, 0)) (by (with_reducible repeat (first | refine blk_drewN ?_ _ | refine blk_drew ?_ | refine blk_alloc ?_ _)); exact BK261.out) hb)
                                                              have n3_ := Aside0.mk (blk_below (g := gb269) (o := .cells #[.int .i64 t266, .int .i64 t267] 25 (0, 0)) (by (with_reducible repeat (first | refine blk_drewN ?_ _ | refine blk_drew ?_ | refine blk_alloc ?_ _)); exact BK269.out) hb)
                                                              have n4_ := Aside0.mk (below_step (by repeat (first | (with_reducible first | exact HB.out | apply below_alloc | apply pw_below_drewN | apply below_drew1 | refine below_set ?_ GE261.out | refine below_set ?_ GE269.out) | exact HB.out)) hb)
                                                              clear HO278
                                                              clear BK261
                                                              clear BK269
                                                              clear HB
                                                              have HO278 := n0_
                                                              have HO272 := n1_
                                                              have BK261 := n2_
                                                              have BK269 := n3_
                                                              have HB := n4_
                                                              clear n0_ n1_ n2_ n3_ n4_
                                                              clear hb ho48
                                                              refine hK.out _ _ ⟨(blk_cell BK261.out 0).trans rfl, (blk_cell BK261.out 1).trans rfl⟩ (fun hHeld => ?_)
                                                              clear hK K
                                                              refine norm_ (a' := ?_) ?_ ?_
                                                              rotate_left
                                                              · show Act.put _ (some 105) _ = _
                                                                simp only [Act.put, List.setIfInBounds_toArray, List.set_cons_zero, List.set_cons_succ, i64_w, i32_w]
                                                                rfl
                                                              exact norm_ (by first | (simp only [putAll, Act.put, List.setIfInBounds_toArray, List.set_cons_zero, List.set_cons_succ]; done) | (simp only [putAll, Act.put, List.setIfInBounds_toArray, List.set_cons_zero, List.set_cons_succ]; rfl)) (hJ0_4 (v271, v277) _ ⟨hHeld, (by (with_reducible repeat (first | apply Kd.R_alloc | apply Kd.R_drewN | apply Kd.R_drew)); exact Kd.R_mono HO272.out (fun _ hk => ⟨hk.1.1.2, ⟨hk.1.2, hk.2⟩⟩)), (by (with_reducible repeat (first | apply Kd.R_alloc | apply Kd.R_drewN | apply Kd.R_drew)); exact Kd.R_mono HO278.out (fun _ hk => ⟨hk.2, ⟨hk.1.1, hk.1.2⟩⟩)), (by (with_reducible repeat (first | refine blk_drewN ?_ _ | refine blk_drew ?_ | refine blk_alloc ?_ _)); exact BK261.out), (by (with_reducible repeat (first | refine blk_drewN ?_ _ | refine blk_drew ?_ | refine blk_alloc ?_ _)); exact BK269.out), (by repeat (first | (with_reducible first | exact HB.out | apply below_alloc | apply pw_below_drewN | apply below_drew1 | refine below_set ?_ GE261.out | refine below_set ?_ GE269.out) | exact HB.out))⟩)
                                                            · skip
                                                              refine box_step ?hg (N := 13) ?hd (cs := #[.int .i64 0, .int .i64 0]) (t := 25) ?hr ?_; (case hd => rfl); (case hg => rfl); (case hr => first | (go_simp; done) | (go_simp; rfl))
                                                              intro gb285 hg w47 hbox hb
                                                              have n0_ := Aside0.mk (Kd.R_below (Kd.R_elderB (by (with_reducible repeat (first | apply Kd.R_alloc | apply Kd.R_drewN | apply Kd.R_drew)); exact HO278.out) gb285 (Nat.le_of_eq hg.symm)) hb)
                                                              have n1_ := Aside0.mk (blk_below (g := gb261) (o := .cells #[.int .i64 t258, .int .i64 t259] 25 (0, 0)) (by (with_reducible repeat (first | refine blk_drewN ?_ _ | refine blk_drew ?_ | refine blk_alloc ?_ _)); exact BK261.out) hb)
                                                              have n2_ := Aside0.mk (blk_below (g := gb269) (o := .cells #[.int .i64 t266, .int .i64 t267] 25 (0, 0)) (by (with_reducible repeat (first | refine blk_drewN ?_ _ | refine blk_drew ?_ | refine blk_alloc ?_ _)); exact BK269.out) hb)
                                                              have n3_ := Aside0.mk (below_step (by repeat (first | (with_reducible first | exact HB.out | apply below_alloc | apply pw_below_drewN | apply below_drew1 | refine below_set ?_ GE261.out | refine below_set ?_ GE269.out) | exact HB.out)) hb)
                                                              have n4_ := Aside0.mk (hbox)
                                                              have n5_ := Aside0.mk ((by rw [hg]; exact (below_size (by repeat (first | (with_reducible first | exact HB.out | apply below_alloc | apply pw_below_drewN | apply below_drew1 | refine below_set ?_ GE261.out | refine below_set ?_ GE269.out) | exact HB.out))) : w.heap.size ≤ gb285))
                                                              have n6_ := Aside0.mk ((by rw [hg]; exact (below_size (by repeat (first | (with_reducible first | exact HB.out | apply below_alloc | apply pw_below_drewN | apply below_drew1 | refine below_set ?_ GE261.out | refine below_set ?_ GE269.out) | exact HB.out))) : w.heap.size ≤ gb285))
                                                              have n7_ := Aside0.mk ((by rw [hg]; exact Nat.ne_of_lt (blk_lt (g := gb261) (o := .cells #[.int .i64 t258, .int .i64 t259] 25 (0, 0)) (by (with_reducible repeat (first | refine blk_drewN ?_ _ | refine blk_drew ?_ | refine blk_alloc ?_ _)); exact BK261.out)) : gb261 ≠ gb285))
                                                              have n8_ := Aside0.mk ((by rw [hg]; exact Nat.ne_of_gt (blk_lt (g := gb261) (o := .cells #[.int .i64 t258, .int .i64 t259] 25 (0, 0)) (by (with_reducible repeat (first | refine blk_drewN ?_ _ | refine blk_drew ?_ | refine blk_alloc ?_ _)); exact BK261.out)) : gb285 ≠ gb261))
                                                              have n9_ := Aside0.mk ((by rw [hg]; exact Nat.ne_of_lt (blk_lt (g := gb269) (o := .cells #[.int .i64 t266, .int .i64 t267] 25 (0, 0)) (by (with_reducible repeat (first | refine blk_drewN ?_ _ | refine blk_drew ?_ | refine blk_alloc ?_ _)); exact BK269.out)) : gb269 ≠ gb285))
                                                              have n10_ := Aside0.mk ((by rw [hg]; exact Nat.ne_of_gt (blk_lt (g := gb269) (o := .cells #[.int .i64 t266, .int .i64 t267] 25 (0, 0)) (by (with_reducible repeat (first | refine blk_drewN ?_ _ | refine blk_drew ?_ | refine blk_alloc ?_ _)); exact BK269.out)) : gb285 ≠ gb269))
                                                              clear HO278
                                                              clear BK261
                                                              clear BK269
                                                              clear HB
                                                              have HO278 := n0_
                                                              have BK261 := n1_
                                                              have BK269 := n2_
                                                              have HB := n3_
                                                              have BK285 := n4_
                                                              have GW285 := n5_
                                                              have GE285 := n6_
                                                              have NB261_285 := n7_
                                                              have NB285_261 := n8_
                                                              have NB269_285 := n9_
                                                              have NB285_269 := n10_
                                                              clear n0_ n1_ n2_ n3_ n4_ n5_ n6_ n7_ n8_ n9_ n10_
                                                              clear hb hbox hg
                                                              refine hK.out _ _ ⟨(blk_cell BK261.out 0).trans rfl, (blk_cell BK261.out 1).trans rfl⟩ (fun hHeld => ?_)
                                                              clear hK K
                                                              refine norm_ (a' := ?_) ?_ ?_
                                                              rotate_left
                                                              · show Act.put _ (some 13) _ = _
                                                                simp only [Act.put, List.setIfInBounds_toArray, List.set_cons_zero, List.set_cons_succ, i64_w, i32_w]
                                                                rfl
                                                              exact norm_ (by first | (simp only [putAll, Act.put, List.setIfInBounds_toArray, List.set_cons_zero, List.set_cons_succ]; done) | (simp only [putAll, Act.put, List.setIfInBounds_toArray, List.set_cons_zero, List.set_cons_succ]; rfl)) (hJ4_11 (v277, gb285) _ ⟨hHeld, (by (with_reducible repeat (first | apply Kd.R_alloc | apply Kd.R_drewN | apply Kd.R_drew)); exact Kd.R_mono HO278.out (fun _ hk => ⟨hk.1.1, ⟨hk.1.2, hk.2⟩⟩)), (by (with_reducible repeat (first | refine blk_drewN ?_ _ | refine blk_drew ?_ | refine blk_alloc ?_ _)); exact BK261.out), (by (with_reducible repeat (first | refine blk_drewN ?_ _ | refine blk_drew ?_ | refine blk_alloc ?_ _)); exact BK269.out), (by (with_reducible repeat (first | refine blk_drewN ?_ _ | refine blk_drew ?_ | refine blk_alloc ?_ _)); exact BK285.out), GW285.out, GE285.out, NB261_285.out, NB285_261.out, NB269_285.out, NB285_269.out, (by repeat (first | (with_reducible first | exact HB.out | apply below_alloc | apply pw_below_drewN | apply below_drew1 | refine below_set ?_ GE261.out | refine below_set ?_ GE269.out | refine below_set ?_ GE285.out) | exact HB.out))⟩)
                                                        · skip
                                                          rintro v271 w46 ⟨hS_, h0_, h1_, h2_, h3_⟩
                                                          have n0_ : Aside0 (Kd.R k25 25 w46 w.heap.size (fun k_ => k_ ≠ gb261 ∧ k_ ≠ gb269) v271 y270) := ⟨h0_⟩
                                                          have n1_ : Aside0 (w46.heap[gb261]? = some (.cells #[.int .i64 t258, .int .i64 t259] 25 (0, 0))) := ⟨h1_⟩
                                                          have n2_ : Aside0 (w46.heap[gb269]? = some (.cells #[.int .i64 t266, .int .i64 t267] 25 (0, 0))) := ⟨h2_⟩
                                                          have n3_ : Aside0 (Below w.heap.size w w46) := ⟨h3_⟩
                                                          clear BK261
                                                          clear BK269
                                                          clear HB
                                                          clear h0_ h1_ h2_ h3_
                                                          have HO272 := n0_
                                                          have BK261 := n1_
                                                          have BK269 := n2_
                                                          have HB := n3_
                                                          clear n0_ n1_ n2_ n3_
                                                          have hHeld : w46.cell? ⟨gb261, 0, none⟩ = some (.int .i64 t258) ∧ w46.cell? ⟨gb261, 1, none⟩ = some (.int .i64 t259) := hS_
                                                          refine norm_ (a' := ?_) ?_ ?_
                                                          rotate_left
                                                          · simp only [putAll, Act.put, List.setIfInBounds_toArray, List.set_cons_zero, List.set_cons_succ]
                                                            rfl
                                                          refine three_ (i := 2) (j := 4) (k := 11) (Ni := some 107) (Nj := some 109) (Nk := some 13) #[true, true, true, true, false, false, true, false, false, false, false, false, false, false] #[true, true, false, true, true, false, true, false, false, false, false, false, false, false] #[true, true, false, true, false, false, true, false, false, false, false, true, false, false] rfl rfl rfl rfl rfl rfl (three_of HT_.out (by kernel_rfl)) (by decide) (by decide) (by decide) (fun K hK => ?_) (fun K hK => ?_) (fun K hK => ?_)
                                                          · skip
                                                            refine Kd.R_append_rows_step k25 (w0 := w) w.heap.size (by rfl) (.tmp 105) (.tmp 106) 22 25 (.agg #[(.int .i64 0), (.int .i64 0)]) 16 rfl Try.underlying22 info25 rfl (by decide) (by omega) v271 y270 l0 _ _ _ (fun k_ => k_ ≠ gb261 ∧ k_ ≠ gb269) (fun _ => False) rfl rfl ?aO ?aR (fun _ _ h => h) (fun _ h => h.elim) ?aF ?aB ?aS ?aL ?_
                                                            (case aR => repeat (first | exact (Kd.C_below HR0.out HB.out) | (with_reducible refine Kd.C_alloc ?_ _) | (with_reducible refine Kd.C_drewN ?_ _) | (with_reducible refine Kd.C_drew ?_)))
                                                            (case aB => exact (by repeat (first | (with_reducible first | exact HB.out | apply below_alloc | apply pw_below_drewN | apply below_drew1 | refine below_set ?_ GE261.out | refine below_set ?_ GE269.out) | exact HB.out)))
                                                            (case aF => exact (fun k_ hk => ⟨Kd.freshB (g := gb261) (o := .cells #[.int .i64 t258, .int .i64 t259] 25 (0, 0)) (by (with_reducible repeat (first | refine blk_drewN ?_ _ | refine blk_drew ?_ | refine blk_alloc ?_ _)); exact BK261.out) k_ hk, Kd.freshB (g := gb269) (o := .cells #[.int .i64 t266, .int .i64 t267] 25 (0, 0)) (by (with_reducible repeat (first | refine blk_drewN ?_ _ | refine blk_drew ?_ | refine blk_alloc ?_ _)); exact BK269.out) k_ hk⟩))
                                                            (case aO => exact (by (with_reducible repeat (first | apply Kd.R_alloc | apply Kd.R_drewN | apply Kd.R_drew)); exact HO272.out))
                                                            (case aS => exact (below_size (by repeat (first | (with_reducible first | exact HB.out | apply below_alloc | apply pw_below_drewN | apply below_drew1 | refine below_set ?_ GE261.out | refine below_set ?_ GE269.out) | exact HB.out))))
                                                            (case aL => have := LMc35.out; omega)
                                                            intro v274 w47 ho hb hg hat
                                                            rw [← Ny273.out] at ho
                                                            have n0_ := Aside0.mk (blk_grown (g := gb261) (o := .cells #[.int .i64 t258, .int .i64 t259] 25 (0, 0)) (by (with_reducible repeat (first | refine blk_drewN ?_ _ | refine blk_drew ?_ | refine blk_alloc ?_ _)); exact BK261.out) hg (Kd.R_away HO272.out (fun _ hk => hk.1)))
                                                            have n1_ := Aside0.mk (blk_grown (g := gb269) (o := .cells #[.int .i64 t266, .int .i64 t267] 25 (0, 0)) (by (with_reducible repeat (first | refine blk_drewN ?_ _ | refine blk_drew ?_ | refine blk_alloc ?_ _)); exact BK269.out) hg (Kd.R_away HO272.out (fun _ hk => hk.2)))
                                                            have n2_ := Aside0.mk (hb)
                                                            have n3_ := Aside0.mk (ho)
                                                            clear BK261
                                                            clear BK269
                                                            clear HB
                                                            clear HO272
                                                            have BK261 := n0_
                                                            have BK269 := n1_
                                                            have HB := n2_
                                                            have HO275 := n3_
                                                            clear n0_ n1_ n2_ n3_
                                                            clear ho hb hg hat
                                                            refine hK.out _ _ ⟨(blk_cell BK261.out 0).trans rfl, (blk_cell BK261.out 1).trans rfl⟩ (fun hHeld => ?_)
                                                            clear hK K
                                                            refine norm_ (a' := ?_) ?_ ?_
                                                            rotate_left
                                                            · show Act.put _ (some 107) _ = _
                                                              simp only [Act.put, List.setIfInBounds_toArray, List.set_cons_zero, List.set_cons_succ, i64_w, i32_w]
                                                              rfl
                                                            exact norm_ (by first | (simp only [putAll, Act.put, List.setIfInBounds_toArray, List.set_cons_zero, List.set_cons_succ]; done) | (simp only [putAll, Act.put, List.setIfInBounds_toArray, List.set_cons_zero, List.set_cons_succ]; rfl)) (hJ0_2 (v271, v274) _ ⟨hHeld, (by (with_reducible repeat (first | apply Kd.R_alloc | apply Kd.R_drewN | apply Kd.R_drew)); exact HO275.out), (by (with_reducible repeat (first | refine blk_drewN ?_ _ | refine blk_drew ?_ | refine blk_alloc ?_ _)); exact BK261.out), (by (with_reducible repeat (first | refine blk_drewN ?_ _ | refine blk_drew ?_ | refine blk_alloc ?_ _)); exact BK269.out), (by repeat (first | (with_reducible first | exact HB.out | apply below_alloc | apply pw_below_drewN | apply below_drew1 | refine below_set ?_ GE261.out | refine below_set ?_ GE269.out) | exact HB.out))⟩)
                                                          · skip
                                                            refine Kd.R_lit_step k25 _ 25 ?hg (N := 109) ?hd (xs := ([(⟨t258, t259⟩ : S25)] : List (S25))) (inner := [.int .i64 t258, .int .i64 t259]) (ok := fun _ => True) (okp := fun _ => True) ?hr ?hp (fun _ hk => hk) trivial (Below.refl _ _) (Nat.le_refl _) (by simp) ?_; (case hd => rfl); (case hg => rfl); (case hr => first | (go_simp; done) | (go_simp; rfl)); (case hp => exact (Reps.c2 (show Kd.M k25 _ _ _ (⟨t258, t259⟩ : S25) [.int .i64 t258, .int .i64 t259] from (k25_mkM _ _ _ (⟨t258, t259⟩ : S25) )) (Reps.none _ _)))
                                                            intro v277 w47 ho48 hb hg_ hnew_
                                                            clear hg_ hnew_
                                                            (first | rw [← Ny276.out] at ho48 | (simp only [Int.reduceToNat] at ho48; rw [← Ny276.out] at ho48))
                                                            have n0_ := Aside0.mk (Kd.R_elder' (by (with_reducible repeat (first | apply Kd.R_alloc | apply Kd.R_drewN | apply Kd.R_drew)); exact HO272.out) (Kd.R_base ho48) hb)
                                                            have n1_ := Aside0.mk (Kd.R_lower (Kd.R_newB (Kd.R_newB (Kd.R_new' ho48 (Kd.R_lt (by (with_reducible repeat (first | apply Kd.R_alloc | apply Kd.R_drewN | apply Kd.R_drew)); exact HO272.out))) (g := gb261) (o := .cells #[.int .i64 t258, .int .i64 t259] 25 (0, 0)) (by (with_reducible repeat (first | refine blk_drewN ?_ _ | refine blk_drew ?_ | refine blk_alloc ?_ _)); exact BK261.out)) (g := gb269) (o := .cells #[.int .i64 t266, .int .i64 t267] 25 (0, 0)) (by (with_reducible repeat (first | refine blk_drewN ?_ _ | refine blk_drew ?_ | refine blk_alloc ?_ _)); exact BK269.out)) (below_size (by repeat (first | (with_reducible first | exact HB.out | apply below_alloc | apply pw_below_drewN | apply below_drew1 | refine below_set ?_ GE261.out | refine below_set ?_ GE269.out) | exact HB.out))))
                                                            have n2_ := Aside0.mk (blk_below (g := gb261) (o := .cells #[.int .i64 t258, .int .i64 t259] 25 (0, 0)) (by (with_reducible repeat (first | refine blk_drewN ?_ _ | refine blk_drew ?_ | refine blk_alloc ?_ _)); exact BK261.out) hb)
                                                            have n3_ := Aside0.mk (blk_below (g := gb269) (o := .cells #[.int .i64 t266, .int .i64 t267] 25 (0, 0)) (by (with_reducible repeat (first | refine blk_drewN ?_ _ | refine blk_drew ?_ | refine blk_alloc ?_ _)); exact BK269.out) hb)
                                                            have n4_ := Aside0.mk (below_step (by repeat (first | (with_reducible first | exact HB.out | apply below_alloc | apply pw_below_drewN | apply below_drew1 | refine below_set ?_ GE261.out | refine below_set ?_ GE269.out) | exact HB.out)) hb)
                                                            clear HO272
                                                            clear BK261
                                                            clear BK269
                                                            clear HB
                                                            have HO272 := n0_
                                                            have HO278 := n1_
                                                            have BK261 := n2_
                                                            have BK269 := n3_
                                                            have HB := n4_
                                                            clear n0_ n1_ n2_ n3_ n4_
                                                            clear hb ho48
                                                            refine hK.out _ _ ⟨(blk_cell BK261.out 0).trans rfl, (blk_cell BK261.out 1).trans rfl⟩ (fun hHeld => ?_)
                                                            clear hK K
                                                            refine norm_ (a' := ?_) ?_ ?_
                                                            rotate_left
                                                            · show Act.put _ (some 109) _ = _
                                                              simp only [Act.put, List.setIfInBounds_toArray, List.set_cons_zero, List.set_cons_succ, i64_w, i32_w]
                                                              rfl
                                                            exact norm_ (by first | (simp only [putAll, Act.put, List.setIfInBounds_toArray, List.set_cons_zero, List.set_cons_succ]; done) | (simp only [putAll, Act.put, List.setIfInBounds_toArray, List.set_cons_zero, List.set_cons_succ]; rfl)) (hJ0_4 (v271, v277) _ ⟨hHeld, (by (with_reducible repeat (first | apply Kd.R_alloc | apply Kd.R_drewN | apply Kd.R_drew)); exact Kd.R_mono HO272.out (fun _ hk => ⟨hk.2, ⟨hk.1.1, hk.1.2⟩⟩)), (by (with_reducible repeat (first | apply Kd.R_alloc | apply Kd.R_drewN | apply Kd.R_drew)); exact Kd.R_mono HO278.out (fun _ hk => ⟨hk.1.1.2, ⟨hk.1.2, hk.2⟩⟩)), (by (with_reducible repeat (first | refine blk_drewN ?_ _ | refine blk_drew ?_ | refine blk_alloc ?_ _)); exact BK261.out), (by (with_reducible repeat (first | refine blk_drewN ?_ _ | refine blk_drew ?_ | refine blk_alloc ?_ _)); exact BK269.out), (by repeat (first | (with_reducible first | exact HB.out | apply below_alloc | apply pw_below_drewN | apply below_drew1 | refine below_set ?_ GE261.out | refine below_set ?_ GE269.out) | exact HB.out))⟩)
                                                          · skip
                                                            refine box_step ?hg (N := 13) ?hd (cs := #[.int .i64 0, .int .i64 0]) (t := 25) ?hr ?_; (case hd => rfl); (case hg => rfl); (case hr => first | (go_simp; done) | (go_simp; rfl))
                                                            intro gb285 hg w47 hbox hb
                                                            have n0_ := Aside0.mk (Kd.R_below (Kd.R_elderB (by (with_reducible repeat (first | apply Kd.R_alloc | apply Kd.R_drewN | apply Kd.R_drew)); exact HO272.out) gb285 (Nat.le_of_eq hg.symm)) hb)
                                                            have n1_ := Aside0.mk (blk_below (g := gb261) (o := .cells #[.int .i64 t258, .int .i64 t259] 25 (0, 0)) (by (with_reducible repeat (first | refine blk_drewN ?_ _ | refine blk_drew ?_ | refine blk_alloc ?_ _)); exact BK261.out) hb)
                                                            have n2_ := Aside0.mk (blk_below (g := gb269) (o := .cells #[.int .i64 t266, .int .i64 t267] 25 (0, 0)) (by (with_reducible repeat (first | refine blk_drewN ?_ _ | refine blk_drew ?_ | refine blk_alloc ?_ _)); exact BK269.out) hb)
                                                            have n3_ := Aside0.mk (below_step (by repeat (first | (with_reducible first | exact HB.out | apply below_alloc | apply pw_below_drewN | apply below_drew1 | refine below_set ?_ GE261.out | refine below_set ?_ GE269.out) | exact HB.out)) hb)
                                                            have n4_ := Aside0.mk (hbox)
                                                            have n5_ := Aside0.mk ((by rw [hg]; exact (below_size (by repeat (first | (with_reducible first | exact HB.out | apply below_alloc | apply pw_below_drewN | apply below_drew1 | refine below_set ?_ GE261.out | refine below_set ?_ GE269.out) | exact HB.out))) : w.heap.size ≤ gb285))
                                                            have n6_ := Aside0.mk ((by rw [hg]; exact (below_size (by repeat (first | (with_reducible first | exact HB.out | apply below_alloc | apply pw_below_drewN | apply below_drew1 | refine below_set ?_ GE261.out | refine below_set ?_ GE269.out) | exact HB.out))) : w.heap.size ≤ gb285))
                                                            have n7_ := Aside0.mk ((by rw [hg]; exact Nat.ne_of_lt (blk_lt (g := gb261) (o := .cells #[.int .i64 t258, .int .i64 t259] 25 (0, 0)) (by (with_reducible repeat (first | refine blk_drewN ?_ _ | refine blk_drew ?_ | refine blk_alloc ?_ _)); exact BK261.out)) : gb261 ≠ gb285))
                                                            have n8_ := Aside0.mk ((by rw [hg]; exact Nat.ne_of_gt (blk_lt (g := gb261) (o := .cells #[.int .i64 t258, .int .i64 t259] 25 (0, 0)) (by (with_reducible repeat (first | refine blk_drewN ?_ _ | refine blk_drew ?_ | refine blk_alloc ?_ _)); exact BK261.out)) : gb285 ≠ gb261))
                                                            have n9_ := Aside0.mk ((by rw [hg]; exact Nat.ne_of_lt (blk_lt (g := gb269) (o := .cells #[.int .i64 t266, .int .i64 t267] 25 (0, 0)) (by (with_reducible repeat (first | refine blk_drewN ?_ _ | refine blk_drew ?_ | refine blk_alloc ?_ _)); exact BK269.out)) : gb269 ≠ gb285))
                                                            have n10_ := Aside0.mk ((by rw [hg]; exact Nat.ne_of_gt (blk_lt (g := gb269) (o := .cells #[.int .i64 t266, .int .i64 t267] 25 (0, 0)) (by (with_reducible repeat (first | refine blk_drewN ?_ _ | refine blk_drew ?_ | refine blk_alloc ?_ _)); exact BK269.out)) : gb285 ≠ gb269))
                                                            clear HO272
                                                            clear BK261
                                                            clear BK269
                                                            clear HB
                                                            have HO272 := n0_
                                                            have BK261 := n1_
                                                            have BK269 := n2_
                                                            have HB := n3_
                                                            have BK285 := n4_
                                                            have GW285 := n5_
                                                            have GE285 := n6_
                                                            have NB261_285 := n7_
                                                            have NB285_261 := n8_
                                                            have NB269_285 := n9_
                                                            have NB285_269 := n10_
                                                            clear n0_ n1_ n2_ n3_ n4_ n5_ n6_ n7_ n8_ n9_ n10_
                                                            clear hb hbox hg
                                                            refine hK.out _ _ ⟨(blk_cell BK261.out 0).trans rfl, (blk_cell BK261.out 1).trans rfl⟩ (fun hHeld => ?_)
                                                            clear hK K
                                                            refine norm_ (a' := ?_) ?_ ?_
                                                            rotate_left
                                                            · show Act.put _ (some 13) _ = _
                                                              simp only [Act.put, List.setIfInBounds_toArray, List.set_cons_zero, List.set_cons_succ, i64_w, i32_w]
                                                              rfl
                                                            exact norm_ (by first | (simp only [putAll, Act.put, List.setIfInBounds_toArray, List.set_cons_zero, List.set_cons_succ]; done) | (simp only [putAll, Act.put, List.setIfInBounds_toArray, List.set_cons_zero, List.set_cons_succ]; rfl)) (hJ0_11 (v271, gb285) _ ⟨hHeld, (by (with_reducible repeat (first | apply Kd.R_alloc | apply Kd.R_drewN | apply Kd.R_drew)); exact Kd.R_mono HO272.out (fun _ hk => ⟨hk.1.1, ⟨hk.1.2, hk.2⟩⟩)), (by (with_reducible repeat (first | refine blk_drewN ?_ _ | refine blk_drew ?_ | refine blk_alloc ?_ _)); exact BK261.out), (by (with_reducible repeat (first | refine blk_drewN ?_ _ | refine blk_drew ?_ | refine blk_alloc ?_ _)); exact BK269.out), (by (with_reducible repeat (first | refine blk_drewN ?_ _ | refine blk_drew ?_ | refine blk_alloc ?_ _)); exact BK285.out), GW285.out, GE285.out, NB261_285.out, NB285_261.out, NB269_285.out, NB285_269.out, (by repeat (first | (with_reducible first | exact HB.out | apply below_alloc | apply pw_below_drewN | apply below_drew1 | refine below_set ?_ GE261.out | refine below_set ?_ GE269.out | refine below_set ?_ GE285.out) | exact HB.out))⟩)
                                                      · skip
                                                        rintro ⟨v277, gb285⟩ w47 ⟨hS_, h0_, h1_, h2_, h3_, h4_, h5_, h6_, h7_, h8_, h9_, h10_⟩
                                                        have n0_ : Aside0 (Kd.R k25 25 w47 w.heap.size (fun k_ => k_ ≠ gb261 ∧ k_ ≠ gb269 ∧ k_ ≠ gb285) v277 y276) := ⟨h0_⟩
                                                        have n1_ : Aside0 (w47.heap[gb261]? = some (.cells #[.int .i64 t258, .int .i64 t259] 25 (0, 0))) := ⟨h1_⟩
                                                        have n2_ : Aside0 (w47.heap[gb269]? = some (.cells #[.int .i64 t266, .int .i64 t267] 25 (0, 0))) := ⟨h2_⟩
                                                        have n3_ : Aside0 (w47.heap[gb285]? = some (.cells #[.int .i64 0, .int .i64 0] 25 (0, 0))) := ⟨h3_⟩
                                                        have n4_ : Aside0 (w.heap.size ≤ gb285) := ⟨h4_⟩
                                                        have n5_ : Aside0 (w.heap.size ≤ gb285) := ⟨h5_⟩
                                                        have n6_ : Aside0 (gb261 ≠ gb285) := ⟨h6_⟩
                                                        have n7_ : Aside0 (gb285 ≠ gb261) := ⟨h7_⟩
                                                        have n8_ : Aside0 (gb269 ≠ gb285) := ⟨h8_⟩
                                                        have n9_ : Aside0 (gb285 ≠ gb269) := ⟨h9_⟩
                                                        have n10_ : Aside0 (Below w.heap.size w w47) := ⟨h10_⟩
                                                        clear BK261
                                                        clear BK269
                                                        clear HB
                                                        clear h0_ h1_ h2_ h3_ h4_ h5_ h6_ h7_ h8_ h9_ h10_
                                                        have HO278 := n0_
                                                        have BK261 := n1_
                                                        have BK269 := n2_
                                                        have BK285 := n3_
                                                        have GW285 := n4_
                                                        have GE285 := n5_
                                                        have NB261_285 := n6_
                                                        have NB285_261 := n7_
                                                        have NB269_285 := n8_
                                                        have NB285_269 := n9_
                                                        have HB := n10_
                                                        clear n0_ n1_ n2_ n3_ n4_ n5_ n6_ n7_ n8_ n9_ n10_
                                                        have hHeld : w47.cell? ⟨gb261, 0, none⟩ = some (.int .i64 t258) ∧ w47.cell? ⟨gb261, 1, none⟩ = some (.int .i64 t259) := hS_
                                                        refine norm_ (a' := ?_) ?_ ?_
                                                        rotate_left
                                                        · simp only [putAll, Act.put, List.setIfInBounds_toArray, List.set_cons_zero, List.set_cons_succ]
                                                          rfl
                                                        refine one_ (i := 0) (N := some 105) #[true, true, false, true, true, false, true, false, false, false, false, true, false, false] rfl rfl (one_of HT_.out (by kernel_rfl)) (by decide) (fun K hK => ?_)
                                                        refine Kd.R_lit_step k25 _ 25 ?hg (N := 105) ?hd (xs := ([] : List (S25))) (inner := []) (ok := fun _ => True) (okp := fun _ => True) ?hr ?hp (fun _ hk => hk) trivial (Below.refl _ _) (Nat.le_refl _) (by simp) ?_; (case hd => rfl); (case hg => rfl); (case hr => first | (go_simp; done) | (go_simp; rfl)); (case hp => exact (Reps.none _ _))
                                                        intro v271 w48 ho49 hb hg_ hnew_
                                                        clear hg_ hnew_
                                                        (first | rw [← Ny270.out] at ho49 | (simp only [Int.reduceToNat] at ho49; rw [← Ny270.out] at ho49))
                                                        have n0_ := Aside0.mk (Kd.R_elder' (by (with_reducible repeat (first | apply Kd.R_alloc | apply Kd.R_drewN | apply Kd.R_drew)); exact HO278.out) (Kd.R_base ho49) hb)
                                                        have n1_ := Aside0.mk (Kd.R_lower (Kd.R_newB (Kd.R_newB (Kd.R_newB (Kd.R_new' ho49 (Kd.R_lt (by (with_reducible repeat (first | apply Kd.R_alloc | apply Kd.R_drewN | apply Kd.R_drew)); exact HO278.out))) (g := gb261) (o := .cells #[.int .i64 t258, .int .i64 t259] 25 (0, 0)) (by (with_reducible repeat (first | refine blk_drewN ?_ _ | refine blk_drew ?_ | refine blk_alloc ?_ _)); exact BK261.out)) (g := gb269) (o := .cells #[.int .i64 t266, .int .i64 t267] 25 (0, 0)) (by (with_reducible repeat (first | refine blk_drewN ?_ _ | refine blk_drew ?_ | refine blk_alloc ?_ _)); exact BK269.out)) (g := gb285) (o := .cells #[.int .i64 0, .int .i64 0] 25 (0, 0)) (by (with_reducible repeat (first | refine blk_drewN ?_ _ | refine blk_drew ?_ | refine blk_alloc ?_ _)); exact BK285.out)) (below_size (by repeat (first | (with_reducible first | exact HB.out | apply below_alloc | apply pw_below_drewN | apply below_drew1 | refine below_set ?_ GE261.out | refine below_set ?_ GE269.out | refine below_set ?_ GE285.out) | exact HB.out))))
                                                        have n2_ := Aside0.mk (blk_below (g := gb261) (o := .cells #[.int .i64 t258, .int .i64 t259] 25 (0, 0)) (by (with_reducible repeat (first | refine blk_drewN ?_ _ | refine blk_drew ?_ | refine blk_alloc ?_ _)); exact BK261.out) hb)
                                                        have n3_ := Aside0.mk (blk_below (g := gb269) (o := .cells #[.int .i64 t266, .int .i64 t267] 25 (0, 0)) (by (with_reducible repeat (first | refine blk_drewN ?_ _ | refine blk_drew ?_ | refine blk_alloc ?_ _)); exact BK269.out) hb)
                                                        have n4_ := Aside0.mk (blk_below (g := gb285) (o := .cells #[.int .i64 0, .int .i64 0] 25 (0, 0)) (by (with_reducible repeat (first | refine blk_drewN ?_ _ | refine blk_drew ?_ | refine blk_alloc ?_ _)); exact BK285.out) hb)
                                                        have n5_ := Aside0.mk (below_step (by repeat (first | (with_reducible first | exact HB.out | apply below_alloc | apply pw_below_drewN | apply below_drew1 | refine below_set ?_ GE261.out | refine below_set ?_ GE269.out | refine below_set ?_ GE285.out) | exact HB.out)) hb)
                                                        clear HO278
                                                        clear BK261
                                                        clear BK269
                                                        clear BK285
                                                        clear HB
                                                        have HO278 := n0_
                                                        have HO272 := n1_
                                                        have BK261 := n2_
                                                        have BK269 := n3_
                                                        have BK285 := n4_
                                                        have HB := n5_
                                                        clear n0_ n1_ n2_ n3_ n4_ n5_
                                                        clear hb ho49
                                                        refine hK.out _ _ ⟨(blk_cell BK261.out 0).trans rfl, (blk_cell BK261.out 1).trans rfl⟩ (fun hHeld => ?_)
                                                        clear hK K
                                                        refine norm_ (a' := ?_) ?_ ?_
                                                        rotate_left
                                                        · show Act.put _ (some 105) _ = _
                                                          simp only [Act.put, List.setIfInBounds_toArray, List.set_cons_zero, List.set_cons_succ, i64_w, i32_w]
                                                          rfl
                                                        exact norm_ (by first | (simp only [putAll, Act.put, List.setIfInBounds_toArray, List.set_cons_zero, List.set_cons_succ]; done) | (simp only [putAll, Act.put, List.setIfInBounds_toArray, List.set_cons_zero, List.set_cons_succ]; rfl)) (hJ0_4_11 (v271, v277, gb285) _ ⟨hHeld, (by (with_reducible repeat (first | apply Kd.R_alloc | apply Kd.R_drewN | apply Kd.R_drew)); exact Kd.R_mono HO272.out (fun _ hk => ⟨hk.1.1.1.2, ⟨hk.1.1.2, ⟨hk.1.2, hk.2⟩⟩⟩)), (by (with_reducible repeat (first | apply Kd.R_alloc | apply Kd.R_drewN | apply Kd.R_drew)); exact Kd.R_mono HO278.out (fun _ hk => ⟨hk.2, ⟨hk.1.1, ⟨hk.1.2.1, hk.1.2.2⟩⟩⟩)), (by (with_reducible repeat (first | refine blk_drewN ?_ _ | refine blk_drew ?_ | refine blk_alloc ?_ _)); exact BK261.out), (by (with_reducible repeat (first | refine blk_drewN ?_ _ | refine blk_drew ?_ | refine blk_alloc ?_ _)); exact BK269.out), (by (with_reducible repeat (first | refine blk_drewN ?_ _ | refine blk_drew ?_ | refine blk_alloc ?_ _)); exact BK285.out), GW285.out, GE285.out, NB261_285.out, NB285_261.out, NB269_285.out, NB285_269.out, (by repeat (first | (with_reducible first | exact HB.out | apply below_alloc | apply pw_below_drewN | apply below_drew1 | refine below_set ?_ GE261.out | refine below_set ?_ GE269.out | refine below_set ?_ GE285.out) | exact HB.out))⟩)
                                                    · skip
                                                      rintro ⟨v271, gb285⟩ w47 ⟨hS_, h0_, h1_, h2_, h3_, h4_, h5_, h6_, h7_, h8_, h9_, h10_⟩
                                                      have n0_ : Aside0 (Kd.R k25 25 w47 w.heap.size (fun k_ => k_ ≠ gb261 ∧ k_ ≠ gb269 ∧ k_ ≠ gb285) v271 y270) := ⟨h0_⟩
                                                      have n1_ : Aside0 (w47.heap[gb261]? = some (.cells #[.int .i64 t258, .int .i64 t259] 25 (0, 0))) := ⟨h1_⟩
                                                      have n2_ : Aside0 (w47.heap[gb269]? = some (.cells #[.int .i64 t266, .int .i64 t267] 25 (0, 0))) := ⟨h2_⟩
                                                      have n3_ : Aside0 (w47.heap[gb285]? = some (.cells #[.int .i64 0, .int .i64 0] 25 (0, 0))) := ⟨h3_⟩
                                                      have n4_ : Aside0 (w.heap.size ≤ gb285) := ⟨h4_⟩
                                                      have n5_ : Aside0 (w.heap.size ≤ gb285) := ⟨h5_⟩
                                                      have n6_ : Aside0 (gb261 ≠ gb285) := ⟨h6_⟩
                                                      have n7_ : Aside0 (gb285 ≠ gb261) := ⟨h7_⟩
                                                      have n8_ : Aside0 (gb269 ≠ gb285) := ⟨h8_⟩
                                                      have n9_ : Aside0 (gb285 ≠ gb269) := ⟨h9_⟩
                                                      have n10_ : Aside0 (Below w.heap.size w w47) := ⟨h10_⟩
                                                      clear BK261
                                                      clear BK269
                                                      clear HB
                                                      clear h0_ h1_ h2_ h3_ h4_ h5_ h6_ h7_ h8_ h9_ h10_
                                                      have HO272 := n0_
                                                      have BK261 := n1_
                                                      have BK269 := n2_
                                                      have BK285 := n3_
                                                      have GW285 := n4_
                                                      have GE285 := n5_
                                                      have NB261_285 := n6_
                                                      have NB285_261 := n7_
                                                      have NB269_285 := n8_
                                                      have NB285_269 := n9_
                                                      have HB := n10_
                                                      clear n0_ n1_ n2_ n3_ n4_ n5_ n6_ n7_ n8_ n9_ n10_
                                                      have hHeld : w47.cell? ⟨gb261, 0, none⟩ = some (.int .i64 t258) ∧ w47.cell? ⟨gb261, 1, none⟩ = some (.int .i64 t259) := hS_
                                                      refine norm_ (a' := ?_) ?_ ?_
                                                      rotate_left
                                                      · simp only [putAll, Act.put, List.setIfInBounds_toArray, List.set_cons_zero, List.set_cons_succ]
                                                        rfl
                                                      refine two_ (i := 2) (j := 4) (Ni := some 107) (Nj := some 109) #[true, true, true, true, false, false, true, false, false, false, false, true, false, false] #[true, true, false, true, true, false, true, false, false, false, false, true, false, false] rfl rfl rfl rfl (two_of HT_.out (by kernel_rfl)) (by decide) (by decide) (fun K hK => ?_) (fun K hK => ?_)
                                                      · skip
                                                        refine Kd.R_append_rows_step k25 (w0 := w) w.heap.size (by rfl) (.tmp 105) (.tmp 106) 22 25 (.agg #[(.int .i64 0), (.int .i64 0)]) 16 rfl Try.underlying22 info25 rfl (by decide) (by omega) v271 y270 l0 _ _ _ (fun k_ => k_ ≠ gb261 ∧ k_ ≠ gb269 ∧ k_ ≠ gb285) (fun _ => False) rfl rfl ?aO ?aR (fun _ _ h => h) (fun _ h => h.elim) ?aF ?aB ?aS ?aL ?_
                                                        (case aR => repeat (first | exact (Kd.C_below HR0.out HB.out) | (with_reducible refine Kd.C_alloc ?_ _) | (with_reducible refine Kd.C_drewN ?_ _) | (with_reducible refine Kd.C_drew ?_)))
                                                        (case aB => exact (by repeat (first | (with_reducible first | exact HB.out | apply below_alloc | apply pw_below_drewN | apply below_drew1 | refine below_set ?_ GE261.out | refine below_set ?_ GE269.out | refine below_set ?_ GE285.out) | exact HB.out)))
                                                        (case aF => exact (fun k_ hk => ⟨Kd.freshB (g := gb261) (o := .cells #[.int .i64 t258, .int .i64 t259] 25 (0, 0)) (by (with_reducible repeat (first | refine blk_drewN ?_ _ | refine blk_drew ?_ | refine blk_alloc ?_ _)); exact BK261.out) k_ hk, Kd.freshB (g := gb269) (o := .cells #[.int .i64 t266, .int .i64 t267] 25 (0, 0)) (by (with_reducible repeat (first | refine blk_drewN ?_ _ | refine blk_drew ?_ | refine blk_alloc ?_ _)); exact BK269.out) k_ hk, Kd.freshB (g := gb285) (o := .cells #[.int .i64 0, .int .i64 0] 25 (0, 0)) (by (with_reducible repeat (first | refine blk_drewN ?_ _ | refine blk_drew ?_ | refine blk_alloc ?_ _)); exact BK285.out) k_ hk⟩))
                                                        (case aO => exact (by (with_reducible repeat (first | apply Kd.R_alloc | apply Kd.R_drewN | apply Kd.R_drew)); exact HO272.out))
                                                        (case aS => exact (below_size (by repeat (first | (with_reducible first | exact HB.out | apply below_alloc | apply pw_below_drewN | apply below_drew1 | refine below_set ?_ GE261.out | refine below_set ?_ GE269.out | refine below_set ?_ GE285.out) | exact HB.out))))
                                                        (case aL => have := LMc35.out; omega)
                                                        intro v274 w48 ho hb hg hat
                                                        rw [← Ny273.out] at ho
                                                        have n0_ := Aside0.mk (blk_grown (g := gb261) (o := .cells #[.int .i64 t258, .int .i64 t259] 25 (0, 0)) (by (with_reducible repeat (first | refine blk_drewN ?_ _ | refine blk_drew ?_ | refine blk_alloc ?_ _)); exact BK261.out) hg (Kd.R_away HO272.out (fun _ hk => hk.1)))
                                                        have n1_ := Aside0.mk (blk_grown (g := gb269) (o := .cells #[.int .i64 t266, .int .i64 t267] 25 (0, 0)) (by (with_reducible repeat (first | refine blk_drewN ?_ _ | refine blk_drew ?_ | refine blk_alloc ?_ _)); exact BK269.out) hg (Kd.R_away HO272.out (fun _ hk => hk.2.1)))
                                                        have n2_ := Aside0.mk (blk_grown (g := gb285) (o := .cells #[.int .i64 0, .int .i64 0] 25 (0, 0)) (by (with_reducible repeat (first | refine blk_drewN ?_ _ | refine blk_drew ?_ | refine blk_alloc ?_ _)); exact BK285.out) hg (Kd.R_away HO272.out (fun _ hk => hk.2.2)))
                                                        have n3_ := Aside0.mk (hb)
                                                        have n4_ := Aside0.mk (ho)
                                                        clear BK261
                                                        clear BK269
                                                        clear BK285
                                                        clear HB
                                                        clear HO272
                                                        have BK261 := n0_
                                                        have BK269 := n1_
                                                        have BK285 := n2_
                                                        have HB := n3_
                                                        have HO275 := n4_
                                                        clear n0_ n1_ n2_ n3_ n4_
                                                        clear ho hb hg hat
                                                        refine hK.out _ _ ⟨(blk_cell BK261.out 0).trans rfl, (blk_cell BK261.out 1).trans rfl⟩ (fun hHeld => ?_)
                                                        clear hK K
                                                        refine norm_ (a' := ?_) ?_ ?_
                                                        rotate_left
                                                        · show Act.put _ (some 107) _ = _
                                                          simp only [Act.put, List.setIfInBounds_toArray, List.set_cons_zero, List.set_cons_succ, i64_w, i32_w]
                                                          rfl
                                                        exact norm_ (by first | (simp only [putAll, Act.put, List.setIfInBounds_toArray, List.set_cons_zero, List.set_cons_succ]; done) | (simp only [putAll, Act.put, List.setIfInBounds_toArray, List.set_cons_zero, List.set_cons_succ]; rfl)) (hJ0_2_11 (v271, v274, gb285) _ ⟨hHeld, (by (with_reducible repeat (first | apply Kd.R_alloc | apply Kd.R_drewN | apply Kd.R_drew)); exact HO275.out), (by (with_reducible repeat (first | refine blk_drewN ?_ _ | refine blk_drew ?_ | refine blk_alloc ?_ _)); exact BK261.out), (by (with_reducible repeat (first | refine blk_drewN ?_ _ | refine blk_drew ?_ | refine blk_alloc ?_ _)); exact BK269.out), (by (with_reducible repeat (first | refine blk_drewN ?_ _ | refine blk_drew ?_ | refine blk_alloc ?_ _)); exact BK285.out), GW285.out, GE285.out, NB261_285.out, NB285_261.out, NB269_285.out, NB285_269.out, (by repeat (first | (with_reducible first | exact HB.out | apply below_alloc | apply pw_below_drewN | apply below_drew1 | refine below_set ?_ GE261.out | refine below_set ?_ GE269.out | refine below_set ?_ GE285.out) | exact HB.out))⟩)
                                                      · skip
                                                        refine Kd.R_lit_step k25 _ 25 ?hg (N := 109) ?hd (xs := ([(⟨t258, t259⟩ : S25)] : List (S25))) (inner := [.int .i64 t258, .int .i64 t259]) (ok := fun _ => True) (okp := fun _ => True) ?hr ?hp (fun _ hk => hk) trivial (Below.refl _ _) (Nat.le_refl _) (by simp) ?_; (case hd => rfl); (case hg => rfl); (case hr => first | (go_simp; done) | (go_simp; rfl)); (case hp => exact (Reps.c2 (show Kd.M k25 _ _ _ (⟨t258, t259⟩ : S25) [.int .i64 t258, .int .i64 t259] from (k25_mkM _ _ _ (⟨t258, t259⟩ : S25) )) (Reps.none _ _)))
                                                        intro v277 w48 ho49 hb hg_ hnew_
                                                        clear hg_ hnew_
                                                        (first | rw [← Ny276.out] at ho49 | (simp only [Int.reduceToNat] at ho49; rw [← Ny276.out] at ho49))
                                                        have n0_ := Aside0.mk (Kd.R_elder' (by (with_reducible repeat (first | apply Kd.R_alloc | apply Kd.R_drewN | apply Kd.R_drew)); exact HO272.out) (Kd.R_base ho49) hb)
                                                        have n1_ := Aside0.mk (Kd.R_lower (Kd.R_newB (Kd.R_newB (Kd.R_newB (Kd.R_new' ho49 (Kd.R_lt (by (with_reducible repeat (first | apply Kd.R_alloc | apply Kd.R_drewN | apply Kd.R_drew)); exact HO272.out))) (g := gb261) (o := .cells #[.int .i64 t258, .int .i64 t259] 25 (0, 0)) (by (with_reducible repeat (first | refine blk_drewN ?_ _ | refine blk_drew ?_ | refine blk_alloc ?_ _)); exact BK261.out)) (g := gb269) (o := .cells #[.int .i64 t266, .int .i64 t267] 25 (0, 0)) (by (with_reducible repeat (first | refine blk_drewN ?_ _ | refine blk_drew ?_ | refine blk_alloc ?_ _)); exact BK269.out)) (g := gb285) (o := .cells #[.int .i64 0, .int .i64 0] 25 (0, 0)) (by (with_reducible repeat (first | refine blk_drewN ?_ _ | refine blk_drew ?_ | refine blk_alloc ?_ _)); exact BK285.out)) (below_size (by repeat (first | (with_reducible first | exact HB.out | apply below_alloc | apply pw_below_drewN | apply below_drew1 | refine below_set ?_ GE261.out | refine below_set ?_ GE269.out | refine below_set ?_ GE285.out) | exact HB.out))))
                                                        have n2_ := Aside0.mk (blk_below (g := gb261) (o := .cells #[.int .i64 t258, .int .i64 t259] 25 (0, 0)) (by (with_reducible repeat (first | refine blk_drewN ?_ _ | refine blk_drew ?_ | refine blk_alloc ?_ _)); exact BK261.out) hb)
                                                        have n3_ := Aside0.mk (blk_below (g := gb269) (o := .cells #[.int .i64 t266, .int .i64 t267] 25 (0, 0)) (by (with_reducible repeat (first | refine blk_drewN ?_ _ | refine blk_drew ?_ | refine blk_alloc ?_ _)); exact BK269.out) hb)
                                                        have n4_ := Aside0.mk (blk_below (g := gb285) (o := .cells #[.int .i64 0, .int .i64 0] 25 (0, 0)) (by (with_reducible repeat (first | refine blk_drewN ?_ _ | refine blk_drew ?_ | refine blk_alloc ?_ _)); exact BK285.out) hb)
                                                        have n5_ := Aside0.mk (below_step (by repeat (first | (with_reducible first | exact HB.out | apply below_alloc | apply pw_below_drewN | apply below_drew1 | refine below_set ?_ GE261.out | refine below_set ?_ GE269.out | refine below_set ?_ GE285.out) | exact HB.out)) hb)
                                                        clear HO272
                                                        clear BK261
                                                        clear BK269
                                                        clear BK285
                                                        clear HB
                                                        have HO272 := n0_
                                                        have HO278 := n1_
                                                        have BK261 := n2_
                                                        have BK269 := n3_
                                                        have BK285 := n4_
                                                        have HB := n5_
                                                        clear n0_ n1_ n2_ n3_ n4_ n5_
                                                        clear hb ho49
                                                        refine hK.out _ _ ⟨(blk_cell BK261.out 0).trans rfl, (blk_cell BK261.out 1).trans rfl⟩ (fun hHeld => ?_)
                                                        clear hK K
                                                        refine norm_ (a' := ?_) ?_ ?_
                                                        rotate_left
                                                        · show Act.put _ (some 109) _ = _
                                                          simp only [Act.put, List.setIfInBounds_toArray, List.set_cons_zero, List.set_cons_succ, i64_w, i32_w]
                                                          rfl
                                                        exact norm_ (by first | (simp only [putAll, Act.put, List.setIfInBounds_toArray, List.set_cons_zero, List.set_cons_succ]; done) | (simp only [putAll, Act.put, List.setIfInBounds_toArray, List.set_cons_zero, List.set_cons_succ]; rfl)) (hJ0_4_11 (v271, v277, gb285) _ ⟨hHeld, (by (with_reducible repeat (first | apply Kd.R_alloc | apply Kd.R_drewN | apply Kd.R_drew)); exact Kd.R_mono HO272.out (fun _ hk => ⟨hk.2, ⟨hk.1.1, ⟨hk.1.2.1, hk.1.2.2⟩⟩⟩)), (by (with_reducible repeat (first | apply Kd.R_alloc | apply Kd.R_drewN | apply Kd.R_drew)); exact Kd.R_mono HO278.out (fun _ hk => ⟨hk.1.1.1.2, ⟨hk.1.1.2, ⟨hk.1.2, hk.2⟩⟩⟩)), (by (with_reducible repeat (first | refine blk_drewN ?_ _ | refine blk_drew ?_ | refine blk_alloc ?_ _)); exact BK261.out), (by (with_reducible repeat (first | refine blk_drewN ?_ _ | refine blk_drew ?_ | refine blk_alloc ?_ _)); exact BK269.out), (by (with_reducible repeat (first | refine blk_drewN ?_ _ | refine blk_drew ?_ | refine blk_alloc ?_ _)); exact BK285.out), GW285.out, GE285.out, NB261_285.out, NB285_261.out, NB269_285.out, NB285_269.out, (by repeat (first | (with_reducible first | exact HB.out | apply below_alloc | apply pw_below_drewN | apply below_drew1 | refine below_set ?_ GE261.out | refine below_set ?_ GE269.out | refine below_set ?_ GE285.out) | exact HB.out))⟩)
                                                  · skip
                                                    rintro ⟨v271, v277⟩ w48 ⟨hS_, h0_, h1_, h2_, h3_, h4_⟩
                                                    have n0_ : Aside0 (Kd.R k25 25 w48 w.heap.size (fun k_ => some k_ ≠ (v277 : Value).ownBlock ∧ k_ ≠ gb261 ∧ k_ ≠ gb269) v271 y270) := ⟨h0_⟩
                                                    have n1_ : Aside0 (Kd.R k25 25 w48 w.heap.size (fun k_ => some k_ ≠ (v271 : Value).ownBlock ∧ k_ ≠ gb261 ∧ k_ ≠ gb269) v277 y276) := ⟨h1_⟩
                                                    have n2_ : Aside0 (w48.heap[gb261]? = some (.cells #[.int .i64 t258, .int .i64 t259] 25 (0, 0))) := ⟨h2_⟩
                                                    have n3_ : Aside0 (w48.heap[gb269]? = some (.cells #[.int .i64 t266, .int .i64 t267] 25 (0, 0))) := ⟨h3_⟩
                                                    have n4_ : Aside0 (Below w.heap.size w w48) := ⟨h4_⟩
                                                    clear BK261
                                                    clear BK269
                                                    clear HB
                                                    clear h0_ h1_ h2_ h3_ h4_
                                                    have HO272 := n0_
                                                    have HO278 := n1_
                                                    have BK261 := n2_
                                                    have BK269 := n3_
                                                    have HB := n4_
                                                    clear n0_ n1_ n2_ n3_ n4_
                                                    have hHeld : w48.cell? ⟨gb261, 0, none⟩ = some (.int .i64 t258) ∧ w48.cell? ⟨gb261, 1, none⟩ = some (.int .i64 t259) := hS_
                                                    refine norm_ (a' := ?_) ?_ ?_
                                                    rotate_left
                                                    · simp only [putAll, Act.put, List.setIfInBounds_toArray, List.set_cons_zero, List.set_cons_succ]
                                                      rfl
                                                    refine two_ (i := 2) (j := 11) (Ni := some 107) (Nj := some 13) #[true, true, true, true, true, false, true, false, false, false, false, false, false, false] #[true, true, false, true, true, false, true, false, false, false, false, true, false, false] rfl rfl rfl rfl (two_of HT_.out (by kernel_rfl)) (by decide) (by decide) (fun K hK => ?_) (fun K hK => ?_)
                                                    · skip
                                                      refine Kd.R_append_rows_step k25 (w0 := w) w.heap.size (by rfl) (.tmp 105) (.tmp 106) 22 25 (.agg #[(.int .i64 0), (.int .i64 0)]) 16 rfl Try.underlying22 info25 rfl (by decide) (by omega) v271 y270 l0 _ _ _ (fun k_ => some k_ ≠ (v277 : Value).ownBlock ∧ k_ ≠ gb261 ∧ k_ ≠ gb269) (fun _ => False) rfl rfl ?aO ?aR (fun _ _ h => h) (fun _ h => h.elim) ?aF ?aB ?aS ?aL ?_
                                                      (case aR => repeat (first | exact (Kd.C_below HR0.out HB.out) | (with_reducible refine Kd.C_alloc ?_ _) | (with_reducible refine Kd.C_drewN ?_ _) | (with_reducible refine Kd.C_drew ?_)))
                                                      (case aB => exact (by repeat (first | (with_reducible first | exact HB.out | apply below_alloc | apply pw_below_drewN | apply below_drew1 | refine below_set ?_ GE261.out | refine below_set ?_ GE269.out) | exact HB.out)))
                                                      (case aF => exact (fun k_ hk => ⟨Kd.fresh' (Kd.R_lt (by (with_reducible repeat (first | apply Kd.R_alloc | apply Kd.R_drewN | apply Kd.R_drew)); exact HO278.out)) k_ hk, Kd.freshB (g := gb261) (o := .cells #[.int .i64 t258, .int .i64 t259] 25 (0, 0)) (by (with_reducible repeat (first | refine blk_drewN ?_ _ | refine blk_drew ?_ | refine blk_alloc ?_ _)); exact BK261.out) k_ hk, Kd.freshB (g := gb269) (o := .cells #[.int .i64 t266, .int .i64 t267] 25 (0, 0)) (by (with_reducible repeat (first | refine blk_drewN ?_ _ | refine blk_drew ?_ | refine blk_alloc ?_ _)); exact BK269.out) k_ hk⟩))
                                                      (case aO => exact (by (with_reducible repeat (first | apply Kd.R_alloc | apply Kd.R_drewN | apply Kd.R_drew)); exact HO272.out))
                                                      (case aS => exact (below_size (by repeat (first | (with_reducible first | exact HB.out | apply below_alloc | apply pw_below_drewN | apply below_drew1 | refine below_set ?_ GE261.out | refine below_set ?_ GE269.out) | exact HB.out))))
                                                      (case aL => have := LMc35.out; omega)
                                                      intro v274 w49 ho hb hg hat
                                                      rw [← Ny273.out] at ho
                                                      have n0_ := Aside0.mk (blk_grown (g := gb261) (o := .cells #[.int .i64 t258, .int .i64 t259] 25 (0, 0)) (by (with_reducible repeat (first | refine blk_drewN ?_ _ | refine blk_drew ?_ | refine blk_alloc ?_ _)); exact BK261.out) hg (Kd.R_away HO272.out (fun _ hk => hk.2.1)))
                                                      have n1_ := Aside0.mk (blk_grown (g := gb269) (o := .cells #[.int .i64 t266, .int .i64 t267] 25 (0, 0)) (by (with_reducible repeat (first | refine blk_drewN ?_ _ | refine blk_drew ?_ | refine blk_alloc ?_ _)); exact BK269.out) hg (Kd.R_away HO272.out (fun _ hk => hk.2.2)))
                                                      have n2_ := Aside0.mk (Kd.R_after (ok := (fun k_ => k_ ≠ gb261 ∧ k_ ≠ gb269)) (by (with_reducible repeat (first | apply Kd.R_alloc | apply Kd.R_drewN | apply Kd.R_drew)); exact Kd.R_mono HO278.out (fun _ hk => ⟨⟨hk.2.1, hk.2.2⟩, hk.1⟩)) hg hat)
                                                      have n3_ := Aside0.mk (hb)
                                                      have n4_ := Aside0.mk (ho)
                                                      clear BK261
                                                      clear BK269
                                                      clear HO278
                                                      clear HB
                                                      clear HO272
                                                      have BK261 := n0_
                                                      have BK269 := n1_
                                                      have HO278 := n2_
                                                      have HB := n3_
                                                      have HO275 := n4_
                                                      clear n0_ n1_ n2_ n3_ n4_
                                                      clear ho hb hg hat
                                                      refine hK.out _ _ ⟨(blk_cell BK261.out 0).trans rfl, (blk_cell BK261.out 1).trans rfl⟩ (fun hHeld => ?_)
                                                      clear hK K
                                                      refine norm_ (a' := ?_) ?_ ?_
                                                      rotate_left
                                                      · show Act.put _ (some 107) _ = _
                                                        simp only [Act.put, List.setIfInBounds_toArray, List.set_cons_zero, List.set_cons_succ, i64_w, i32_w]
                                                        rfl
                                                      exact norm_ (by first | (simp only [putAll, Act.put, List.setIfInBounds_toArray, List.set_cons_zero, List.set_cons_succ]; done) | (simp only [putAll, Act.put, List.setIfInBounds_toArray, List.set_cons_zero, List.set_cons_succ]; rfl)) (hJ0_2_4 (v271, v274, v277) _ ⟨hHeld, (by (with_reducible repeat (first | apply Kd.R_alloc | apply Kd.R_drewN | apply Kd.R_drew)); exact HO275.out), (by (with_reducible repeat (first | apply Kd.R_alloc | apply Kd.R_drewN | apply Kd.R_drew)); exact Kd.R_mono HO278.out (fun _ hk => ⟨hk.2, ⟨hk.1.1, hk.1.2⟩⟩)), (by (with_reducible repeat (first | refine blk_drewN ?_ _ | refine blk_drew ?_ | refine blk_alloc ?_ _)); exact BK261.out), (by (with_reducible repeat (first | refine blk_drewN ?_ _ | refine blk_drew ?_ | refine blk_alloc ?_ _)); exact BK269.out), (by repeat (first | (with_reducible first | exact HB.out | apply below_alloc | apply pw_below_drewN | apply below_drew1 | refine below_set ?_ GE261.out | refine below_set ?_ GE269.out) | exact HB.out))⟩)
                                                    · skip
                                                      refine box_step ?hg (N := 13) ?hd (cs := #[.int .i64 0, .int .i64 0]) (t := 25) ?hr ?_; (case hd => rfl); (case hg => rfl); (case hr => first | (go_simp; done) | (go_simp; rfl))
                                                      intro gb285 hg w49 hbox hb
                                                      have n0_ := Aside0.mk (Kd.R_below (Kd.R_elderB (by (with_reducible repeat (first | apply Kd.R_alloc | apply Kd.R_drewN | apply Kd.R_drew)); exact HO272.out) gb285 (Nat.le_of_eq hg.symm)) hb)
                                                      have n1_ := Aside0.mk (Kd.R_below (Kd.R_elderB (by (with_reducible repeat (first | apply Kd.R_alloc | apply Kd.R_drewN | apply Kd.R_drew)); exact HO278.out) gb285 (Nat.le_of_eq hg.symm)) hb)
                                                      have n2_ := Aside0.mk (blk_below (g := gb261) (o := .cells #[.int .i64 t258, .int .i64 t259] 25 (0, 0)) (by (with_reducible repeat (first | refine blk_drewN ?_ _ | refine blk_drew ?_ | refine blk_alloc ?_ _)); exact BK261.out) hb)
                                                      have n3_ := Aside0.mk (blk_below (g := gb269) (o := .cells #[.int .i64 t266, .int .i64 t267] 25 (0, 0)) (by (with_reducible repeat (first | refine blk_drewN ?_ _ | refine blk_drew ?_ | refine blk_alloc ?_ _)); exact BK269.out) hb)
                                                      have n4_ := Aside0.mk (below_step (by repeat (first | (with_reducible first | exact HB.out | apply below_alloc | apply pw_below_drewN | apply below_drew1 | refine below_set ?_ GE261.out | refine below_set ?_ GE269.out) | exact HB.out)) hb)
                                                      have n5_ := Aside0.mk (hbox)
                                                      have n6_ := Aside0.mk ((by rw [hg]; exact (below_size (by repeat (first | (with_reducible first | exact HB.out | apply below_alloc | apply pw_below_drewN | apply below_drew1 | refine below_set ?_ GE261.out | refine below_set ?_ GE269.out) | exact HB.out))) : w.heap.size ≤ gb285))
                                                      have n7_ := Aside0.mk ((by rw [hg]; exact (below_size (by repeat (first | (with_reducible first | exact HB.out | apply below_alloc | apply pw_below_drewN | apply below_drew1 | refine below_set ?_ GE261.out | refine below_set ?_ GE269.out) | exact HB.out))) : w.heap.size ≤ gb285))
                                                      have n8_ := Aside0.mk ((by rw [hg]; exact Nat.ne_of_lt (blk_lt (g := gb261) (o := .cells #[.int .i64 t258, .int .i64 t259] 25 (0, 0)) (by (with_reducible repeat (first | refine blk_drewN ?_ _ | refine blk_drew ?_ | refine blk_alloc ?_ _)); exact BK261.out)) : gb261 ≠ gb285))
                                                      have n9_ := Aside0.mk ((by rw [hg]; exact Nat.ne_of_gt (blk_lt (g := gb261) (o := .cells #[.int .i64 t258, .int .i64 t259] 25 (0, 0)) (by (with_reducible repeat (first | refine blk_drewN ?_ _ | refine blk_drew ?_ | refine blk_alloc ?_ _)); exact BK261.out)) : gb285 ≠ gb261))
                                                      have n10_ := Aside0.mk ((by rw [hg]; exact Nat.ne_of_lt (blk_lt (g := gb269) (o := .cells #[.int .i64 t266, .int .i64 t267] 25 (0, 0)) (by (with_reducible repeat (first | refine blk_drewN ?_ _ | refine blk_drew ?_ | refine blk_alloc ?_ _)); exact BK269.out)) : gb269 ≠ gb285))
                                                      have n11_ := Aside0.mk ((by rw [hg]; exact Nat.ne_of_gt (blk_lt (g := gb269) (o := .cells #[.int .i64 t266, .int .i64 t267] 25 (0, 0)) (by (with_reducible repeat (first | refine blk_drewN ?_ _ | refine blk_drew ?_ | refine blk_alloc ?_ _)); exact BK269.out)) : gb285 ≠ gb269))
                                                      clear HO272
                                                      clear HO278
                                                      clear BK261
                                                      clear BK269
                                                      clear HB
                                                      have HO272 := n0_
                                                      have HO278 := n1_
                                                      have BK261 := n2_
                                                      have BK269 := n3_
                                                      have HB := n4_
                                                      have BK285 := n5_
                                                      have GW285 := n6_
                                                      have GE285 := n7_
                                                      have NB261_285 := n8_
                                                      have NB285_261 := n9_
                                                      have NB269_285 := n10_
                                                      have NB285_269 := n11_
                                                      clear n0_ n1_ n2_ n3_ n4_ n5_ n6_ n7_ n8_ n9_ n10_ n11_
                                                      clear hb hbox hg
                                                      refine hK.out _ _ ⟨(blk_cell BK261.out 0).trans rfl, (blk_cell BK261.out 1).trans rfl⟩ (fun hHeld => ?_)
                                                      clear hK K
                                                      refine norm_ (a' := ?_) ?_ ?_
                                                      rotate_left
                                                      · show Act.put _ (some 13) _ = _
                                                        simp only [Act.put, List.setIfInBounds_toArray, List.set_cons_zero, List.set_cons_succ, i64_w, i32_w]
                                                        rfl
                                                      exact norm_ (by first | (simp only [putAll, Act.put, List.setIfInBounds_toArray, List.set_cons_zero, List.set_cons_succ]; done) | (simp only [putAll, Act.put, List.setIfInBounds_toArray, List.set_cons_zero, List.set_cons_succ]; rfl)) (hJ0_4_11 (v271, v277, gb285) _ ⟨hHeld, (by (with_reducible repeat (first | apply Kd.R_alloc | apply Kd.R_drewN | apply Kd.R_drew)); exact Kd.R_mono HO272.out (fun _ hk => ⟨hk.1.1, ⟨hk.1.2.1, ⟨hk.1.2.2, hk.2⟩⟩⟩)), (by (with_reducible repeat (first | apply Kd.R_alloc | apply Kd.R_drewN | apply Kd.R_drew)); exact Kd.R_mono HO278.out (fun _ hk => ⟨hk.1.1, ⟨hk.1.2.1, ⟨hk.1.2.2, hk.2⟩⟩⟩)), (by (with_reducible repeat (first | refine blk_drewN ?_ _ | refine blk_drew ?_ | refine blk_alloc ?_ _)); exact BK261.out), (by (with_reducible repeat (first | refine blk_drewN ?_ _ | refine blk_drew ?_ | refine blk_alloc ?_ _)); exact BK269.out), (by (with_reducible repeat (first | refine blk_drewN ?_ _ | refine blk_drew ?_ | refine blk_alloc ?_ _)); exact BK285.out), GW285.out, GE285.out, NB261_285.out, NB285_261.out, NB269_285.out, NB285_269.out, (by repeat (first | (with_reducible first | exact HB.out | apply below_alloc | apply pw_below_drewN | apply below_drew1 | refine below_set ?_ GE261.out | refine below_set ?_ GE269.out | refine below_set ?_ GE285.out) | exact HB.out))⟩)
                                                · skip
                                                  rintro ⟨v271, v274⟩ w47 ⟨hS_, h0_, h1_, h2_, h3_⟩
                                                  have n0_ : Aside0 (Kd.R k25 25 w47 w.heap.size (fun k_ => k_ ≠ gb261 ∧ k_ ≠ gb269) v274 y273) := ⟨h0_⟩
                                                  have n1_ : Aside0 (w47.heap[gb261]? = some (.cells #[.int .i64 t258, .int .i64 t259] 25 (0, 0))) := ⟨h1_⟩
                                                  have n2_ : Aside0 (w47.heap[gb269]? = some (.cells #[.int .i64 t266, .int .i64 t267] 25 (0, 0))) := ⟨h2_⟩
                                                  have n3_ : Aside0 (Below w.heap.size w w47) := ⟨h3_⟩
                                                  clear BK261
                                                  clear BK269
                                                  clear HB
                                                  clear h0_ h1_ h2_ h3_
                                                  have HO275 := n0_
                                                  have BK261 := n1_
                                                  have BK269 := n2_
                                                  have HB := n3_
                                                  clear n0_ n1_ n2_ n3_
                                                  have hHeld : w47.cell? ⟨gb261, 0, none⟩ = some (.int .i64 t258) ∧ w47.cell? ⟨gb261, 1, none⟩ = some (.int .i64 t259) := hS_
                                                  refine norm_ (a' := ?_) ?_ ?_
                                                  rotate_left
                                                  · simp only [putAll, Act.put, List.setIfInBounds_toArray, List.set_cons_zero, List.set_cons_succ]
                                                    rfl
                                                  refine two_ (i := 4) (j := 11) (Ni := some 109) (Nj := some 13) #[true, true, true, true, true, false, true, false, false, false, false, false, false, false] #[true, true, true, true, false, false, true, false, false, false, false, true, false, false] rfl rfl rfl rfl (two_of HT_.out (by kernel_rfl)) (by decide) (by decide) (fun K hK => ?_) (fun K hK => ?_)
                                                  · skip
                                                    refine Kd.R_lit_step k25 _ 25 ?hg (N := 109) ?hd (xs := ([(⟨t258, t259⟩ : S25)] : List (S25))) (inner := [.int .i64 t258, .int .i64 t259]) (ok := fun _ => True) (okp := fun _ => True) ?hr ?hp (fun _ hk => hk) trivial (Below.refl _ _) (Nat.le_refl _) (by simp) ?_; (case hd => rfl); (case hg => rfl); (case hr => first | (go_simp; done) | (go_simp; rfl)); (case hp => exact (Reps.c2 (show Kd.M k25 _ _ _ (⟨t258, t259⟩ : S25) [.int .i64 t258, .int .i64 t259] from (k25_mkM _ _ _ (⟨t258, t259⟩ : S25) )) (Reps.none _ _)))
                                                    intro v277 w48 ho49 hb hg_ hnew_
                                                    clear hg_ hnew_
                                                    (first | rw [← Ny276.out] at ho49 | (simp only [Int.reduceToNat] at ho49; rw [← Ny276.out] at ho49))
                                                    have n0_ := Aside0.mk (Kd.R_elder' (by (with_reducible repeat (first | apply Kd.R_alloc | apply Kd.R_drewN | apply Kd.R_drew)); exact HO275.out) (Kd.R_base ho49) hb)
                                                    have n1_ := Aside0.mk (Kd.R_lower (Kd.R_newB (Kd.R_newB (Kd.R_new' ho49 (Kd.R_lt (by (with_reducible repeat (first | apply Kd.R_alloc | apply Kd.R_drewN | apply Kd.R_drew)); exact HO275.out))) (g := gb261) (o := .cells #[.int .i64 t258, .int .i64 t259] 25 (0, 0)) (by (with_reducible repeat (first | refine blk_drewN ?_ _ | refine blk_drew ?_ | refine blk_alloc ?_ _)); exact BK261.out)) (g := gb269) (o := .cells #[.int .i64 t266, .int .i64 t267] 25 (0, 0)) (by (with_reducible repeat (first | refine blk_drewN ?_ _ | refine blk_drew ?_ | refine blk_alloc ?_ _)); exact BK269.out)) (below_size (by repeat (first | (with_reducible first | exact HB.out | apply below_alloc | apply pw_below_drewN | apply below_drew1 | refine below_set ?_ GE261.out | refine below_set ?_ GE269.out) | exact HB.out))))
                                                    have n2_ := Aside0.mk (blk_below (g := gb261) (o := .cells #[.int .i64 t258, .int .i64 t259] 25 (0, 0)) (by (with_reducible repeat (first | refine blk_drewN ?_ _ | refine blk_drew ?_ | refine blk_alloc ?_ _)); exact BK261.out) hb)
                                                    have n3_ := Aside0.mk (blk_below (g := gb269) (o := .cells #[.int .i64 t266, .int .i64 t267] 25 (0, 0)) (by (with_reducible repeat (first | refine blk_drewN ?_ _ | refine blk_drew ?_ | refine blk_alloc ?_ _)); exact BK269.out) hb)
                                                    have n4_ := Aside0.mk (below_step (by repeat (first | (with_reducible first | exact HB.out | apply below_alloc | apply pw_below_drewN | apply below_drew1 | refine below_set ?_ GE261.out | refine below_set ?_ GE269.out) | exact HB.out)) hb)
                                                    clear HO275
                                                    clear BK261
                                                    clear BK269
                                                    clear HB
                                                    have HO275 := n0_
                                                    have HO278 := n1_
                                                    have BK261 := n2_
                                                    have BK269 := n3_
                                                    have HB := n4_
                                                    clear n0_ n1_ n2_ n3_ n4_
                                                    clear hb ho49
                                                    refine hK.out _ _ ⟨(blk_cell BK261.out 0).trans rfl, (blk_cell BK261.out 1).trans rfl⟩ (fun hHeld => ?_)
                                                    clear hK K
                                                    refine norm_ (a' := ?_) ?_ ?_
                                                    rotate_left
                                                    · show Act.put _ (some 109) _ = _
                                                      simp only [Act.put, List.setIfInBounds_toArray, List.set_cons_zero, List.set_cons_succ, i64_w, i32_w]
                                                      rfl
                                                    exact norm_ (by first | (simp only [putAll, Act.put, List.setIfInBounds_toArray, List.set_cons_zero, List.set_cons_succ]; done) | (simp only [putAll, Act.put, List.setIfInBounds_toArray, List.set_cons_zero, List.set_cons_succ]; rfl)) (hJ0_2_4 (v271, v274, v277) _ ⟨hHeld, (by (with_reducible repeat (first | apply Kd.R_alloc | apply Kd.R_drewN | apply Kd.R_drew)); exact Kd.R_mono HO275.out (fun _ hk => ⟨hk.2, ⟨hk.1.1, hk.1.2⟩⟩)), (by (with_reducible repeat (first | apply Kd.R_alloc | apply Kd.R_drewN | apply Kd.R_drew)); exact Kd.R_mono HO278.out (fun _ hk => ⟨hk.1.1.2, ⟨hk.1.2, hk.2⟩⟩)), (by (with_reducible repeat (first | refine blk_drewN ?_ _ | refine blk_drew ?_ | refine blk_alloc ?_ _)); exact BK261.out), (by (with_reducible repeat (first | refine blk_drewN ?_ _ | refine blk_drew ?_ | refine blk_alloc ?_ _)); exact BK269.out), (by repeat (first | (with_reducible first | exact HB.out | apply below_alloc | apply pw_below_drewN | apply below_drew1 | refine below_set ?_ GE261.out | refine below_set ?_ GE269.out) | exact HB.out))⟩)
                                                  · skip
                                                    refine box_step ?hg (N := 13) ?hd (cs := #[.int .i64 0, .int .i64 0]) (t := 25) ?hr ?_; (case hd => rfl); (case hg => rfl); (case hr => first | (go_simp; done) | (go_simp; rfl))
                                                    intro gb285 hg w48 hbox hb
                                                    have n0_ := Aside0.mk (Kd.R_below (Kd.R_elderB (by (with_reducible repeat (first | apply Kd.R_alloc | apply Kd.R_drewN | apply Kd.R_drew)); exact HO275.out) gb285 (Nat.le_of_eq hg.symm)) hb)
                                                    have n1_ := Aside0.mk (blk_below (g := gb261) (o := .cells #[.int .i64 t258, .int .i64 t259] 25 (0, 0)) (by (with_reducible repeat (first | refine blk_drewN ?_ _ | refine blk_drew ?_ | refine blk_alloc ?_ _)); exact BK261.out) hb)
                                                    have n2_ := Aside0.mk (blk_below (g := gb269) (o := .cells #[.int .i64 t266, .int .i64 t267] 25 (0, 0)) (by (with_reducible repeat (first | refine blk_drewN ?_ _ | refine blk_drew ?_ | refine blk_alloc ?_ _)); exact BK269.out) hb)
                                                    have n3_ := Aside0.mk (below_step (by repeat (first | (with_reducible first | exact HB.out | apply below_alloc | apply pw_below_drewN | apply below_drew1 | refine below_set ?_ GE261.out | refine below_set ?_ GE269.out) | exact HB.out)) hb)
                                                    have n4_ := Aside0.mk (hbox)
                                                    have n5_ := Aside0.mk ((by rw [hg]; exact (below_size (by repeat (first | (with_reducible first | exact HB.out | apply below_alloc | apply pw_below_drewN | apply below_drew1 | refine below_set ?_ GE261.out | refine below_set ?_ GE269.out) | exact HB.out))) : w.heap.size ≤ gb285))
                                                    have n6_ := Aside0.mk ((by rw [hg]; exact (below_size (by repeat (first | (with_reducible first | exact HB.out | apply below_alloc | apply pw_below_drewN | apply below_drew1 | refine below_set ?_ GE261.out | refine below_set ?_ GE269.out) | exact HB.out))) : w.heap.size ≤ gb285))
                                                    have n7_ := Aside0.mk ((by rw [hg]; exact Nat.ne_of_lt (blk_lt (g := gb261) (o := .cells #[.int .i64 t258, .int .i64 t259] 25 (0, 0)) (by (with_reducible repeat (first | refine blk_drewN ?_ _ | refine blk_drew ?_ | refine blk_alloc ?_ _)); exact BK261.out)) : gb261 ≠ gb285))
                                                    have n8_ := Aside0.mk ((by rw [hg]; exact Nat.ne_of_gt (blk_lt (g := gb261) (o := .cells #[.int .i64 t258, .int .i64 t259] 25 (0, 0)) (by (with_reducible repeat (first | refine blk_drewN ?_ _ | refine blk_drew ?_ | refine blk_alloc ?_ _)); exact BK261.out)) : gb285 ≠ gb261))
                                                    have n9_ := Aside0.mk ((by rw [hg]; exact Nat.ne_of_lt (blk_lt (g := gb269) (o := .cells #[.int .i64 t266, .int .i64 t267] 25 (0, 0)) (by (with_reducible repeat (first | refine blk_drewN ?_ _ | refine blk_drew ?_ | refine blk_alloc ?_ _)); exact BK269.out)) : gb269 ≠ gb285))
                                                    have n10_ := Aside0.mk ((by rw [hg]; exact Nat.ne_of_gt (blk_lt (g := gb269) (o := .cells #[.int .i64 t266, .int .i64 t267] 25 (0, 0)) (by (with_reducible repeat (first | refine blk_drewN ?_ _ | refine blk_drew ?_ | refine blk_alloc ?_ _)); exact BK269.out)) : gb285 ≠ gb269))
                                                    clear HO275
                                                    clear BK261
                                                    clear BK269
                                                    clear HB
                                                    have HO275 := n0_
                                                    have BK261 := n1_
                                                    have BK269 := n2_
                                                    have HB := n3_
                                                    have BK285 := n4_
                                                    have GW285 := n5_
                                                    have GE285 := n6_
                                                    have NB261_285 := n7_
                                                    have NB285_261 := n8_
                                                    have NB269_285 := n9_
                                                    have NB285_269 := n10_
                                                    clear n0_ n1_ n2_ n3_ n4_ n5_ n6_ n7_ n8_ n9_ n10_
                                                    clear hb hbox hg
                                                    refine hK.out _ _ ⟨(blk_cell BK261.out 0).trans rfl, (blk_cell BK261.out 1).trans rfl⟩ (fun hHeld => ?_)
                                                    clear hK K
                                                    refine norm_ (a' := ?_) ?_ ?_
                                                    rotate_left
                                                    · show Act.put _ (some 13) _ = _
                                                      simp only [Act.put, List.setIfInBounds_toArray, List.set_cons_zero, List.set_cons_succ, i64_w, i32_w]
                                                      rfl
                                                    exact norm_ (by first | (simp only [putAll, Act.put, List.setIfInBounds_toArray, List.set_cons_zero, List.set_cons_succ]; done) | (simp only [putAll, Act.put, List.setIfInBounds_toArray, List.set_cons_zero, List.set_cons_succ]; rfl)) (hJ0_2_11 (v271, v274, gb285) _ ⟨hHeld, (by (with_reducible repeat (first | apply Kd.R_alloc | apply Kd.R_drewN | apply Kd.R_drew)); exact Kd.R_mono HO275.out (fun _ hk => ⟨hk.1.1, ⟨hk.1.2, hk.2⟩⟩)), (by (with_reducible repeat (first | refine blk_drewN ?_ _ | refine blk_drew ?_ | refine blk_alloc ?_ _)); exact BK261.out), (by (with_reducible repeat (first | refine blk_drewN ?_ _ | refine blk_drew ?_ | refine blk_alloc ?_ _)); exact BK269.out), (by (with_reducible repeat (first | refine blk_drewN ?_ _ | refine blk_drew ?_ | refine blk_alloc ?_ _)); exact BK285.out), GW285.out, GE285.out, NB261_285.out, NB285_261.out, NB269_285.out, NB285_269.out, (by repeat (first | (with_reducible first | exact HB.out | apply below_alloc | apply pw_below_drewN | apply below_drew1 | refine below_set ?_ GE261.out | refine below_set ?_ GE269.out | refine below_set ?_ GE285.out) | exact HB.out))⟩)
                                              · skip
                                                rintro ⟨v271, v277, gb285⟩ w49 ⟨hS_, h0_, h1_, h2_, h3_, h4_, h5_, h6_, h7_, h8_, h9_, h10_, h11_⟩
                                                have n0_ : Aside0 (Kd.R k25 25 w49 w.heap.size (fun k_ => some k_ ≠ (v277 : Value).ownBlock ∧ k_ ≠ gb261 ∧ k_ ≠ gb269 ∧ k_ ≠ gb285) v271 y270) := ⟨h0_⟩
                                                have n1_ : Aside0 (Kd.R k25 25 w49 w.heap.size (fun k_ => some k_ ≠ (v271 : Value).ownBlock ∧ k_ ≠ gb261 ∧ k_ ≠ gb269 ∧ k_ ≠ gb285) v277 y276) := ⟨h1_⟩
                                                have n2_ : Aside0 (w49.heap[gb261]? = some (.cells #[.int .i64 t258, .int .i64 t259] 25 (0, 0))) := ⟨h2_⟩
                                                have n3_ : Aside0 (w49.heap[gb269]? = some (.cells #[.int .i64 t266, .int .i64 t267] 25 (0, 0))) := ⟨h3_⟩
                                                have n4_ : Aside0 (w49.heap[gb285]? = some (.cells #[.int .i64 0, .int .i64 0] 25 (0, 0))) := ⟨h4_⟩
                                                have n5_ : Aside0 (w.heap.size ≤ gb285) := ⟨h5_⟩
                                                have n6_ : Aside0 (w.heap.size ≤ gb285) := ⟨h6_⟩
                                                have n7_ : Aside0 (gb261 ≠ gb285) := ⟨h7_⟩
                                                have n8_ : Aside0 (gb285 ≠ gb261) := ⟨h8_⟩
                                                have n9_ : Aside0 (gb269 ≠ gb285) := ⟨h9_⟩
                                                have n10_ : Aside0 (gb285 ≠ gb269) := ⟨h10_⟩
                                                have n11_ : Aside0 (Below w.heap.size w w49) := ⟨h11_⟩
                                                clear BK261
                                                clear BK269
                                                clear HB
                                                clear h0_ h1_ h2_ h3_ h4_ h5_ h6_ h7_ h8_ h9_ h10_ h11_
                                                have HO272 := n0_
                                                have HO278 := n1_
                                                have BK261 := n2_
                                                have BK269 := n3_
                                                have BK285 := n4_
                                                have GW285 := n5_
                                                have GE285 := n6_
                                                have NB261_285 := n7_
                                                have NB285_261 := n8_
                                                have NB269_285 := n9_
                                                have NB285_269 := n10_
                                                have HB := n11_
                                                clear n0_ n1_ n2_ n3_ n4_ n5_ n6_ n7_ n8_ n9_ n10_ n11_
                                                have hHeld : w49.cell? ⟨gb261, 0, none⟩ = some (.int .i64 t258) ∧ w49.cell? ⟨gb261, 1, none⟩ = some (.int .i64 t259) := hS_
                                                refine norm_ (a' := ?_) ?_ ?_
                                                rotate_left
                                                · simp only [putAll, Act.put, List.setIfInBounds_toArray, List.set_cons_zero, List.set_cons_succ]
                                                  rfl
                                                refine one_ (i := 2) (N := some 107) #[true, true, true, true, true, false, true, false, false, false, false, true, false, false] rfl rfl (one_of HT_.out (by kernel_rfl)) (by decide) (fun K hK => ?_)
                                                refine Kd.R_append_rows_step k25 (w0 := w) w.heap.size (by rfl) (.tmp 105) (.tmp 106) 22 25 (.agg #[(.int .i64 0), (.int .i64 0)]) 16 rfl Try.underlying22 info25 rfl (by decide) (by omega) v271 y270 l0 _ _ _ (fun k_ => some k_ ≠ (v277 : Value).ownBlock ∧ k_ ≠ gb261 ∧ k_ ≠ gb269 ∧ k_ ≠ gb285) (fun _ => False) rfl rfl ?aO ?aR (fun _ _ h => h) (fun _ h => h.elim) ?aF ?aB ?aS ?aL ?_
                                                (case aR => repeat (first | exact (Kd.C_below HR0.out HB.out) | (with_reducible refine Kd.C_alloc ?_ _) | (with_reducible refine Kd.C_drewN ?_ _) | (with_reducible refine Kd.C_drew ?_)))
                                                (case aB => exact (by repeat (first | (with_reducible first | exact HB.out | apply below_alloc | apply pw_below_drewN | apply below_drew1 | refine below_set ?_ GE261.out | refine below_set ?_ GE269.out | refine below_set ?_ GE285.out) | exact HB.out)))
                                                (case aF => exact (fun k_ hk => ⟨Kd.fresh' (Kd.R_lt (by (with_reducible repeat (first | apply Kd.R_alloc | apply Kd.R_drewN | apply Kd.R_drew)); exact HO278.out)) k_ hk, Kd.freshB (g := gb261) (o := .cells #[.int .i64 t258, .int .i64 t259] 25 (0, 0)) (by (with_reducible repeat (first | refine blk_drewN ?_ _ | refine blk_drew ?_ | refine blk_alloc ?_ _)); exact BK261.out) k_ hk, Kd.freshB (g := gb269) (o := .cells #[.int .i64 t266, .int .i64 t267] 25 (0, 0)) (by (with_reducible repeat (first | refine blk_drewN ?_ _ | refine blk_drew ?_ | refine blk_alloc ?_ _)); exact BK269.out) k_ hk, Kd.freshB (g := gb285) (o := .cells #[.int .i64 0, .int .i64 0] 25 (0, 0)) (by (with_reducible repeat (first | refine blk_drewN ?_ _ | refine blk_drew ?_ | refine blk_alloc ?_ _)); exact BK285.out) k_ hk⟩))
                                                (case aO => exact (by (with_reducible repeat (first | apply Kd.R_alloc | apply Kd.R_drewN | apply Kd.R_drew)); exact HO272.out))
                                                (case aS => exact (below_size (by repeat (first | (with_reducible first | exact HB.out | apply below_alloc | apply pw_below_drewN | apply below_drew1 | refine below_set ?_ GE261.out | refine below_set ?_ GE269.out | refine below_set ?_ GE285.out) | exact HB.out))))
                                                (case aL => have := LMc35.out; omega)
                                                intro v274 w50 ho hb hg hat
                                                rw [← Ny273.out] at ho
                                                have n0_ := Aside0.mk (blk_grown (g := gb261) (o := .cells #[.int .i64 t258, .int .i64 t259] 25 (0, 0)) (by (with_reducible repeat (first | refine blk_drewN ?_ _ | refine blk_drew ?_ | refine blk_alloc ?_ _)); exact BK261.out) hg (Kd.R_away HO272.out (fun _ hk => hk.2.1)))
                                                have n1_ := Aside0.mk (blk_grown (g := gb269) (o := .cells #[.int .i64 t266, .int .i64 t267] 25 (0, 0)) (by (with_reducible repeat (first | refine blk_drewN ?_ _ | refine blk_drew ?_ | refine blk_alloc ?_ _)); exact BK269.out) hg (Kd.R_away HO272.out (fun _ hk => hk.2.2.1)))
                                                have n2_ := Aside0.mk (Kd.R_after (ok := (fun k_ => k_ ≠ gb261 ∧ k_ ≠ gb269 ∧ k_ ≠ gb285)) (by (with_reducible repeat (first | apply Kd.R_alloc | apply Kd.R_drewN | apply Kd.R_drew)); exact Kd.R_mono HO278.out (fun _ hk => ⟨⟨hk.2.1, ⟨hk.2.2.1, hk.2.2.2⟩⟩, hk.1⟩)) hg hat)
                                                have n3_ := Aside0.mk (blk_grown (g := gb285) (o := .cells #[.int .i64 0, .int .i64 0] 25 (0, 0)) (by (with_reducible repeat (first | refine blk_drewN ?_ _ | refine blk_drew ?_ | refine blk_alloc ?_ _)); exact BK285.out) hg (Kd.R_away HO272.out (fun _ hk => hk.2.2.2)))
                                                have n4_ := Aside0.mk (hb)
                                                have n5_ := Aside0.mk (ho)
                                                clear BK261
                                                clear BK269
                                                clear HO278
                                                clear BK285
                                                clear HB
                                                clear HO272
                                                have BK261 := n0_
                                                have BK269 := n1_
                                                have HO278 := n2_
                                                have BK285 := n3_
                                                have HB := n4_
                                                have HO275 := n5_
                                                clear n0_ n1_ n2_ n3_ n4_ n5_
                                                clear ho hb hg hat
                                                refine hK.out _ _ ⟨(blk_cell BK261.out 0).trans rfl, (blk_cell BK261.out 1).trans rfl⟩ (fun hHeld => ?_)
                                                clear hK K
                                                refine norm_ (a' := ?_) ?_ ?_
                                                rotate_left
                                                · show Act.put _ (some 107) _ = _
                                                  simp only [Act.put, List.setIfInBounds_toArray, List.set_cons_zero, List.set_cons_succ, i64_w, i32_w]
                                                  rfl
                                                exact norm_ (by first | (simp only [putAll, Act.put, List.setIfInBounds_toArray, List.set_cons_zero, List.set_cons_succ]; done) | (simp only [putAll, Act.put, List.setIfInBounds_toArray, List.set_cons_zero, List.set_cons_succ]; rfl)) (hJ0_2_4_11 (v271, v274, v277, gb285) _ ⟨hHeld, (by (with_reducible repeat (first | apply Kd.R_alloc | apply Kd.R_drewN | apply Kd.R_drew)); exact HO275.out), (by (with_reducible repeat (first | apply Kd.R_alloc | apply Kd.R_drewN | apply Kd.R_drew)); exact Kd.R_mono HO278.out (fun _ hk => ⟨hk.2, ⟨hk.1.1, ⟨hk.1.2.1, hk.1.2.2⟩⟩⟩)), (by (with_reducible repeat (first | refine blk_drewN ?_ _ | refine blk_drew ?_ | refine blk_alloc ?_ _)); exact BK261.out), (by (with_reducible repeat (first | refine blk_drewN ?_ _ | refine blk_drew ?_ | refine blk_alloc ?_ _)); exact BK269.out), (by (with_reducible repeat (first | refine blk_drewN ?_ _ | refine blk_drew ?_ | refine blk_alloc ?_ _)); exact BK285.out), GW285.out, GE285.out, NB261_285.out, NB285_261.out, NB269_285.out, NB285_269.out, (by repeat (first | (with_reducible first | exact HB.out | apply below_alloc | apply pw_below_drewN | apply below_drew1 | refine below_set ?_ GE261.out | refine below_set ?_ GE269.out | refine below_set ?_ GE285.out) | exact HB.out))⟩)
                                            · skip
                                              rintro ⟨v271, v274, gb285⟩ w48 ⟨hS_, h0_, h1_, h2_, h3_, h4_, h5_, h6_, h7_, h8_, h9_, h10_⟩
                                              have n0_ : Aside0 (Kd.R k25 25 w48 w.heap.size (fun k_ => k_ ≠ gb261 ∧ k_ ≠ gb269 ∧ k_ ≠ gb285) v274 y273) := ⟨h0_⟩
                                              have n1_ : Aside0 (w48.heap[gb261]? = some (.cells #[.int .i64 t258, .int .i64 t259] 25 (0, 0))) := ⟨h1_⟩
                                              have n2_ : Aside0 (w48.heap[gb269]? = some (.cells #[.int .i64 t266, .int .i64 t267] 25 (0, 0))) := ⟨h2_⟩
                                              have n3_ : Aside0 (w48.heap[gb285]? = some (.cells #[.int .i64 0, .int .i64 0] 25 (0, 0))) := ⟨h3_⟩
                                              have n4_ : Aside0 (w.heap.size ≤ gb285) := ⟨h4_⟩
                                              have n5_ : Aside0 (w.heap.size ≤ gb285) := ⟨h5_⟩
                                              have n6_ : Aside0 (gb261 ≠ gb285) := ⟨h6_⟩
                                              have n7_ : Aside0 (gb285 ≠ gb261) := ⟨h7_⟩
                                              have n8_ : Aside0 (gb269 ≠ gb285) := ⟨h8_⟩
                                              have n9_ : Aside0 (gb285 ≠ gb269) := ⟨h9_⟩
                                              have n10_ : Aside0 (Below w.heap.size w w48) := ⟨h10_⟩
                                              clear BK261
                                              clear BK269
                                              clear HB
                                              clear h0_ h1_ h2_ h3_ h4_ h5_ h6_ h7_ h8_ h9_ h10_
                                              have HO275 := n0_
                                              have BK261 := n1_
                                              have BK269 := n2_
                                              have BK285 := n3_
                                              have GW285 := n4_
                                              have GE285 := n5_
                                              have NB261_285 := n6_
                                              have NB285_261 := n7_
                                              have NB269_285 := n8_
                                              have NB285_269 := n9_
                                              have HB := n10_
                                              clear n0_ n1_ n2_ n3_ n4_ n5_ n6_ n7_ n8_ n9_ n10_
                                              have hHeld : w48.cell? ⟨gb261, 0, none⟩ = some (.int .i64 t258) ∧ w48.cell? ⟨gb261, 1, none⟩ = some (.int .i64 t259) := hS_
                                              refine norm_ (a' := ?_) ?_ ?_
                                              rotate_left
                                              · simp only [putAll, Act.put, List.setIfInBounds_toArray, List.set_cons_zero, List.set_cons_succ]
                                                rfl
                                              refine one_ (i := 4) (N := some 109) #[true, true, true, true, true, false, true, false, false, false, false, true, false, false] rfl rfl (one_of HT_.out (by kernel_rfl)) (by decide) (fun K hK => ?_)
                                              refine Kd.R_lit_step k25 _ 25 ?hg (N := 109) ?hd (xs := ([(⟨t258, t259⟩ : S25)] : List (S25))) (inner := [.int .i64 t258, .int .i64 t259]) (ok := fun _ => True) (okp := fun _ => True) ?hr ?hp (fun _ hk => hk) trivial (Below.refl _ _) (Nat.le_refl _) (by simp) ?_; (case hd => rfl); (case hg => rfl); (case hr => first | (go_simp; done) | (go_simp; rfl)); (case hp => exact (Reps.c2 (show Kd.M k25 _ _ _ (⟨t258, t259⟩ : S25) [.int .i64 t258, .int .i64 t259] from (k25_mkM _ _ _ (⟨t258, t259⟩ : S25) )) (Reps.none _ _)))
                                              intro v277 w49 ho50 hb hg_ hnew_
                                              clear hg_ hnew_
                                              (first | rw [← Ny276.out] at ho50 | (simp only [Int.reduceToNat] at ho50; rw [← Ny276.out] at ho50))
                                              have n0_ := Aside0.mk (Kd.R_elder' (by (with_reducible repeat (first | apply Kd.R_alloc | apply Kd.R_drewN | apply Kd.R_drew)); exact HO275.out) (Kd.R_base ho50) hb)
                                              have n1_ := Aside0.mk (Kd.R_lower (Kd.R_newB (Kd.R_newB (Kd.R_newB (Kd.R_new' ho50 (Kd.R_lt (by (with_reducible repeat (first | apply Kd.R_alloc | apply Kd.R_drewN | apply Kd.R_drew)); exact HO275.out))) (g := gb261) (o := .cells #[.int .i64 t258, .int .i64 t259] 25 (0, 0)) (by (with_reducible repeat (first | refine blk_drewN ?_ _ | refine blk_drew ?_ | refine blk_alloc ?_ _)); exact BK261.out)) (g := gb269) (o := .cells #[.int .i64 t266, .int .i64 t267] 25 (0, 0)) (by (with_reducible repeat (first | refine blk_drewN ?_ _ | refine blk_drew ?_ | refine blk_alloc ?_ _)); exact BK269.out)) (g := gb285) (o := .cells #[.int .i64 0, .int .i64 0] 25 (0, 0)) (by (with_reducible repeat (first | refine blk_drewN ?_ _ | refine blk_drew ?_ | refine blk_alloc ?_ _)); exact BK285.out)) (below_size (by repeat (first | (with_reducible first | exact HB.out | apply below_alloc | apply pw_below_drewN | apply below_drew1 | refine below_set ?_ GE261.out | refine below_set ?_ GE269.out | refine below_set ?_ GE285.out) | exact HB.out))))
                                              have n2_ := Aside0.mk (blk_below (g := gb261) (o := .cells #[.int .i64 t258, .int .i64 t259] 25 (0, 0)) (by (with_reducible repeat (first | refine blk_drewN ?_ _ | refine blk_drew ?_ | refine blk_alloc ?_ _)); exact BK261.out) hb)
                                              have n3_ := Aside0.mk (blk_below (g := gb269) (o := .cells #[.int .i64 t266, .int .i64 t267] 25 (0, 0)) (by (with_reducible repeat (first | refine blk_drewN ?_ _ | refine blk_drew ?_ | refine blk_alloc ?_ _)); exact BK269.out) hb)
                                              have n4_ := Aside0.mk (blk_below (g := gb285) (o := .cells #[.int .i64 0, .int .i64 0] 25 (0, 0)) (by (with_reducible repeat (first | refine blk_drewN ?_ _ | refine blk_drew ?_ | refine blk_alloc ?_ _)); exact BK285.out) hb)
                                              have n5_ := Aside0.mk (below_step (by repeat (first | (with_reducible first | exact HB.out | apply below_alloc | apply pw_below_drewN | apply below_drew1 | refine below_set ?_ GE261.out | refine below_set ?_ GE269.out | refine below_set ?_ GE285.out) | exact HB.out)) hb)
                                              clear HO275
                                              clear BK261
                                              clear BK269
                                              clear BK285
                                              clear HB
                                              have HO275 := n0_
                                              have HO278 := n1_
                                              have BK261 := n2_
                                              have BK269 := n3_
                                              have BK285 := n4_
                                              have HB := n5_
                                              clear n0_ n1_ n2_ n3_ n4_ n5_
                                              clear hb ho50
                                              refine hK.out _ _ ⟨(blk_cell BK261.out 0).trans rfl, (blk_cell BK261.out 1).trans rfl⟩ (fun hHeld => ?_)
                                              clear hK K
                                              refine norm_ (a' := ?_) ?_ ?_
                                              rotate_left
                                              · show Act.put _ (some 109) _ = _
                                                simp only [Act.put, List.setIfInBounds_toArray, List.set_cons_zero, List.set_cons_succ, i64_w, i32_w]
                                                rfl
                                              exact norm_ (by first | (simp only [putAll, Act.put, List.setIfInBounds_toArray, List.set_cons_zero, List.set_cons_succ]; done) | (simp only [putAll, Act.put, List.setIfInBounds_toArray, List.set_cons_zero, List.set_cons_succ]; rfl)) (hJ0_2_4_11 (v271, v274, v277, gb285) _ ⟨hHeld, (by (with_reducible repeat (first | apply Kd.R_alloc | apply Kd.R_drewN | apply Kd.R_drew)); exact Kd.R_mono HO275.out (fun _ hk => ⟨hk.2, ⟨hk.1.1, ⟨hk.1.2.1, hk.1.2.2⟩⟩⟩)), (by (with_reducible repeat (first | apply Kd.R_alloc | apply Kd.R_drewN | apply Kd.R_drew)); exact Kd.R_mono HO278.out (fun _ hk => ⟨hk.1.1.1.2, ⟨hk.1.1.2, ⟨hk.1.2, hk.2⟩⟩⟩)), (by (with_reducible repeat (first | refine blk_drewN ?_ _ | refine blk_drew ?_ | refine blk_alloc ?_ _)); exact BK261.out), (by (with_reducible repeat (first | refine blk_drewN ?_ _ | refine blk_drew ?_ | refine blk_alloc ?_ _)); exact BK269.out), (by (with_reducible repeat (first | refine blk_drewN ?_ _ | refine blk_drew ?_ | refine blk_alloc ?_ _)); exact BK285.out), GW285.out, GE285.out, NB261_285.out, NB285_261.out, NB269_285.out, NB285_269.out, (by repeat (first | (with_reducible first | exact HB.out | apply below_alloc | apply pw_below_drewN | apply below_drew1 | refine below_set ?_ GE261.out | refine below_set ?_ GE269.out | refine below_set ?_ GE285.out) | exact HB.out))⟩)
                                          · skip
                                            rintro ⟨v271, v274, v277⟩ w49 ⟨hS_, h0_, h1_, h2_, h3_, h4_⟩
                                            have n0_ : Aside0 (Kd.R k25 25 w49 w.heap.size (fun k_ => some k_ ≠ (v277 : Value).ownBlock ∧ k_ ≠ gb261 ∧ k_ ≠ gb269) v274 y273) := ⟨h0_⟩
                                            have n1_ : Aside0 (Kd.R k25 25 w49 w.heap.size (fun k_ => some k_ ≠ (v274 : Value).ownBlock ∧ k_ ≠ gb261 ∧ k_ ≠ gb269) v277 y276) := ⟨h1_⟩
                                            have n2_ : Aside0 (w49.heap[gb261]? = some (.cells #[.int .i64 t258, .int .i64 t259] 25 (0, 0))) := ⟨h2_⟩
                                            have n3_ : Aside0 (w49.heap[gb269]? = some (.cells #[.int .i64 t266, .int .i64 t267] 25 (0, 0))) := ⟨h3_⟩
                                            have n4_ : Aside0 (Below w.heap.size w w49) := ⟨h4_⟩
                                            clear BK261
                                            clear BK269
                                            clear HB
                                            clear h0_ h1_ h2_ h3_ h4_
                                            have HO275 := n0_
                                            have HO278 := n1_
                                            have BK261 := n2_
                                            have BK269 := n3_
                                            have HB := n4_
                                            clear n0_ n1_ n2_ n3_ n4_
                                            have hHeld : w49.cell? ⟨gb261, 0, none⟩ = some (.int .i64 t258) ∧ w49.cell? ⟨gb261, 1, none⟩ = some (.int .i64 t259) := hS_
                                            obtain ⟨Ao51, co51, eo51⟩ := Kd.R_slice HO278.out
                                            (first | subst eo51 | (injection eo51 with f1_ f2_ f3_; have f4_ := f1_.symm; have f5_ := f3_.symm; clear f1_ f2_ f3_; subst f4_; subst f5_))
                                            refine norm_ (a' := ?_) ?_ ?_
                                            rotate_left
                                            · simp only [putAll, Act.put, List.setIfInBounds_toArray, List.set_cons_zero, List.set_cons_succ]
                                              rfl
                                            refine two_ (i := 5) (j := 11) (Ni := some 110) (Nj := some 13) #[true, true, true, true, true, true, true, false, false, false, false, false, false, false] #[true, true, true, true, true, false, true, false, false, false, false, true, false, false] rfl rfl rfl rfl (two_of HT_.out (by kernel_rfl)) (by decide) (by decide) (fun K hK => ?_) (fun K hK => ?_)
                                            · skip
                                              refine Kd.R_append_rows_step k25 (w0 := w) w.heap.size (by rfl) (.tmp 107) (.tmp 109) 22 25 (.agg #[(.int .i64 0), (.int .i64 0)]) 16 rfl Try.underlying22 info25 rfl (by decide) (by omega) v274 y273 y276 _ _ _ (fun k_ => some k_ ≠ (.slice Ao51 y276.length co51 : Value).ownBlock ∧ k_ ≠ gb261 ∧ k_ ≠ gb269) (fun _ => False) rfl rfl ?aO ?aR (fun _ _ h => h) (fun _ h => h.elim) ?aF ?aB ?aS ?aL ?_
                                              (case aR => repeat (first | exact (Kd.R_reads' HO278.out).2.2 | (with_reducible refine Kd.C_alloc ?_ _) | (with_reducible refine Kd.C_drewN ?_ _) | (with_reducible refine Kd.C_drew ?_)))
                                              (case aB => exact (by repeat (first | (with_reducible first | exact HB.out | apply below_alloc | apply pw_below_drewN | apply below_drew1 | refine below_set ?_ GE261.out | refine below_set ?_ GE269.out) | exact HB.out)))
                                              (case aF => exact (fun k_ hk => ⟨Kd.fresh' (Kd.R_lt (by (with_reducible repeat (first | apply Kd.R_alloc | apply Kd.R_drewN | apply Kd.R_drew)); exact HO278.out)) k_ hk, Kd.freshB (g := gb261) (o := .cells #[.int .i64 t258, .int .i64 t259] 25 (0, 0)) (by (with_reducible repeat (first | refine blk_drewN ?_ _ | refine blk_drew ?_ | refine blk_alloc ?_ _)); exact BK261.out) k_ hk, Kd.freshB (g := gb269) (o := .cells #[.int .i64 t266, .int .i64 t267] 25 (0, 0)) (by (with_reducible repeat (first | refine blk_drewN ?_ _ | refine blk_drew ?_ | refine blk_alloc ?_ _)); exact BK269.out) k_ hk⟩))
                                              (case aO => exact (by (with_reducible repeat (first | apply Kd.R_alloc | apply Kd.R_drewN | apply Kd.R_drew)); exact HO275.out))
                                              (case aS => exact (below_size (by repeat (first | (with_reducible first | exact HB.out | apply below_alloc | apply pw_below_drewN | apply below_drew1 | refine below_set ?_ GE261.out | refine below_set ?_ GE269.out) | exact HB.out))))
                                              (case aL => have := LMc36.out; omega)
                                              intro v280 w50 ho hb hg hat
                                              rw [← Ny279.out] at ho
                                              have n0_ := Aside0.mk (blk_grown (g := gb261) (o := .cells #[.int .i64 t258, .int .i64 t259] 25 (0, 0)) (by (with_reducible repeat (first | refine blk_drewN ?_ _ | refine blk_drew ?_ | refine blk_alloc ?_ _)); exact BK261.out) hg (Kd.R_away HO275.out (fun _ hk => hk.2.1)))
                                              have n1_ := Aside0.mk (blk_grown (g := gb269) (o := .cells #[.int .i64 t266, .int .i64 t267] 25 (0, 0)) (by (with_reducible repeat (first | refine blk_drewN ?_ _ | refine blk_drew ?_ | refine blk_alloc ?_ _)); exact BK269.out) hg (Kd.R_away HO275.out (fun _ hk => hk.2.2)))
                                              have n2_ := Aside0.mk (Kd.R_after (ok := (fun k_ => k_ ≠ gb261 ∧ k_ ≠ gb269)) (by (with_reducible repeat (first | apply Kd.R_alloc | apply Kd.R_drewN | apply Kd.R_drew)); exact Kd.R_mono HO278.out (fun _ hk => ⟨⟨hk.2.1, hk.2.2⟩, hk.1⟩)) hg hat)
                                              have n3_ := Aside0.mk (hb)
                                              have n4_ := Aside0.mk (ho)
                                              clear BK261
                                              clear BK269
                                              clear HO278
                                              clear HB
                                              clear HO275
                                              have BK261 := n0_
                                              have BK269 := n1_
                                              have HO278 := n2_
                                              have HB := n3_
                                              have HO281 := n4_
                                              clear n0_ n1_ n2_ n3_ n4_
                                              clear ho hb hg hat
                                              refine hK.out _ _ ⟨(blk_cell BK261.out 0).trans rfl, (blk_cell BK261.out 1).trans rfl⟩ (fun hHeld => ?_)
                                              clear hK K
                                              refine norm_ (a' := ?_) ?_ ?_
                                              rotate_left
                                              · show Act.put _ (some 110) _ = _
                                                simp only [Act.put, List.setIfInBounds_toArray, List.set_cons_zero, List.set_cons_succ, i64_w, i32_w]
                                                rfl
                                              exact norm_ (by first | (simp only [putAll, Act.put, List.setIfInBounds_toArray, List.set_cons_zero, List.set_cons_succ]; done) | (simp only [putAll, Act.put, List.setIfInBounds_toArray, List.set_cons_zero, List.set_cons_succ]; rfl)) (hJ0_2_4_5 (v271, v274, .slice Ao51 y276.length co51, v280) _ ⟨hHeld, (by (with_reducible repeat (first | apply Kd.R_alloc | apply Kd.R_drewN | apply Kd.R_drew)); exact Kd.R_mono HO278.out (fun _ hk => ⟨hk.2, ⟨hk.1.1, hk.1.2⟩⟩)), (by (with_reducible repeat (first | apply Kd.R_alloc | apply Kd.R_drewN | apply Kd.R_drew)); exact HO281.out), (by (with_reducible repeat (first | refine blk_drewN ?_ _ | refine blk_drew ?_ | refine blk_alloc ?_ _)); exact BK261.out), (by (with_reducible repeat (first | refine blk_drewN ?_ _ | refine blk_drew ?_ | refine blk_alloc ?_ _)); exact BK269.out), (by repeat (first | (with_reducible first | exact HB.out | apply below_alloc | apply pw_below_drewN | apply below_drew1 | refine below_set ?_ GE261.out | refine below_set ?_ GE269.out) | exact HB.out))⟩)
                                            · skip
                                              refine box_step ?hg (N := 13) ?hd (cs := #[.int .i64 0, .int .i64 0]) (t := 25) ?hr ?_; (case hd => rfl); (case hg => rfl); (case hr => first | (go_simp; done) | (go_simp; rfl))
                                              intro gb285 hg w50 hbox hb
                                              have n0_ := Aside0.mk (Kd.R_below (Kd.R_elderB (by (with_reducible repeat (first | apply Kd.R_alloc | apply Kd.R_drewN | apply Kd.R_drew)); exact HO275.out) gb285 (Nat.le_of_eq hg.symm)) hb)
                                              have n1_ := Aside0.mk (Kd.R_below (Kd.R_elderB (by (with_reducible repeat (first | apply Kd.R_alloc | apply Kd.R_drewN | apply Kd.R_drew)); exact HO278.out) gb285 (Nat.le_of_eq hg.symm)) hb)
                                              have n2_ := Aside0.mk (blk_below (g := gb261) (o := .cells #[.int .i64 t258, .int .i64 t259] 25 (0, 0)) (by (with_reducible repeat (first | refine blk_drewN ?_ _ | refine blk_drew ?_ | refine blk_alloc ?_ _)); exact BK261.out) hb)
                                              have n3_ := Aside0.mk (blk_below (g := gb269) (o := .cells #[.int .i64 t266, .int .i64 t267] 25 (0, 0)) (by (with_reducible repeat (first | refine blk_drewN ?_ _ | refine blk_drew ?_ | refine blk_alloc ?_ _)); exact BK269.out) hb)
                                              have n4_ := Aside0.mk (below_step (by repeat (first | (with_reducible first | exact HB.out | apply below_alloc | apply pw_below_drewN | apply below_drew1 | refine below_set ?_ GE261.out | refine below_set ?_ GE269.out) | exact HB.out)) hb)
                                              have n5_ := Aside0.mk (hbox)
                                              have n6_ := Aside0.mk ((by rw [hg]; exact (below_size (by repeat (first | (with_reducible first | exact HB.out | apply below_alloc | apply pw_below_drewN | apply below_drew1 | refine below_set ?_ GE261.out | refine below_set ?_ GE269.out) | exact HB.out))) : w.heap.size ≤ gb285))
                                              have n7_ := Aside0.mk ((by rw [hg]; exact (below_size (by repeat (first | (with_reducible first | exact HB.out | apply below_alloc | apply pw_below_drewN | apply below_drew1 | refine below_set ?_ GE261.out | refine below_set ?_ GE269.out) | exact HB.out))) : w.heap.size ≤ gb285))
                                              have n8_ := Aside0.mk ((by rw [hg]; exact Nat.ne_of_lt (blk_lt (g := gb261) (o := .cells #[.int .i64 t258, .int .i64 t259] 25 (0, 0)) (by (with_reducible repeat (first | refine blk_drewN ?_ _ | refine blk_drew ?_ | refine blk_alloc ?_ _)); exact BK261.out)) : gb261 ≠ gb285))
                                              have n9_ := Aside0.mk ((by rw [hg]; exact Nat.ne_of_gt (blk_lt (g := gb261) (o := .cells #[.int .i64 t258, .int .i64 t259] 25 (0, 0)) (by (with_reducible repeat (first | refine blk_drewN ?_ _ | refine blk_drew ?_ | refine blk_alloc ?_ _)); exact BK261.out)) : gb285 ≠ gb261))
                                              have n10_ := Aside0.mk ((by rw [hg]; exact Nat.ne_of_lt (blk_lt (g := gb269) (o := .cells #[.int .i64 t266, .int .i64 t267] 25 (0, 0)) (by (with_reducible repeat (first | refine blk_drewN ?_ _ | refine blk_drew ?_ | refine blk_alloc ?_ _)); exact BK269.out)) : gb269 ≠ gb285))
                                              have n11_ := Aside0.mk ((by rw [hg]; exact Nat.ne_of_gt (blk_lt (g := gb269) (o := .cells #[.int .i64 t266, .int .i64 t267] 25 (0, 0)) (by (with_reducible repeat (first | refine blk_drewN ?_ _ | refine blk_drew ?_ | refine blk_alloc ?_ _)); exact BK269.out)) : gb285 ≠ gb269))
                                              clear HO275
                                              clear HO278
                                              clear BK261
                                              clear BK269
                                              clear HB
                                              have HO275 := n0_
                                              have HO278 := n1_
                                              have BK261 := n2_
                                              have BK269 := n3_
                                              have HB := n4_
                                              have BK285 := n5_
                                              have GW285 := n6_
                                              have GE285 := n7_
                                              have NB261_285 := n8_
                                              have NB285_261 := n9_
                                              have NB269_285 := n10_
                                              have NB285_269 := n11_
                                              clear n0_ n1_ n2_ n3_ n4_ n5_ n6_ n7_ n8_ n9_ n10_ n11_
                                              clear hb hbox hg
                                              refine hK.out _ _ ⟨(blk_cell BK261.out 0).trans rfl, (blk_cell BK261.out 1).trans rfl⟩ (fun hHeld => ?_)
                                              clear hK K
                                              refine norm_ (a' := ?_) ?_ ?_
                                              rotate_left
                                              · show Act.put _ (some 13) _ = _
                                                simp only [Act.put, List.setIfInBounds_toArray, List.set_cons_zero, List.set_cons_succ, i64_w, i32_w]
                                                rfl
                                              exact norm_ (by first | (simp only [putAll, Act.put, List.setIfInBounds_toArray, List.set_cons_zero, List.set_cons_succ]; done) | (simp only [putAll, Act.put, List.setIfInBounds_toArray, List.set_cons_zero, List.set_cons_succ]; rfl)) (hJ0_2_4_11 (v271, v274, (.slice Ao51 y276.length co51), gb285) _ ⟨hHeld, (by (with_reducible repeat (first | apply Kd.R_alloc | apply Kd.R_drewN | apply Kd.R_drew)); exact Kd.R_mono HO275.out (fun _ hk => ⟨hk.1.1, ⟨hk.1.2.1, ⟨hk.1.2.2, hk.2⟩⟩⟩)), (by (with_reducible repeat (first | apply Kd.R_alloc | apply Kd.R_drewN | apply Kd.R_drew)); exact Kd.R_mono HO278.out (fun _ hk => ⟨hk.1.1, ⟨hk.1.2.1, ⟨hk.1.2.2, hk.2⟩⟩⟩)), (by (with_reducible repeat (first | refine blk_drewN ?_ _ | refine blk_drew ?_ | refine blk_alloc ?_ _)); exact BK261.out), (by (with_reducible repeat (first | refine blk_drewN ?_ _ | refine blk_drew ?_ | refine blk_alloc ?_ _)); exact BK269.out), (by (with_reducible repeat (first | refine blk_drewN ?_ _ | refine blk_drew ?_ | refine blk_alloc ?_ _)); exact BK285.out), GW285.out, GE285.out, NB261_285.out, NB285_261.out, NB269_285.out, NB285_269.out, (by repeat (first | (with_reducible first | exact HB.out | apply below_alloc | apply pw_below_drewN | apply below_drew1 | refine below_set ?_ GE261.out | refine below_set ?_ GE269.out | refine below_set ?_ GE285.out) | exact HB.out))⟩)
                                        · skip
                                          rintro ⟨v271, v274, v277, gb285⟩ w50 ⟨hS_, h0_, h1_, h2_, h3_, h4_, h5_, h6_, h7_, h8_, h9_, h10_, h11_⟩
                                          have n0_ : Aside0 (Kd.R k25 25 w50 w.heap.size (fun k_ => some k_ ≠ (v277 : Value).ownBlock ∧ k_ ≠ gb261 ∧ k_ ≠ gb269 ∧ k_ ≠ gb285) v274 y273) := ⟨h0_⟩
                                          have n1_ : Aside0 (Kd.R k25 25 w50 w.heap.size (fun k_ => some k_ ≠ (v274 : Value).ownBlock ∧ k_ ≠ gb261 ∧ k_ ≠ gb269 ∧ k_ ≠ gb285) v277 y276) := ⟨h1_⟩
                                          have n2_ : Aside0 (w50.heap[gb261]? = some (.cells #[.int .i64 t258, .int .i64 t259] 25 (0, 0))) := ⟨h2_⟩
                                          have n3_ : Aside0 (w50.heap[gb269]? = some (.cells #[.int .i64 t266, .int .i64 t267] 25 (0, 0))) := ⟨h3_⟩
                                          have n4_ : Aside0 (w50.heap[gb285]? = some (.cells #[.int .i64 0, .int .i64 0] 25 (0, 0))) := ⟨h4_⟩
                                          have n5_ : Aside0 (w.heap.size ≤ gb285) := ⟨h5_⟩
                                          have n6_ : Aside0 (w.heap.size ≤ gb285) := ⟨h6_⟩
                                          have n7_ : Aside0 (gb261 ≠ gb285) := ⟨h7_⟩
                                          have n8_ : Aside0 (gb285 ≠ gb261) := ⟨h8_⟩
                                          have n9_ : Aside0 (gb269 ≠ gb285) := ⟨h9_⟩
                                          have n10_ : Aside0 (gb285 ≠ gb269) := ⟨h10_⟩
                                          have n11_ : Aside0 (Below w.heap.size w w50) := ⟨h11_⟩
                                          clear BK261
                                          clear BK269
                                          clear HB
                                          clear h0_ h1_ h2_ h3_ h4_ h5_ h6_ h7_ h8_ h9_ h10_ h11_
                                          have HO275 := n0_
                                          have HO278 := n1_
                                          have BK261 := n2_
                                          have BK269 := n3_
                                          have BK285 := n4_
                                          have GW285 := n5_
                                          have GE285 := n6_
                                          have NB261_285 := n7_
                                          have NB285_261 := n8_
                                          have NB269_285 := n9_
                                          have NB285_269 := n10_
                                          have HB := n11_
                                          clear n0_ n1_ n2_ n3_ n4_ n5_ n6_ n7_ n8_ n9_ n10_ n11_
                                          have hHeld : w50.cell? ⟨gb261, 0, none⟩ = some (.int .i64 t258) ∧ w50.cell? ⟨gb261, 1, none⟩ = some (.int .i64 t259) := hS_
                                          obtain ⟨Ao52, co52, eo52⟩ := Kd.R_slice HO278.out
                                          (first | subst eo52 | (injection eo52 with f1_ f2_ f3_; have f4_ := f1_.symm; have f5_ := f3_.symm; clear f1_ f2_ f3_; subst f4_; subst f5_))
                                          refine norm_ (a' := ?_) ?_ ?_
                                          rotate_left
                                          · simp only [putAll, Act.put, List.setIfInBounds_toArray, List.set_cons_zero, List.set_cons_succ]
                                            rfl
                                          refine one_ (i := 5) (N := some 110) #[true, true, true, true, true, true, true, false, false, false, false, true, false, false] rfl rfl (one_of HT_.out (by kernel_rfl)) (by decide) (fun K hK => ?_)
                                          refine Kd.R_append_rows_step k25 (w0 := w) w.heap.size (by rfl) (.tmp 107) (.tmp 109) 22 25 (.agg #[(.int .i64 0), (.int .i64 0)]) 16 rfl Try.underlying22 info25 rfl (by decide) (by omega) v274 y273 y276 _ _ _ (fun k_ => some k_ ≠ (.slice Ao52 y276.length co52 : Value).ownBlock ∧ k_ ≠ gb261 ∧ k_ ≠ gb269 ∧ k_ ≠ gb285) (fun _ => False) rfl rfl ?aO ?aR (fun _ _ h => h) (fun _ h => h.elim) ?aF ?aB ?aS ?aL ?_
                                          (case aR => repeat (first | exact (Kd.R_reads' HO278.out).2.2 | (with_reducible refine Kd.C_alloc ?_ _) | (with_reducible refine Kd.C_drewN ?_ _) | (with_reducible refine Kd.C_drew ?_)))
                                          (case aB => exact (by repeat (first | (with_reducible first | exact HB.out | apply below_alloc | apply pw_below_drewN | apply below_drew1 | refine below_set ?_ GE261.out | refine below_set ?_ GE269.out | refine below_set ?_ GE285.out) | exact HB.out)))
                                          (case aF => exact (fun k_ hk => ⟨Kd.fresh' (Kd.R_lt (by (with_reducible repeat (first | apply Kd.R_alloc | apply Kd.R_drewN | apply Kd.R_drew)); exact HO278.out)) k_ hk, Kd.freshB (g := gb261) (o := .cells #[.int .i64 t258, .int .i64 t259] 25 (0, 0)) (by (with_reducible repeat (first | refine blk_drewN ?_ _ | refine blk_drew ?_ | refine blk_alloc ?_ _)); exact BK261.out) k_ hk, Kd.freshB (g := gb269) (o := .cells #[.int .i64 t266, .int .i64 t267] 25 (0, 0)) (by (with_reducible repeat (first | refine blk_drewN ?_ _ | refine blk_drew ?_ | refine blk_alloc ?_ _)); exact BK269.out) k_ hk, Kd.freshB (g := gb285) (o := .cells #[.int .i64 0, .int .i64 0] 25 (0, 0)) (by (with_reducible repeat (first | refine blk_drewN ?_ _ | refine blk_drew ?_ | refine blk_alloc ?_ _)); exact BK285.out) k_ hk⟩))
                                          (case aO => exact (by (with_reducible repeat (first | apply Kd.R_alloc | apply Kd.R_drewN | apply Kd.R_drew)); exact HO275.out))
                                          (case aS => exact (below_size (by repeat (first | (with_reducible first | exact HB.out | apply below_alloc | apply pw_below_drewN | apply below_drew1 | refine below_set ?_ GE261.out | refine below_set ?_ GE269.out | refine below_set ?_ GE285.out) | exact HB.out))))
                                          (case aL => have := LMc36.out; omega)
                                          intro v280 w51 ho hb hg hat
                                          rw [← Ny279.out] at ho
                                          have n0_ := Aside0.mk (blk_grown (g := gb261) (o := .cells #[.int .i64 t258, .int .i64 t259] 25 (0, 0)) (by (with_reducible repeat (first | refine blk_drewN ?_ _ | refine blk_drew ?_ | refine blk_alloc ?_ _)); exact BK261.out) hg (Kd.R_away HO275.out (fun _ hk => hk.2.1)))
                                          have n1_ := Aside0.mk (blk_grown (g := gb269) (o := .cells #[.int .i64 t266, .int .i64 t267] 25 (0, 0)) (by (with_reducible repeat (first | refine blk_drewN ?_ _ | refine blk_drew ?_ | refine blk_alloc ?_ _)); exact BK269.out) hg (Kd.R_away HO275.out (fun _ hk => hk.2.2.1)))
                                          have n2_ := Aside0.mk (Kd.R_after (ok := (fun k_ => k_ ≠ gb261 ∧ k_ ≠ gb269 ∧ k_ ≠ gb285)) (by (with_reducible repeat (first | apply Kd.R_alloc | apply Kd.R_drewN | apply Kd.R_drew)); exact Kd.R_mono HO278.out (fun _ hk => ⟨⟨hk.2.1, ⟨hk.2.2.1, hk.2.2.2⟩⟩, hk.1⟩)) hg hat)
                                          have n3_ := Aside0.mk (blk_grown (g := gb285) (o := .cells #[.int .i64 0, .int .i64 0] 25 (0, 0)) (by (with_reducible repeat (first | refine blk_drewN ?_ _ | refine blk_drew ?_ | refine blk_alloc ?_ _)); exact BK285.out) hg (Kd.R_away HO275.out (fun _ hk => hk.2.2.2)))
                                          have n4_ := Aside0.mk (hb)
                                          have n5_ := Aside0.mk (ho)
                                          clear BK261
                                          clear BK269
                                          clear HO278
                                          clear BK285
                                          clear HB
                                          clear HO275
                                          have BK261 := n0_
                                          have BK269 := n1_
                                          have HO278 := n2_
                                          have BK285 := n3_
                                          have HB := n4_
                                          have HO281 := n5_
                                          clear n0_ n1_ n2_ n3_ n4_ n5_
                                          clear ho hb hg hat
                                          refine hK.out _ _ ⟨(blk_cell BK261.out 0).trans rfl, (blk_cell BK261.out 1).trans rfl⟩ (fun hHeld => ?_)
                                          clear hK K
                                          refine norm_ (a' := ?_) ?_ ?_
                                          rotate_left
                                          · show Act.put _ (some 110) _ = _
                                            simp only [Act.put, List.setIfInBounds_toArray, List.set_cons_zero, List.set_cons_succ, i64_w, i32_w]
                                            rfl
                                          exact norm_ (by first | (simp only [putAll, Act.put, List.setIfInBounds_toArray, List.set_cons_zero, List.set_cons_succ]; done) | (simp only [putAll, Act.put, List.setIfInBounds_toArray, List.set_cons_zero, List.set_cons_succ]; rfl)) (hJ0_2_4_5_11 (v271, v274, .slice Ao52 y276.length co52, v280, gb285) _ ⟨hHeld, (by (with_reducible repeat (first | apply Kd.R_alloc | apply Kd.R_drewN | apply Kd.R_drew)); exact Kd.R_mono HO278.out (fun _ hk => ⟨hk.2, ⟨hk.1.1, ⟨hk.1.2.1, hk.1.2.2⟩⟩⟩)), (by (with_reducible repeat (first | apply Kd.R_alloc | apply Kd.R_drewN | apply Kd.R_drew)); exact HO281.out), (by (with_reducible repeat (first | refine blk_drewN ?_ _ | refine blk_drew ?_ | refine blk_alloc ?_ _)); exact BK261.out), (by (with_reducible repeat (first | refine blk_drewN ?_ _ | refine blk_drew ?_ | refine blk_alloc ?_ _)); exact BK269.out), (by (with_reducible repeat (first | refine blk_drewN ?_ _ | refine blk_drew ?_ | refine blk_alloc ?_ _)); exact BK285.out), GW285.out, GE285.out, NB261_285.out, NB285_261.out, NB269_285.out, NB285_269.out, (by repeat (first | (with_reducible first | exact HB.out | apply below_alloc | apply pw_below_drewN | apply below_drew1 | refine below_set ?_ GE261.out | refine below_set ?_ GE269.out | refine below_set ?_ GE285.out) | exact HB.out))⟩)
                                      · skip
                                        rintro ⟨v271, v274, v277, v280⟩ w51 ⟨hS_, h0_, h1_, h2_, h3_, h4_⟩
                                        have n0_ : Aside0 (Kd.R k25 25 w51 w.heap.size (fun k_ => some k_ ≠ (v280 : Value).ownBlock ∧ k_ ≠ gb261 ∧ k_ ≠ gb269) v277 y276) := ⟨h0_⟩
                                        have n1_ : Aside0 (Kd.R k25 25 w51 w.heap.size (fun k_ => some k_ ≠ (v277 : Value).ownBlock ∧ k_ ≠ gb261 ∧ k_ ≠ gb269) v280 y279) := ⟨h1_⟩
                                        have n2_ : Aside0 (w51.heap[gb261]? = some (.cells #[.int .i64 t258, .int .i64 t259] 25 (0, 0))) := ⟨h2_⟩
                                        have n3_ : Aside0 (w51.heap[gb269]? = some (.cells #[.int .i64 t266, .int .i64 t267] 25 (0, 0))) := ⟨h3_⟩
                                        have n4_ : Aside0 (Below w.heap.size w w51) := ⟨h4_⟩
                                        clear BK261
                                        clear BK269
                                        clear HB
                                        clear h0_ h1_ h2_ h3_ h4_
                                        have HO278 := n0_
                                        have HO281 := n1_
                                        have BK261 := n2_
                                        have BK269 := n3_
                                        have HB := n4_
                                        clear n0_ n1_ n2_ n3_ n4_
                                        have hHeld : w51.cell? ⟨gb261, 0, none⟩ = some (.int .i64 t258) ∧ w51.cell? ⟨gb261, 1, none⟩ = some (.int .i64 t259) := hS_
                                        obtain ⟨Ao52, co52, eo52⟩ := Kd.R_slice HO281.out
                                        (first | subst eo52 | (injection eo52 with f1_ f2_ f3_; have f4_ := f1_.symm; have f5_ := f3_.symm; clear f1_ f2_ f3_; subst f4_; subst f5_))
                                        refine norm_ (a' := ?_) ?_ ?_
                                        rotate_left
                                        · simp only [putAll, Act.put, List.setIfInBounds_toArray, List.set_cons_zero, List.set_cons_succ]
                                          rfl
                                        refine two_ (i := 7) (j := 11) (Ni := some 112) (Nj := some 13) #[true, true, true, true, true, true, true, true, false, false, false, false, false, false] #[true, true, true, true, true, true, true, false, false, false, false, true, false, false] rfl rfl rfl rfl (two_of HT_.out (by kernel_rfl)) (by decide) (by decide) (fun K hK => ?_) (fun K hK => ?_)
                                        · skip
                                          refine goes_ Try.func8 (by kernel_rfl) rfl #[.slice Ao52 y279.length co52, .int .i64 (Int.tmod (wrap64 ((Int.tmod a1 32) + 32)) 32)] (by rfl) rfl rfl (by (try simp only [List.map_toArray, List.map_cons, List.map_nil]); first | done | rfl | (simp only [List.length_drop, List.length_take]; rfl)) ?_
                                          with_reducible refine (hull_Hull.calls kj21 _ _ y279 (Int.tmod (wrap64 ((Int.tmod a1 32) + 32)) 32) t282 t283 t284 _ ?side1 ?side2 A37.out).mono ?_
                                          (case side1 => repeat (first | exact (Kd.R_reads' HO281.out).2.2 | (with_reducible refine Kd.C_alloc ?_ _) | (with_reducible refine Kd.C_drewN ?_ _) | (with_reducible refine Kd.C_drew ?_)))
                                          (case side2 => exact (Kd.R_reads' HO281.out).2.1)
                                          rintro e w53 ⟨rfl, hb⟩
                                          refine ⟨_, rfl, ?_⟩
                                          have n0_ := Aside0.mk (Kd.R_below (by (with_reducible repeat (first | apply Kd.R_alloc | apply Kd.R_drewN | apply Kd.R_drew)); exact HO278.out) hb)
                                          have n1_ := Aside0.mk (Kd.R_below (by (with_reducible repeat (first | apply Kd.R_alloc | apply Kd.R_drewN | apply Kd.R_drew)); exact HO281.out) hb)
                                          have n2_ := Aside0.mk (blk_below (g := gb261) (o := .cells #[.int .i64 t258, .int .i64 t259] 25 (0, 0)) (by (with_reducible repeat (first | refine blk_drewN ?_ _ | refine blk_drew ?_ | refine blk_alloc ?_ _)); exact BK261.out) hb)
                                          have n3_ := Aside0.mk (blk_below (g := gb269) (o := .cells #[.int .i64 t266, .int .i64 t267] 25 (0, 0)) (by (with_reducible repeat (first | refine blk_drewN ?_ _ | refine blk_drew ?_ | refine blk_alloc ?_ _)); exact BK269.out) hb)
                                          have n4_ := Aside0.mk (below_step (by repeat (first | (with_reducible first | exact HB.out | apply below_alloc | apply pw_below_drewN | apply below_drew1 | refine below_set ?_ GE261.out | refine below_set ?_ GE269.out) | exact HB.out)) hb)
                                          clear HO278
                                          clear HO281
                                          clear BK261
                                          clear BK269
                                          clear HB
                                          have HO278 := n0_
                                          have HO281 := n1_
                                          have BK261 := n2_
                                          have BK269 := n3_
                                          have HB := n4_
                                          clear n0_ n1_ n2_ n3_ n4_
                                          (try clear hb)
                                          (try clear hb2)
                                          (try clear hk)
                                          (try clear hi)
                                          refine hK.out _ _ ⟨(blk_cell BK261.out 0).trans rfl, (blk_cell BK261.out 1).trans rfl⟩ (fun hHeld => ?_)
                                          clear hK K
                                          refine norm_ (a' := ?_) ?_ ?_
                                          rotate_left
                                          · show Act.put _ (some 112) _ = _
                                            simp only [Act.put, List.setIfInBounds_toArray, List.set_cons_zero, List.set_cons_succ, i64_w, i32_w]
                                            rfl
                                          refine pure_ (i := 8) (N := some 104) (v := ?_) (a' := ?_) #[true, true, true, true, true, true, true, true, true, false, false, false, false, false] rfl rfl (any_of HT_.out (by kernel_rfl)) (fun _ _ _ h => h) (Or.inl ⟨by rfl, ?_⟩) ?_ ?_
                                          rotate_left
                                          · intro w'
                                            go_simp
                                            with_reducible rfl
                                          rotate_left
                                          · simp only [Act.put, List.setIfInBounds_toArray, List.set_cons_zero, List.set_cons_succ, i64_w, i32_w]
                                            rfl
                                          refine pure_ (i := 9) (N := some 113) (v := ?_) (a' := ?_) #[true, true, true, true, true, true, true, true, true, true, false, false, false, false] rfl rfl (any_of HT_.out (by kernel_rfl)) (fun _ _ _ h => h) (Or.inl ⟨by rfl, ?_⟩) ?_ ?_
                                          rotate_left
                                          · intro w'
                                            go_simp
                                            with_reducible rfl
                                          rotate_left
                                          · simp only [Act.put, List.setIfInBounds_toArray, List.set_cons_zero, List.set_cons_succ, i64_w, i32_w]
                                            rfl
                                          refine pure_ (i := 10) (N := some 114) (v := ?_) (a' := ?_) #[true, true, true, true, true, true, true, true, true, true, true, false, false, false] rfl rfl (any_of HT_.out (by kernel_rfl)) (fun _ _ _ h => h) (Or.inl ⟨by rfl, ?_⟩) ?_ ?_
                                          rotate_left
                                          · intro w'
                                            go_simp
                                            with_reducible rfl
                                          rotate_left
                                          · simp only [Act.put, List.setIfInBounds_toArray, List.set_cons_zero, List.set_cons_succ, i64_w, i32_w]
                                            rfl
                                          exact norm_ (by first | (simp only [putAll, Act.put, List.setIfInBounds_toArray, List.set_cons_zero, List.set_cons_succ]; done) | (simp only [putAll, Act.put, List.setIfInBounds_toArray, List.set_cons_zero, List.set_cons_succ]; rfl)) (hJ0_2_4_5_7 (v271, v274, v277, .slice Ao52 y279.length co52) _ ⟨hHeld, (by (with_reducible repeat (first | apply Kd.R_alloc | apply Kd.R_drewN | apply Kd.R_drew)); exact HO278.out), (by (with_reducible repeat (first | apply Kd.R_alloc | apply Kd.R_drewN | apply Kd.R_drew)); exact HO281.out), (by (with_reducible repeat (first | refine blk_drewN ?_ _ | refine blk_drew ?_ | refine blk_alloc ?_ _)); exact BK261.out), (by (with_reducible repeat (first | refine blk_drewN ?_ _ | refine blk_drew ?_ | refine blk_alloc ?_ _)); exact BK269.out), (by repeat (first | (with_reducible first | exact HB.out | apply below_alloc | apply pw_below_drewN | apply below_drew1 | refine below_set ?_ GE261.out | refine below_set ?_ GE269.out) | exact HB.out))⟩)
                                        · skip
                                          refine box_step ?hg (N := 13) ?hd (cs := #[.int .i64 0, .int .i64 0]) (t := 25) ?hr ?_; (case hd => rfl); (case hg => rfl); (case hr => first | (go_simp; done) | (go_simp; rfl))
                                          intro gb285 hg w52 hbox hb
                                          have n0_ := Aside0.mk (Kd.R_below (Kd.R_elderB (by (with_reducible repeat (first | apply Kd.R_alloc | apply Kd.R_drewN | apply Kd.R_drew)); exact HO278.out) gb285 (Nat.le_of_eq hg.symm)) hb)
                                          have n1_ := Aside0.mk (Kd.R_below (Kd.R_elderB (by (with_reducible repeat (first | apply Kd.R_alloc | apply Kd.R_drewN | apply Kd.R_drew)); exact HO281.out) gb285 (Nat.le_of_eq hg.symm)) hb)
                                          have n2_ := Aside0.mk (blk_below (g := gb261) (o := .cells #[.int .i64 t258, .int .i64 t259] 25 (0, 0)) (by (with_reducible repeat (first | refine blk_drewN ?_ _ | refine blk_drew ?_ | refine blk_alloc ?_ _)); exact BK261.out) hb)
                                          have n3_ := Aside0.mk (blk_below (g := gb269) (o := .cells #[.int .i64 t266, .int .i64 t267] 25 (0, 0)) (by (with_reducible repeat (first | refine blk_drewN ?_ _ | refine blk_drew ?_ | refine blk_alloc ?_ _)); exact BK269.out) hb)
                                          have n4_ := Aside0.mk (below_step (by repeat (first | (with_reducible first | exact HB.out | apply below_alloc | apply pw_below_drewN | apply below_drew1 | refine below_set ?_ GE261.out | refine below_set ?_ GE269.out) | exact HB.out)) hb)
                                          have n5_ := Aside0.mk (hbox)
                                          have n6_ := Aside0.mk ((by rw [hg]; exact (below_size (by repeat (first | (with_reducible first | exact HB.out | apply below_alloc | apply pw_below_drewN | apply below_drew1 | refine below_set ?_ GE261.out | refine below_set ?_ GE269.out) | exact HB.out))) : w.heap.size ≤ gb285))
                                          have n7_ := Aside0.mk ((by rw [hg]; exact (below_size (by repeat (first | (with_reducible first | exact HB.out | apply below_alloc | apply pw_below_drewN | apply below_drew1 | refine below_set ?_ GE261.out | refine below_set ?_ GE269.out) | exact HB.out))) : w.heap.size ≤ gb285))
                                          have n8_ := Aside0.mk ((by rw [hg]; exact Nat.ne_of_lt (blk_lt (g := gb261) (o := .cells #[.int .i64 t258, .int .i64 t259] 25 (0, 0)) (by (with_reducible repeat (first | refine blk_drewN ?_ _ | refine blk_drew ?_ | refine blk_alloc ?_ _)); exact BK261.out)) : gb261 ≠ gb285))
                                          have n9_ := Aside0.mk ((by rw [hg]; exact Nat.ne_of_gt (blk_lt (g := gb261) (o := .cells #[.int .i64 t258, .int .i64 t259] 25 (0, 0)) (by (with_reducible repeat (first | refine blk_drewN ?_ _ | refine blk_drew ?_ | refine blk_alloc ?_ _)); exact BK261.out)) : gb285 ≠ gb261))
                                          have n10_ := Aside0.mk ((by rw [hg]; exact Nat.ne_of_lt (blk_lt (g := gb269) (o := .cells #[.int .i64 t266, .int .i64 t267] 25 (0, 0)) (by (with_reducible repeat (first | refine blk_drewN ?_ _ | refine blk_drew ?_ | refine blk_alloc ?_ _)); exact BK269.out)) : gb269 ≠ gb285))
                                          have n11_ := Aside0.mk ((by rw [hg]; exact Nat.ne_of_gt (blk_lt (g := gb269) (o := .cells #[.int .i64 t266, .int .i64 t267] 25 (0, 0)) (by (with_reducible repeat (first | refine blk_drewN ?_ _ | refine blk_drew ?_ | refine blk_alloc ?_ _)); exact BK269.out)) : gb285 ≠ gb269))
                                          clear HO278
                                          clear HO281
                                          clear BK261
                                          clear BK269
                                          clear HB
                                          have HO278 := n0_
                                          have HO281 := n1_
                                          have BK261 := n2_
                                          have BK269 := n3_
                                          have HB := n4_
                                          have BK285 := n5_
                                          have GW285 := n6_
                                          have GE285 := n7_
                                          have NB261_285 := n8_
                                          have NB285_261 := n9_
                                          have NB269_285 := n10_
                                          have NB285_269 := n11_
                                          clear n0_ n1_ n2_ n3_ n4_ n5_ n6_ n7_ n8_ n9_ n10_ n11_
                                          clear hb hbox hg
                                          refine hK.out _ _ ⟨(blk_cell BK261.out 0).trans rfl, (blk_cell BK261.out 1).trans rfl⟩ (fun hHeld => ?_)
                                          clear hK K
                                          refine norm_ (a' := ?_) ?_ ?_
                                          rotate_left
                                          · show Act.put _ (some 13) _ = _
                                            simp only [Act.put, List.setIfInBounds_toArray, List.set_cons_zero, List.set_cons_succ, i64_w, i32_w]
                                            rfl
                                          exact norm_ (by first | (simp only [putAll, Act.put, List.setIfInBounds_toArray, List.set_cons_zero, List.set_cons_succ]; done) | (simp only [putAll, Act.put, List.setIfInBounds_toArray, List.set_cons_zero, List.set_cons_succ]; rfl)) (hJ0_2_4_5_11 (v271, v274, v277, (.slice Ao52 y279.length co52), gb285) _ ⟨hHeld, (by (with_reducible repeat (first | apply Kd.R_alloc | apply Kd.R_drewN | apply Kd.R_drew)); exact Kd.R_mono HO278.out (fun _ hk => ⟨hk.1.1, ⟨hk.1.2.1, ⟨hk.1.2.2, hk.2⟩⟩⟩)), (by (with_reducible repeat (first | apply Kd.R_alloc | apply Kd.R_drewN | apply Kd.R_drew)); exact Kd.R_mono HO281.out (fun _ hk => ⟨hk.1.1, ⟨hk.1.2.1, ⟨hk.1.2.2, hk.2⟩⟩⟩)), (by (with_reducible repeat (first | refine blk_drewN ?_ _ | refine blk_drew ?_ | refine blk_alloc ?_ _)); exact BK261.out), (by (with_reducible repeat (first | refine blk_drewN ?_ _ | refine blk_drew ?_ | refine blk_alloc ?_ _)); exact BK269.out), (by (with_reducible repeat (first | refine blk_drewN ?_ _ | refine blk_drew ?_ | refine blk_alloc ?_ _)); exact BK285.out), GW285.out, GE285.out, NB261_285.out, NB285_261.out, NB269_285.out, NB285_269.out, (by repeat (first | (with_reducible first | exact HB.out | apply below_alloc | apply pw_below_drewN | apply below_drew1 | refine below_set ?_ GE261.out | refine below_set ?_ GE269.out | refine below_set ?_ GE285.out) | exact HB.out))⟩)
                                    · skip
                                      rintro ⟨v271, v274, v277, v280, gb285⟩ w52 ⟨hS_, h0_, h1_, h2_, h3_, h4_, h5_, h6_, h7_, h8_, h9_, h10_, h11_⟩
                                      have n0_ : Aside0 (Kd.R k25 25 w52 w.heap.size (fun k_ => some k_ ≠ (v280 : Value).ownBlock ∧ k_ ≠ gb261 ∧ k_ ≠ gb269 ∧ k_ ≠ gb285) v277 y276) := ⟨h0_⟩
                                      have n1_ : Aside0 (Kd.R k25 25 w52 w.heap.size (fun k_ => some k_ ≠ (v277 : Value).ownBlock ∧ k_ ≠ gb261 ∧ k_ ≠ gb269 ∧ k_ ≠ gb285) v280 y279) := ⟨h1_⟩
                                      have n2_ : Aside0 (w52.heap[gb261]? = some (.cells #[.int .i64 t258, .int .i64 t259] 25 (0, 0))) := ⟨h2_⟩
                                      have n3_ : Aside0 (w52.heap[gb269]? = some (.cells #[.int .i64 t266, .int .i64 t267] 25 (0, 0))) := ⟨h3_⟩
                                      have n4_ : Aside0 (w52.heap[gb285]? = some (.cells #[.int .i64 0, .int .i64 0] 25 (0, 0))) := ⟨h4_⟩
                                      have n5_ : Aside0 (w.heap.size ≤ gb285) := ⟨h5_⟩
                                      have n6_ : Aside0 (w.heap.size ≤ gb285) := ⟨h6_⟩
                                      have n7_ : Aside0 (gb261 ≠ gb285) := ⟨h7_⟩
                                      have n8_ : Aside0 (gb285 ≠ gb261) := ⟨h8_⟩
                                      have n9_ : Aside0 (gb269 ≠ gb285) := ⟨h9_⟩
                                      have n10_ : Aside0 (gb285 ≠ gb269) := ⟨h10_⟩
                                      have n11_ : Aside0 (Below w.heap.size w w52) := ⟨h11_⟩
                                      clear BK261
                                      clear BK269
                                      clear HB
                                      clear h0_ h1_ h2_ h3_ h4_ h5_ h6_ h7_ h8_ h9_ h10_ h11_
                                      have HO278 := n0_
                                      have HO281 := n1_
                                      have BK261 := n2_
                                      have BK269 := n3_
                                      have BK285 := n4_
                                      have GW285 := n5_
                                      have GE285 := n6_
                                      have NB261_285 := n7_
                                      have NB285_261 := n8_
                                      have NB269_285 := n9_
                                      have NB285_269 := n10_
                                      have HB := n11_
                                      clear n0_ n1_ n2_ n3_ n4_ n5_ n6_ n7_ n8_ n9_ n10_ n11_
                                      have hHeld : w52.cell? ⟨gb261, 0, none⟩ = some (.int .i64 t258) ∧ w52.cell? ⟨gb261, 1, none⟩ = some (.int .i64 t259) := hS_
                                      obtain ⟨Ao53, co53, eo53⟩ := Kd.R_slice HO281.out
                                      (first | subst eo53 | (injection eo53 with f1_ f2_ f3_; have f4_ := f1_.symm; have f5_ := f3_.symm; clear f1_ f2_ f3_; subst f4_; subst f5_))
                                      refine norm_ (a' := ?_) ?_ ?_
                                      rotate_left
                                      · simp only [putAll, Act.put, List.setIfInBounds_toArray, List.set_cons_zero, List.set_cons_succ]
                                        rfl
                                      refine one_ (i := 7) (N := some 112) #[true, true, true, true, true, true, true, true, false, false, false, true, false, false] rfl rfl (one_of HT_.out (by kernel_rfl)) (by decide) (fun K hK => ?_)
                                      refine goes_ Try.func8 (by kernel_rfl) rfl #[.slice Ao53 y279.length co53, .int .i64 (Int.tmod (wrap64 ((Int.tmod a1 32) + 32)) 32)] (by rfl) rfl rfl (by (try simp only [List.map_toArray, List.map_cons, List.map_nil]); first | done | rfl | (simp only [List.length_drop, List.length_take]; rfl)) ?_
                                      with_reducible refine (hull_Hull.calls kj21 _ _ y279 (Int.tmod (wrap64 ((Int.tmod a1 32) + 32)) 32) t282 t283 t284 _ ?side1 ?side2 A37.out).mono ?_
                                      (case side1 => repeat (first | exact (Kd.R_reads' HO281.out).2.2 | (with_reducible refine Kd.C_alloc ?_ _) | (with_reducible refine Kd.C_drewN ?_ _) | (with_reducible refine Kd.C_drew ?_)))
                                      (case side2 => exact (Kd.R_reads' HO281.out).2.1)
                                      rintro e w54 ⟨rfl, hb⟩
                                      refine ⟨_, rfl, ?_⟩
                                      have n0_ := Aside0.mk (Kd.R_below (by (with_reducible repeat (first | apply Kd.R_alloc | apply Kd.R_drewN | apply Kd.R_drew)); exact HO278.out) hb)
                                      have n1_ := Aside0.mk (Kd.R_below (by (with_reducible repeat (first | apply Kd.R_alloc | apply Kd.R_drewN | apply Kd.R_drew)); exact HO281.out) hb)
                                      have n2_ := Aside0.mk (blk_below (g := gb261) (o := .cells #[.int .i64 t258, .int .i64 t259] 25 (0, 0)) (by (with_reducible repeat (first | refine blk_drewN ?_ _ | refine blk_drew ?_ | refine blk_alloc ?_ _)); exact BK261.out) hb)
                                      have n3_ := Aside0.mk (blk_below (g := gb269) (o := .cells #[.int .i64 t266, .int .i64 t267] 25 (0, 0)) (by (with_reducible repeat (first | refine blk_drewN ?_ _ | refine blk_drew ?_ | refine blk_alloc ?_ _)); exact BK269.out) hb)
                                      have n4_ := Aside0.mk (blk_below (g := gb285) (o := .cells #[.int .i64 0, .int .i64 0] 25 (0, 0)) (by (with_reducible repeat (first | refine blk_drewN ?_ _ | refine blk_drew ?_ | refine blk_alloc ?_ _)); exact BK285.out) hb)
                                      have n5_ := Aside0.mk (below_step (by repeat (first | (with_reducible first | exact HB.out | apply below_alloc | apply pw_below_drewN | apply below_drew1 | refine below_set ?_ GE261.out | refine below_set ?_ GE269.out | refine below_set ?_ GE285.out) | exact HB.out)) hb)
                                      clear HO278
                                      clear HO281
                                      clear BK261
                                      clear BK269
                                      clear BK285
                                      clear HB
                                      have HO278 := n0_
                                      have HO281 := n1_
                                      have BK261 := n2_
                                      have BK269 := n3_
                                      have BK285 := n4_
                                      have HB := n5_
                                      clear n0_ n1_ n2_ n3_ n4_ n5_
                                      (try clear hb)
                                      (try clear hb2)
                                      (try clear hk)
                                      (try clear hi)
                                      refine hK.out _ _ ⟨(blk_cell BK261.out 0).trans rfl, (blk_cell BK261.out 1).trans rfl⟩ (fun hHeld => ?_)
                                      clear hK K
                                      refine norm_ (a' := ?_) ?_ ?_
                                      rotate_left
                                      · show Act.put _ (some 112) _ = _
                                        simp only [Act.put, List.setIfInBounds_toArray, List.set_cons_zero, List.set_cons_succ, i64_w, i32_w]
                                        rfl
                                      refine pure_ (i := 8) (N := some 104) (v := ?_) (a' := ?_) #[true, true, true, true, true, true, true, true, true, false, false, true, false, false] rfl rfl (any_of HT_.out (by kernel_rfl)) (fun _ _ _ h => h) (Or.inl ⟨by rfl, ?_⟩) ?_ ?_
                                      rotate_left
                                      · intro w'
                                        go_simp
                                        with_reducible rfl
                                      rotate_left
                                      · simp only [Act.put, List.setIfInBounds_toArray, List.set_cons_zero, List.set_cons_succ, i64_w, i32_w]
                                        rfl
                                      refine pure_ (i := 9) (N := some 113) (v := ?_) (a' := ?_) #[true, true, true, true, true, true, true, true, true, true, false, true, false, false] rfl rfl (any_of HT_.out (by kernel_rfl)) (fun _ _ _ h => h) (Or.inl ⟨by rfl, ?_⟩) ?_ ?_
                                      rotate_left
                                      · intro w'
                                        go_simp
                                        with_reducible rfl
                                      rotate_left
                                      · simp only [Act.put, List.setIfInBounds_toArray, List.set_cons_zero, List.set_cons_succ, i64_w, i32_w]
                                        rfl
                                      refine pure_ (i := 10) (N := some 114) (v := ?_) (a' := ?_) #[true, true, true, true, true, true, true, true, true, true, true, true, false, false] rfl rfl (any_of HT_.out (by kernel_rfl)) (fun _ _ _ h => h) (Or.inl ⟨by rfl, ?_⟩) ?_ ?_
                                      rotate_left
                                      · intro w'
                                        go_simp
                                        with_reducible rfl
                                      rotate_left
                                      · simp only [Act.put, List.setIfInBounds_toArray, List.set_cons_zero, List.set_cons_succ, i64_w, i32_w]
                                        rfl
                                      exact norm_ (by first | (simp only [putAll, Act.put, List.setIfInBounds_toArray, List.set_cons_zero, List.set_cons_succ]; done) | (simp only [putAll, Act.put, List.setIfInBounds_toArray, List.set_cons_zero, List.set_cons_succ]; rfl)) (hJ0_2_4_5_7_11 (v271, v274, v277, .slice Ao53 y279.length co53, gb285) _ ⟨hHeld, (by (with_reducible repeat (first | apply Kd.R_alloc | apply Kd.R_drewN | apply Kd.R_drew)); exact HO278.out), (by (with_reducible repeat (first | apply Kd.R_alloc | apply Kd.R_drewN | apply Kd.R_drew)); exact HO281.out), (by (with_reducible repeat (first | refine blk_drewN ?_ _ | refine blk_drew ?_ | refine blk_alloc ?_ _)); exact BK261.out), (by (with_reducible repeat (first | refine blk_drewN ?_ _ | refine blk_drew ?_ | refine blk_alloc ?_ _)); exact BK269.out), (by (with_reducible repeat (first | refine blk_drewN ?_ _ | refine blk_drew ?_ | refine blk_alloc ?_ _)); exact BK285.out), GW285.out, GE285.out, NB261_285.out, NB285_261.out, NB269_285.out, NB285_269.out, (by repeat (first | (with_reducible first | exact HB.out | apply below_alloc | apply pw_below_drewN | apply below_drew1 | refine below_set ?_ GE261.out | refine below_set ?_ GE269.out | refine below_set ?_ GE285.out) | exact HB.out))⟩)
                                  · skip
                                    rintro ⟨v271, v274, v277, v280⟩ w53 ⟨hS_, h0_, h1_, h2_, h3_, h4_⟩
                                    have n0_ : Aside0 (Kd.R k25 25 w53 w.heap.size (fun k_ => some k_ ≠ (v280 : Value).ownBlock ∧ k_ ≠ gb261 ∧ k_ ≠ gb269) v277 y276) := ⟨h0_⟩
                                    have n1_ : Aside0 (Kd.R k25 25 w53 w.heap.size (fun k_ => some k_ ≠ (v277 : Value).ownBlock ∧ k_ ≠ gb261 ∧ k_ ≠ gb269) v280 y279) := ⟨h1_⟩
                                    have n2_ : Aside0 (w53.heap[gb261]? = some (.cells #[.int .i64 t258, .int .i64 t259] 25 (0, 0))) := ⟨h2_⟩
                                    have n3_ : Aside0 (w53.heap[gb269]? = some (.cells #[.int .i64 t266, .int .i64 t267] 25 (0, 0))) := ⟨h3_⟩
                                    have n4_ : Aside0 (Below w.heap.size w w53) := ⟨h4_⟩
                                    clear BK261
                                    clear BK269
                                    clear HB
                                    clear h0_ h1_ h2_ h3_ h4_
                                    have HO278 := n0_
                                    have HO281 := n1_
                                    have BK261 := n2_
                                    have BK269 := n3_
                                    have HB := n4_
                                    clear n0_ n1_ n2_ n3_ n4_
                                    have hHeld : w53.cell? ⟨gb261, 0, none⟩ = some (.int .i64 t258) ∧ w53.cell? ⟨gb261, 1, none⟩ = some (.int .i64 t259) := hS_
                                    refine norm_ (a' := ?_) ?_ ?_
                                    rotate_left
                                    · simp only [putAll, Act.put, List.setIfInBounds_toArray, List.set_cons_zero, List.set_cons_succ]
                                      rfl
                                    refine one_ (i := 11) (N := some 13) #[true, true, true, true, true, true, true, true, true, true, true, true, false, false] rfl rfl (one_of HT_.out (by kernel_rfl)) (by decide) (fun K hK => ?_)
                                    refine box_step ?hg (N := 13) ?hd (cs := #[.int .i64 0, .int .i64 0]) (t := 25) ?hr ?_; (case hd => rfl); (case hg => rfl); (case hr => first | (go_simp; done) | (go_simp; rfl))
                                    intro gb285 hg w54 hbox hb
                                    have n0_ := Aside0.mk (Kd.R_below (Kd.R_elderB (by (with_reducible repeat (first | apply Kd.R_alloc | apply Kd.R_drewN | apply Kd.R_drew)); exact HO278.out) gb285 (Nat.le_of_eq hg.symm)) hb)
                                    have n1_ := Aside0.mk (Kd.R_below (Kd.R_elderB (by (with_reducible repeat (first | apply Kd.R_alloc | apply Kd.R_drewN | apply Kd.R_drew)); exact HO281.out) gb285 (Nat.le_of_eq hg.symm)) hb)
                                    have n2_ := Aside0.mk (blk_below (g := gb261) (o := .cells #[.int .i64 t258, .int .i64 t259] 25 (0, 0)) (by (with_reducible repeat (first | refine blk_drewN ?_ _ | refine blk_drew ?_ | refine blk_alloc ?_ _)); exact BK261.out) hb)
                                    have n3_ := Aside0.mk (blk_below (g := gb269) (o := .cells #[.int .i64 t266, .int .i64 t267] 25 (0, 0)) (by (with_reducible repeat (first | refine blk_drewN ?_ _ | refine blk_drew ?_ | refine blk_alloc ?_ _)); exact BK269.out) hb)
                                    have n4_ := Aside0.mk (below_step (by repeat (first | (with_reducible first | exact HB.out | apply below_alloc | apply pw_below_drewN | apply below_drew1 | refine below_set ?_ GE261.out | refine below_set ?_ GE269.out) | exact HB.out)) hb)
                                    have n5_ := Aside0.mk (hbox)
                                    have n6_ := Aside0.mk ((by rw [hg]; exact (below_size (by repeat (first | (with_reducible first | exact HB.out | apply below_alloc | apply pw_below_drewN | apply below_drew1 | refine below_set ?_ GE261.out | refine below_set ?_ GE269.out) | exact HB.out))) : w.heap.size ≤ gb285))
                                    have n7_ := Aside0.mk ((by rw [hg]; exact (below_size (by repeat (first | (with_reducible first | exact HB.out | apply below_alloc | apply pw_below_drewN | apply below_drew1 | refine below_set ?_ GE261.out | refine below_set ?_ GE269.out) | exact HB.out))) : w.heap.size ≤ gb285))
                                    have n8_ := Aside0.mk ((by rw [hg]; exact Nat.ne_of_lt (blk_lt (g := gb261) (o := .cells #[.int .i64 t258, .int .i64 t259] 25 (0, 0)) (by (with_reducible repeat (first | refine blk_drewN ?_ _ | refine blk_drew ?_ | refine blk_alloc ?_ _)); exact BK261.out)) : gb261 ≠ gb285))
                                    have n9_ := Aside0.mk ((by rw [hg]; exact Nat.ne_of_gt (blk_lt (g := gb261) (o := .cells #[.int .i64 t258, .int .i64 t259] 25 (0, 0)) (by (with_reducible repeat (first | refine blk_drewN ?_ _ | refine blk_drew ?_ | refine blk_alloc ?_ _)); exact BK261.out)) : gb285 ≠ gb261))
                                    have n10_ := Aside0.mk ((by rw [hg]; exact Nat.ne_of_lt (blk_lt (g := gb269) (o := .cells #[.int .i64 t266, .int .i64 t267] 25 (0, 0)) (by (with_reducible repeat (first | refine blk_drewN ?_ _ | refine blk_drew ?_ | refine blk_alloc ?_ _)); exact BK269.out)) : gb269 ≠ gb285))
                                    have n11_ := Aside0.mk ((by rw [hg]; exact Nat.ne_of_gt (blk_lt (g := gb269) (o := .cells #[.int .i64 t266, .int .i64 t267] 25 (0, 0)) (by (with_reducible repeat (first | refine blk_drewN ?_ _ | refine blk_drew ?_ | refine blk_alloc ?_ _)); exact BK269.out)) : gb285 ≠ gb269))
                                    clear HO278
                                    clear HO281
                                    clear BK261
                                    clear BK269
                                    clear HB
                                    have HO278 := n0_
                                    have HO281 := n1_
                                    have BK261 := n2_
                                    have BK269 := n3_
                                    have HB := n4_
                                    have BK285 := n5_
                                    have GW285 := n6_
                                    have GE285 := n7_
                                    have NB261_285 := n8_
                                    have NB285_261 := n9_
                                    have NB269_285 := n10_
                                    have NB285_269 := n11_
                                    clear n0_ n1_ n2_ n3_ n4_ n5_ n6_ n7_ n8_ n9_ n10_ n11_
                                    clear hb hbox hg
                                    refine hK.out _ _ ⟨(blk_cell BK261.out 0).trans rfl, (blk_cell BK261.out 1).trans rfl⟩ (fun hHeld => ?_)
                                    clear hK K
                                    refine norm_ (a' := ?_) ?_ ?_
                                    rotate_left
                                    · show Act.put _ (some 13) _ = _
                                      simp only [Act.put, List.setIfInBounds_toArray, List.set_cons_zero, List.set_cons_succ, i64_w, i32_w]
                                      rfl
                                    exact norm_ (by first | (simp only [putAll, Act.put, List.setIfInBounds_toArray, List.set_cons_zero, List.set_cons_succ]; done) | (simp only [putAll, Act.put, List.setIfInBounds_toArray, List.set_cons_zero, List.set_cons_succ]; rfl)) (hJ0_2_4_5_7_11 (v271, v274, v277, v280, gb285) _ ⟨hHeld, (by (with_reducible repeat (first | apply Kd.R_alloc | apply Kd.R_drewN | apply Kd.R_drew)); exact Kd.R_mono HO278.out (fun _ hk => ⟨hk.1.1, ⟨hk.1.2.1, ⟨hk.1.2.2, hk.2⟩⟩⟩)), (by (with_reducible repeat (first | apply Kd.R_alloc | apply Kd.R_drewN | apply Kd.R_drew)); exact Kd.R_mono HO281.out (fun _ hk => ⟨hk.1.1, ⟨hk.1.2.1, ⟨hk.1.2.2, hk.2⟩⟩⟩)), (by (with_reducible repeat (first | refine blk_drewN ?_ _ | refine blk_drew ?_ | refine blk_alloc ?_ _)); exact BK261.out), (by (with_reducible repeat (first | refine blk_drewN ?_ _ | refine blk_drew ?_ | refine blk_alloc ?_ _)); exact BK269.out), (by (with_reducible repeat (first | refine blk_drewN ?_ _ | refine blk_drew ?_ | refine blk_alloc ?_ _)); exact BK285.out), GW285.out, GE285.out, NB261_285.out, NB285_261.out, NB269_285.out, NB285_269.out, (by repeat (first | (with_reducible first | exact HB.out | apply below_alloc | apply pw_below_drewN | apply below_drew1 | refine below_set ?_ GE261.out | refine below_set ?_ GE269.out | refine below_set ?_ GE285.out) | exact HB.out))⟩)
                                rintro ⟨v271, v274, v277, v280, gb285⟩ w54 ⟨hS_, h0_, h1_, h2_, h3_, h4_, h5_, h6_, h7_, h8_, h9_, h10_, h11_⟩
                                have n0_ : Aside0 (Kd.R k25 25 w54 w.heap.size (fun k_ => some k_ ≠ (v280 : Value).ownBlock ∧ k_ ≠ gb261 ∧ k_ ≠ gb269 ∧ k_ ≠ gb285) v277 y276) := ⟨h0_⟩
                                have n1_ : Aside0 (Kd.R k25 25 w54 w.heap.size (fun k_ => some k_ ≠ (v277 : Value).ownBlock ∧ k_ ≠ gb261 ∧ k_ ≠ gb269 ∧ k_ ≠ gb285) v280 y279) := ⟨h1_⟩
                                have n2_ : Aside0 (w54.heap[gb261]? = some (.cells #[.int .i64 t258, .int .i64 t259] 25 (0, 0))) := ⟨h2_⟩
                                have n3_ : Aside0 (w54.heap[gb269]? = some (.cells #[.int .i64 t266, .int .i64 t267] 25 (0, 0))) := ⟨h3_⟩
                                have n4_ : Aside0 (w54.heap[gb285]? = some (.cells #[.int .i64 0, .int .i64 0] 25 (0, 0))) := ⟨h4_⟩
                                have n5_ : Aside0 (w.heap.size ≤ gb285) := ⟨h5_⟩
                                have n6_ : Aside0 (w.heap.size ≤ gb285) := ⟨h6_⟩
                                have n7_ : Aside0 (gb261 ≠ gb285) := ⟨h7_⟩
                                have n8_ : Aside0 (gb285 ≠ gb261) := ⟨h8_⟩
                                have n9_ : Aside0 (gb269 ≠ gb285) := ⟨h9_⟩
                                have n10_ : Aside0 (gb285 ≠ gb269) := ⟨h10_⟩
                                have n11_ : Aside0 (Below w.heap.size w w54) := ⟨h11_⟩
                                clear BK261
                                clear BK269
                                clear HB
                                clear h0_ h1_ h2_ h3_ h4_ h5_ h6_ h7_ h8_ h9_ h10_ h11_
                                have HO278 := n0_
                                have HO281 := n1_
                                have BK261 := n2_
                                have BK269 := n3_
                                have BK285 := n4_
                                have GW285 := n5_
                                have GE285 := n6_
                                have NB261_285 := n7_
                                have NB285_261 := n8_
                                have NB269_285 := n9_
                                have NB285_269 := n10_
                                have HB := n11_
                                clear n0_ n1_ n2_ n3_ n4_ n5_ n6_ n7_ n8_ n9_ n10_ n11_
                                have hHeld : w54.cell? ⟨gb261, 0, none⟩ = some (.int .i64 t258) ∧ w54.cell? ⟨gb261, 1, none⟩ = some (.int .i64 t259) := hS_
                                refine norm_ (a' := ?_) ?_ ?_
                                rotate_left
                                · simp only [putAll, Act.put, List.setIfInBounds_toArray, List.set_cons_zero, List.set_cons_succ]
                                  rfl
                                refine one_ (i := 12) (N := none) #[true, true, true, true, true, true, true, true, true, true, true, true, true, false] rfl rfl (one_of HT_.out (by kernel_rfl)) (by decide) (fun K hK => ?_)
                                have hs55 : w54.cell? ⟨gb285, 0, none⟩ = some (.int .i64 0) := (blk_cell BK285.out 0).trans rfl
                                have hfs55 := blk_frozen BK285.out 0
                                have hns55_0 := NB261_285.out
                                have hns55_1 := NB269_285.out
                                have hms55_0 := NB285_261.out
                                have hms55_1 := NB285_269.out
                                have hs56 : w54.cell? ⟨gb285, 1, none⟩ = some (.int .i64 0) := (blk_cell BK285.out 1).trans rfl
                                have hfs56 := blk_frozen BK285.out 1
                                have hns56_0 := NB261_285.out
                                have hns56_1 := NB269_285.out
                                have hms56_0 := NB285_261.out
                                have hms56_1 := NB285_269.out
                                refine skip_ (w1 := ?_) (by rfl) rfl ?_ ?_
                                rotate_left
                                · go_simp
                                  rfl
                                refine hK.out _ _ ⟨((cell_far (p := ⟨gb285, _, none⟩) NB261_285.out _).trans (((cell_far (p := ⟨gb285, _, none⟩) NB261_285.out _).trans (hHeld.1)))), ((cell_far (p := ⟨gb285, _, none⟩) NB261_285.out _).trans (((cell_far (p := ⟨gb285, _, none⟩) NB261_285.out _).trans (hHeld.2))))⟩ (fun hHeld => ?_)
                                clear hK K
                                refine pure_ (i := 13) (N := some 14) (v := ?_) (a' := ?_) #[true, true, true, true, true, true, true, true, true, true, true, true, true, true] rfl rfl (any_of HT_.out (by kernel_rfl)) (fun _ _ _ h => h) (Or.inl ⟨by rfl, ?_⟩) ?_ ?_
                                rotate_left
                                · intro w'
                                  go_simp
                                  with_reducible rfl
                                rotate_left
                                · simp only [Act.put, List.setIfInBounds_toArray, List.set_cons_zero, List.set_cons_succ, i64_w, i32_w]
                                  rfl
                                refine done_ (done_of HT_.out (by kernel_rfl)) ?_
                                try go_wp2_with (first | ((with_reducible refine gate_dst (N := 117) rfl ?_); (try (refine gate_guard (by rfl) ?_; dsimp only)); refine Kd.R_lit k25 _ 25 ?hg (N := 117) ?hd (xs := ([(⟨(-2305843009213693952), 2305843009213693952⟩ : S25)] : List (S25))) (inner := [.int .i64 (-2305843009213693952), .int .i64 2305843009213693952]) (ok := fun _ => True) (okp := fun _ => True) ?hr ?hp (fun _ hk => hk) trivial (Below.refl _ _) (Nat.le_refl _) (by simp) ?_; (case hd => rfl); (case hg => rfl); (case hr => first | (go_simp; done) | (go_simp; rfl)); (case hp => exact (Reps.c2 (show Kd.M k25 _ _ _ (⟨(-2305843009213693952), 2305843009213693952⟩ : S25) [.int .i64 (-2305843009213693952), .int .i64 2305843009213693952] from (k25_mkM _ _ _ (⟨(-2305843009213693952), 2305843009213693952⟩ : S25) )) (Reps.none _ _))); intro v287 w57 ho58 hb hg_ hnew_; clear hg_ hnew_; (first | rw [← Ny286.out] at ho58 | (simp only [Int.reduceToNat] at ho58; rw [← Ny286.out] at ho58)); have n0_ := Aside0.mk (Kd.R_elder' (by (with_reducible repeat (first | apply Kd.R_alloc | apply Kd.R_drewN | apply Kd.R_drew)); exact (Kd.R_mono (Kd.R_far (p := ⟨gb285, 1, none⟩) (Kd.R_far (p := ⟨gb285, 0, none⟩) (Kd.R_mono HO278.out (fun k_ hk => (⟨hk, hk.2.2.2⟩ : _ ∧ k_ ≠ gb285))) (fun _ hk => hk.2) (.int .i64 t282)) (fun _ hk => hk.2) (.int .i64 t283)) (fun _ h_ => h_.1))) (Kd.R_base ho58) hb); have n1_ := Aside0.mk (Kd.R_elder' (by (with_reducible repeat (first | apply Kd.R_alloc | apply Kd.R_drewN | apply Kd.R_drew)); exact (Kd.R_mono (Kd.R_far (p := ⟨gb285, 1, none⟩) (Kd.R_far (p := ⟨gb285, 0, none⟩) (Kd.R_mono HO281.out (fun k_ hk => (⟨hk, hk.2.2.2⟩ : _ ∧ k_ ≠ gb285))) (fun _ hk => hk.2) (.int .i64 t282)) (fun _ hk => hk.2) (.int .i64 t283)) (fun _ h_ => h_.1))) (Kd.R_base ho58) hb); have n2_ := Aside0.mk (Kd.R_lower (Kd.R_newB (Kd.R_newB (Kd.R_newB (Kd.R_new' (Kd.R_new' ho58 (Kd.R_lt (by (with_reducible repeat (first | apply Kd.R_alloc | apply Kd.R_drewN | apply Kd.R_drew)); exact (Kd.R_mono (Kd.R_far (p := ⟨gb285, 1, none⟩) (Kd.R_far (p := ⟨gb285, 0, none⟩) (Kd.R_mono HO278.out (fun k_ hk => (⟨hk, hk.2.2.2⟩ : _ ∧ k_ ≠ gb285))) (fun _ hk => hk.2) (.int .i64 t282)) (fun _ hk => hk.2) (.int .i64 t283)) (fun _ h_ => h_.1))))) (Kd.R_lt (by (with_reducible repeat (first | apply Kd.R_alloc | apply Kd.R_drewN | apply Kd.R_drew)); exact (Kd.R_mono (Kd.R_far (p := ⟨gb285, 1, none⟩) (Kd.R_far (p := ⟨gb285, 0, none⟩) (Kd.R_mono HO281.out (fun k_ hk => (⟨hk, hk.2.2.2⟩ : _ ∧ k_ ≠ gb285))) (fun _ hk => hk.2) (.int .i64 t282)) (fun _ hk => hk.2) (.int .i64 t283)) (fun _ h_ => h_.1))))) (g := gb261) (o := .cells #[.int .i64 t258, .int .i64 t259] 25 (0, 0)) (by (with_reducible repeat (first | refine blk_drewN ?_ _ | refine blk_drew ?_ | refine blk_alloc ?_ _)); refine blk_far ?_ NB261_285.out _; (with_reducible repeat (first | refine blk_drewN ?_ _ | refine blk_drew ?_ | refine blk_alloc ?_ _)); refine blk_far ?_ NB261_285.out _; (with_reducible repeat (first | refine blk_drewN ?_ _ | refine blk_drew ?_ | refine blk_alloc ?_ _)); exact BK261.out)) (g := gb269) (o := .cells #[.int .i64 t266, .int .i64 t267] 25 (0, 0)) (by (with_reducible repeat (first | refine blk_drewN ?_ _ | refine blk_drew ?_ | refine blk_alloc ?_ _)); refine blk_far ?_ NB269_285.out _; (with_reducible repeat (first | refine blk_drewN ?_ _ | refine blk_drew ?_ | refine blk_alloc ?_ _)); refine blk_far ?_ NB269_285.out _; (with_reducible repeat (first | refine blk_drewN ?_ _ | refine blk_drew ?_ | refine blk_alloc ?_ _)); exact BK269.out)) (g := gb285) (o := .cells #[.int .i64 t282, .int .i64 t283] 25 (0, 0)) (by (with_reducible repeat (first | refine blk_drewN ?_ _ | refine blk_drew ?_ | refine blk_alloc ?_ _)); refine blk_put (cs := #[.int .i64 t282, .int .i64 0]) ?_ 1 _ rfl; (with_reducible repeat (first | refine blk_drewN ?_ _ | refine blk_drew ?_ | refine blk_alloc ?_ _)); refine blk_put (cs := #[.int .i64 0, .int .i64 0]) ?_ 0 _ rfl; (with_reducible repeat (first | refine blk_drewN ?_ _ | refine blk_drew ?_ | refine blk_alloc ?_ _)); exact BK285.out)) (below_size (by repeat (first | (with_reducible first | exact HB.out | apply below_alloc | apply pw_below_drewN | apply below_drew1 | refine below_set ?_ GE261.out | refine below_set ?_ GE269.out | refine below_set ?_ GE285.out) | exact HB.out)))); have n3_ := Aside0.mk (blk_below (g := gb261) (o := .cells #[.int .i64 t258, .int .i64 t259] 25 (0, 0)) (by (with_reducible repeat (first | refine blk_drewN ?_ _ | refine blk_drew ?_ | refine blk_alloc ?_ _)); refine blk_far ?_ NB261_285.out _; (with_reducible repeat (first | refine blk_drewN ?_ _ | refine blk_drew ?_ | refine blk_alloc ?_ _)); refine blk_far ?_ NB261_285.out _; (with_reducible repeat (first | refine blk_drewN ?_ _ | refine blk_drew ?_ | refine blk_alloc ?_ _)); exact BK261.out) hb); have n4_ := Aside0.mk (blk_below (g := gb269) (o := .cells #[.int .i64 t266, .int .i64 t267] 25 (0, 0)) (by (with_reducible repeat (first | refine blk_drewN ?_ _ | refine blk_drew ?_ | refine blk_alloc ?_ _)); refine blk_far ?_ NB269_285.out _; (with_reducible repeat (first | refine blk_drewN ?_ _ | refine blk_drew ?_ | refine blk_alloc ?_ _)); refine blk_far ?_ NB269_285.out _; (with_reducible repeat (first | refine blk_drewN ?_ _ | refine blk_drew ?_ | refine blk_alloc ?_ _)); exact BK269.out) hb); have n5_ := Aside0.mk (blk_below (g := gb285) (o := .cells #[.int .i64 t282, .int .i64 t283] 25 (0, 0)) (by (with_reducible repeat (first | refine blk_drewN ?_ _ | refine blk_drew ?_ | refine blk_alloc ?_ _)); refine blk_put (cs := #[.int .i64 t282, .int .i64 0]) ?_ 1 _ rfl; (with_reducible repeat (first | refine blk_drewN ?_ _ | refine blk_drew ?_ | refine blk_alloc ?_ _)); refine blk_put (cs := #[.int .i64 0, .int .i64 0]) ?_ 0 _ rfl; (with_reducible repeat (first | refine blk_drewN ?_ _ | refine blk_drew ?_ | refine blk_alloc ?_ _)); exact BK285.out) hb); have n6_ := Aside0.mk (below_step (by repeat (first | (with_reducible first | exact HB.out | apply below_alloc | apply pw_below_drewN | apply below_drew1 | refine below_set ?_ GE261.out | refine below_set ?_ GE269.out | refine below_set ?_ GE285.out) | exact HB.out)) hb); clear HO278; clear HO281; clear BK261; clear BK269; clear BK285; clear HB; have HO278 := n0_; have HO281 := n1_; have HO288 := n2_; have BK261 := n3_; have BK269 := n4_; have BK285 := n5_; have HB := n6_; clear n0_ n1_ n2_ n3_ n4_ n5_ n6_; clear hb ho58) | ((with_reducible refine gate_builtin (b := .append) (xs := #[.tmp 117, .tmp 118]) rfl ?_); (try (refine gate_guard (by rfl) ?_; dsimp only)); at_builtin; refine Kd.R_append_rows k25 (w0 := w) w.heap.size rfl (.tmp 117) (.tmp 118) 22 25 (.agg #[(.int .i64 0), (.int .i64 0)]) 16 rfl Try.underlying22 info25 rfl (by decide) (by omega) v287 y286 l0 _ _ _ (fun k_ => some k_ ≠ (v277 : Value).ownBlock ∧ some k_ ≠ (v280 : Value).ownBlock ∧ k_ ≠ gb261 ∧ k_ ≠ gb269 ∧ k_ ≠ gb285) (fun _ => False) rfl rfl ?aO ?aR (fun _ _ h => h) (fun _ h => h.elim) ?aF ?aB ?aS ?aL ?_; (case aR => repeat (first | exact (Kd.C_below HR0.out HB.out) | (with_reducible refine Kd.C_alloc ?_ _) | (with_reducible refine Kd.C_drewN ?_ _) | (with_reducible refine Kd.C_drew ?_))); (case aB => exact (by repeat (first | (with_reducible first | exact HB.out | apply below_alloc | apply pw_below_drewN | apply below_drew1 | refine below_set ?_ GE261.out | refine below_set ?_ GE269.out | refine below_set ?_ GE285.out) | exact HB.out))); (case aF => exact (fun k_ hk => ⟨Kd.fresh' (Kd.R_lt (by (with_reducible repeat (first | apply Kd.R_alloc | apply Kd.R_drewN | apply Kd.R_drew)); exact HO278.out)) k_ hk, Kd.fresh' (Kd.R_lt (by (with_reducible repeat (first | apply Kd.R_alloc | apply Kd.R_drewN | apply Kd.R_drew)); exact HO281.out)) k_ hk, Kd.freshB (g := gb261) (o := .cells #[.int .i64 t258, .int .i64 t259] 25 (0, 0)) (by (with_reducible repeat (first | refine blk_drewN ?_ _ | refine blk_drew ?_ | refine blk_alloc ?_ _)); exact BK261.out) k_ hk, Kd.freshB (g := gb269) (o := .cells #[.int .i64 t266, .int .i64 t267] 25 (0, 0)) (by (with_reducible repeat (first | refine blk_drewN ?_ _ | refine blk_drew ?_ | refine blk_alloc ?_ _)); exact BK269.out) k_ hk, Kd.freshB (g := gb285) (o := .cells #[.int .i64 t282, .int .i64 t283] 25 (0, 0)) (by (with_reducible repeat (first | refine blk_drewN ?_ _ | refine blk_drew ?_ | refine blk_alloc ?_ _)); exact BK285.out) k_ hk⟩)); (case aO => exact (by (with_reducible repeat (first | apply Kd.R_alloc | apply Kd.R_drewN | apply Kd.R_drew)); exact Kd.R_mono HO288.out (fun _ hk => ⟨hk.1.1.1.1.2, ⟨hk.1.1.1.2, ⟨hk.1.1.2, ⟨hk.1.2, hk.2⟩⟩⟩⟩))); (case aS => exact (below_size (by repeat (first | (with_reducible first | exact HB.out | apply below_alloc | apply pw_below_drewN | apply below_drew1 | refine below_set ?_ GE261.out | refine below_set ?_ GE269.out | refine below_set ?_ GE285.out) | exact HB.out)))); (case aL => have := LMc38.out; omega); intro v290 w59 ho hb hg hat; rw [← Ny289.out] at ho; have n0_ := Aside0.mk (blk_grown (g := gb261) (o := .cells #[.int .i64 t258, .int .i64 t259] 25 (0, 0)) (by (with_reducible repeat (first | refine blk_drewN ?_ _ | refine blk_drew ?_ | refine blk_alloc ?_ _)); exact BK261.out) hg (Kd.R_away HO288.out (fun _ hk => hk.1.1.2))); have n1_ := Aside0.mk (blk_grown (g := gb269) (o := .cells #[.int .i64 t266, .int .i64 t267] 25 (0, 0)) (by (with_reducible repeat (first | refine blk_drewN ?_ _ | refine blk_drew ?_ | refine blk_alloc ?_ _)); exact BK269.out) hg (Kd.R_away HO288.out (fun _ hk => hk.1.2))); have n2_ := Aside0.mk (Kd.R_after (ok := (fun k_ => some k_ ≠ (v280 : Value).ownBlock ∧ k_ ≠ gb261 ∧ k_ ≠ gb269 ∧ k_ ≠ gb285)) (by (with_reducible repeat (first | apply Kd.R_alloc | apply Kd.R_drewN | apply Kd.R_drew)); exact HO278.out) hg hat); have n3_ := Aside0.mk (Kd.R_after (ok := (fun k_ => some k_ ≠ (v277 : Value).ownBlock ∧ k_ ≠ gb261 ∧ k_ ≠ gb269 ∧ k_ ≠ gb285)) (by (with_reducible repeat (first | apply Kd.R_alloc | apply Kd.R_drewN | apply Kd.R_drew)); exact HO281.out) hg hat); have n4_ := Aside0.mk (blk_grown (g := gb285) (o := .cells #[.int .i64 t282, .int .i64 t283] 25 (0, 0)) (by (with_reducible repeat (first | refine blk_drewN ?_ _ | refine blk_drew ?_ | refine blk_alloc ?_ _)); exact BK285.out) hg (Kd.R_away HO288.out (fun _ hk => hk.2))); have n5_ := Aside0.mk (hb); have n6_ := Aside0.mk (ho); clear BK261; clear BK269; clear HO278; clear HO281; clear BK285; clear HB; clear HO288; have BK261 := n0_; have BK269 := n1_; have HO278 := n2_; have HO281 := n3_; have BK285 := n4_; have HB := n5_; have HO291 := n6_; clear n0_ n1_ n2_ n3_ n4_ n5_ n6_; clear ho hb hg hat; obtain ⟨Ao60, co60, eo60⟩ := Kd.R_slice HO291.out; subst eo60) | ((with_reducible refine gate_callee (f := 8) rfl ?_); refine goesL_ (some 121) rfl rfl Try.func8 (by kernel_rfl) rfl #[.slice Ao60 y289.length co60, .int .i64 (Int.tmod (wrap64 ((Int.tmod a1 32) + 32)) 32)] rfl (by (try simp only [List.map_toArray, List.map_cons, List.map_nil]); first | done | rfl | (simp only [List.length_drop, List.length_take]; rfl)) ?_; (with_reducible refine (hull_Hull.calls kj21 _ _ y289 (Int.tmod (wrap64 ((Int.tmod a1 32) + 32)) 32) t292 t293 t294 _ ?side1 ?side2 A39.out).mono ?_); (case side1 => repeat (first | exact (Kd.R_reads' HO291.out).2.2 | (with_reducible refine Kd.C_alloc ?_ _) | (with_reducible refine Kd.C_drewN ?_ _) | (with_reducible refine Kd.C_drew ?_))); (case side2 => exact (Kd.R_reads' HO291.out).2.1); rintro e w61 ⟨rfl, hb⟩; refine ⟨_, rfl, ?_⟩; have n0_ := Aside0.mk (Kd.R_below (by (with_reducible repeat (first | apply Kd.R_alloc | apply Kd.R_drewN | apply Kd.R_drew)); exact HO278.out) hb); have n1_ := Aside0.mk (Kd.R_below (by (with_reducible repeat (first | apply Kd.R_alloc | apply Kd.R_drewN | apply Kd.R_drew)); exact HO281.out) hb); have n2_ := Aside0.mk (Kd.R_below (by (with_reducible repeat (first | apply Kd.R_alloc | apply Kd.R_drewN | apply Kd.R_drew)); exact HO291.out) hb); have n3_ := Aside0.mk (blk_below (g := gb261) (o := .cells #[.int .i64 t258, .int .i64 t259] 25 (0, 0)) (by (with_reducible repeat (first | refine blk_drewN ?_ _ | refine blk_drew ?_ | refine blk_alloc ?_ _)); exact BK261.out) hb); have n4_ := Aside0.mk (blk_below (g := gb269) (o := .cells #[.int .i64 t266, .int .i64 t267] 25 (0, 0)) (by (with_reducible repeat (first | refine blk_drewN ?_ _ | refine blk_drew ?_ | refine blk_alloc ?_ _)); exact BK269.out) hb); have n5_ := Aside0.mk (blk_below (g := gb285) (o := .cells #[.int .i64 t282, .int .i64 t283] 25 (0, 0)) (by (with_reducible repeat (first | refine blk_drewN ?_ _ | refine blk_drew ?_ | refine blk_alloc ?_ _)); exact BK285.out) hb); have n6_ := Aside0.mk (below_step (by repeat (first | (with_reducible first | exact HB.out | apply below_alloc | apply pw_below_drewN | apply below_drew1 | refine below_set ?_ GE261.out | refine below_set ?_ GE269.out | refine below_set ?_ GE285.out) | exact HB.out)) hb); clear HO278; clear HO281; clear HO291; clear BK261; clear BK269; clear BK285; clear HB; have HO278 := n0_; have HO281 := n1_; have HO291 := n2_; have BK261 := n3_; have BK269 := n4_; have BK285 := n5_; have HB := n6_; clear n0_ n1_ n2_ n3_ n4_ n5_ n6_; (try clear hb); (try clear hb2); (try clear hk); (try clear hi)) | ((with_reducible refine gate_dst (N := 15) rfl ?_); (try (refine gate_guard (by rfl) ?_; dsimp only)); refine box_event ?hg (N := 15) ?hd (cs := #[.int .i64 0, .int .i64 0]) (t := 25) ?hr ?_; (case hd => rfl); (case hg => rfl); (case hr => first | (go_simp; done) | (go_simp; rfl)); intro gb295 hg w62 hbox hb; have n0_ := Aside0.mk (Kd.R_below (Kd.R_elderB (by (with_reducible repeat (first | apply Kd.R_alloc | apply Kd.R_drewN | apply Kd.R_drew)); exact HO278.out) gb295 (Nat.le_of_eq hg.symm)) hb); have n1_ := Aside0.mk (Kd.R_below (Kd.R_elderB (by (with_reducible repeat (first | apply Kd.R_alloc | apply Kd.R_drewN | apply Kd.R_drew)); exact HO281.out) gb295 (Nat.le_of_eq hg.symm)) hb); have n2_ := Aside0.mk (Kd.R_below (Kd.R_elderB (by (with_reducible repeat (first | apply Kd.R_alloc | apply Kd.R_drewN | apply Kd.R_drew)); exact HO291.out) gb295 (Nat.le_of_eq hg.symm)) hb); have n3_ := Aside0.mk (blk_below (g := gb261) (o := .cells #[.int .i64 t258, .int .i64 t259] 25 (0, 0)) (by (with_reducible repeat (first | refine blk_drewN ?_ _ | refine blk_drew ?_ | refine blk_alloc ?_ _)); exact BK261.out) hb); have n4_ := Aside0.mk (blk_below (g := gb269) (o := .cells #[.int .i64 t266, .int .i64 t267] 25 (0, 0)) (by (with_reducible repeat (first | refine blk_drewN ?_ _ | refine blk_drew ?_ | refine blk_alloc ?_ _)); exact BK269.out) hb); have n5_ := Aside0.mk (blk_below (g := gb285) (o := .cells #[.int .i64 t282, .int .i64 t283] 25 (0, 0)) (by (with_reducible repeat (first | refine blk_drewN ?_ _ | refine blk_drew ?_ | refine blk_alloc ?_ _)); exact BK285.out) hb); have n6_ := Aside0.mk (below_step (by repeat (first | (with_reducible first | exact HB.out | apply below_alloc | apply pw_below_drewN | apply below_drew1 | refine below_set ?_ GE261.out | refine below_set ?_ GE269.out | refine below_set ?_ GE285.out) | exact HB.out)) hb); have n7_ := Aside0.mk (hbox); have n8_ := Aside0.mk ((by rw [hg]; exact (below_size (by repeat (first | (with_reducible first | exact HB.out | apply below_alloc | apply pw_below_drewN | apply below_drew1 | refine below_set ?_ GE261.out | refine below_set ?_ GE269.out | refine below_set ?_ GE285.out) | exact HB.out))) : w.heap.size ≤ gb295)); have n9_ := Aside0.mk ((by rw [hg]; exact (below_size (by repeat (first | (with_reducible first | exact HB.out | apply below_alloc | apply pw_below_drewN | apply below_drew1 | refine below_set ?_ GE261.out | refine below_set ?_ GE269.out | refine below_set ?_ GE285.out) | exact HB.out))) : w.heap.size ≤ gb295)); have n10_ := Aside0.mk ((by rw [hg]; exact Nat.ne_of_lt (blk_lt (g := gb261) (o := .cells #[.int .i64 t258, .int .i64 t259] 25 (0, 0)) (by (with_reducible repeat (first | refine blk_drewN ?_ _ | refine blk_drew ?_ | refine blk_alloc ?_ _)); exact BK261.out)) : gb261 ≠ gb295)); have n11_ := Aside0.mk ((by rw [hg]; exact Nat.ne_of_gt (blk_lt (g := gb261) (o := .cells #[.int .i64 t258, .int .i64 t259] 25 (0, 0)) (by (with_reducible repeat (first | refine blk_drewN ?_ _ | refine blk_drew ?_ | refine blk_alloc ?_ _)); exact BK261.out)) : gb295 ≠ gb261)); have n12_ := Aside0.mk ((by rw [hg]; exact Nat.ne_of_lt (blk_lt (g := gb269) (o := .cells #[.int .i64 t266, .int .i64 t267] 25 (0, 0)) (by (with_reducible repeat (first | refine blk_drewN ?_ _ | refine blk_drew ?_ | refine blk_alloc ?_ _)); exact BK269.out)) : gb269 ≠ gb295)); have n13_ := Aside0.mk ((by rw [hg]; exact Nat.ne_of_gt (blk_lt (g := gb269) (o := .cells #[.int .i64 t266, .int .i64 t267] 25 (0, 0)) (by (with_reducible repeat (first | refine blk_drewN ?_ _ | refine blk_drew ?_ | refine blk_alloc ?_ _)); exact BK269.out)) : gb295 ≠ gb269)); have n14_ := Aside0.mk ((by rw [hg]; exact Nat.ne_of_lt (blk_lt (g := gb285) (o := .cells #[.int .i64 t282, .int .i64 t283] 25 (0, 0)) (by (with_reducible repeat (first | refine blk_drewN ?_ _ | refine blk_drew ?_ | refine blk_alloc ?_ _)); exact BK285.out)) : gb285 ≠ gb295)); have n15_ := Aside0.mk ((by rw [hg]; exact Nat.ne_of_gt (blk_lt (g := gb285) (o := .cells #[.int .i64 t282, .int .i64 t283] 25 (0, 0)) (by (with_reducible repeat (first | refine blk_drewN ?_ _ | refine blk_drew ?_ | refine blk_alloc ?_ _)); exact BK285.out)) : gb295 ≠ gb285)); clear HO278; clear HO281; clear HO291; clear BK261; clear BK269; clear BK285; clear HB; have HO278 := n0_; have HO281 := n1_; have HO291 := n2_; have BK261 := n3_; have BK269 := n4_; have BK285 := n5_; have HB := n6_; have BK295 := n7_; have GW295 := n8_; have GE295 := n9_; have NB261_295 := n10_; have NB295_261 := n11_; have NB269_295 := n12_; have NB295_269 := n13_; have NB285_295 := n14_; have NB295_285 := n15_; clear n0_ n1_ n2_ n3_ n4_ n5_ n6_ n7_ n8_ n9_ n10_ n11_ n12_ n13_ n14_ n15_; clear hb hbox hg; have hnb63 := NB295_261.out; have hnc63 := NB261_295.out; have hnb64 := NB295_269.out; have hnc64 := NB269_295.out; have hnb65 := NB295_285.out; have hnc65 := NB285_295.out; have hcz66_0 : w62.cell? ⟨gb295, 0, none⟩ = some (.int .i64 0) := (blk_cell BK295.out 0).trans rfl; have hcz66_1 : w62.cell? ⟨gb295, 1, none⟩ = some (.int .i64 0) := (blk_cell BK295.out 1).trans rfl; have hfz66_0 := blk_frozen BK295.out 0; have hfz66_1 := blk_frozen BK295.out 1; have hnb67 := NB285_261.out; have hnc67 := NB261_285.out; have hnb68 := NB285_269.out; have hnc68 := NB269_285.out; have hcz69_0 : w62.cell? ⟨gb285, 0, none⟩ = some (.int .i64 t282) := (blk_cell BK285.out 0).trans rfl; have hcz69_1 : w62.cell? ⟨gb285, 1, none⟩ = some (.int .i64 t283) := (blk_cell BK285.out 1).trans rfl; have hfz69_0 := blk_frozen BK285.out 0; have hfz69_1 := blk_frozen BK285.out 1; have hnb70 := NB261_269.out; have hnc70 := NB269_261.out; have hcz71_0 : w62.cell? ⟨gb261, 0, none⟩ = some (.int .i64 t258) := (blk_cell BK261.out 0).trans rfl; have hcz71_1 : w62.cell? ⟨gb261, 1, none⟩ = some (.int .i64 t259) := (blk_cell BK261.out 1).trans rfl; have hfz71_0 := blk_frozen BK261.out 0; have hfz71_1 := blk_frozen BK261.out 1))
                                go_ret
                                exact ⟨by first | rfl | (simp [errW_none, errW_some] <;> rfl) | (simp [*, errW_none, errW_some] <;> rfl), by repeat (first | (with_reducible first | exact HB.out | apply below_alloc | apply pw_below_drewN | apply below_drew1 | refine below_set ?_ GE261.out | refine below_set ?_ GE269.out | refine below_set ?_ GE285.out | refine below_set ?_ GE295.out) | exact HB.out)⟩
                              · rw [if_neg c42] at H
                                exact absurd H (by simp)
                            · rw [if_neg c41] at H
                              exact absurd H (by simp)
                          · rw [if_neg c40] at H
                            exact absurd H (by simp)
                        · rw [if_neg c38] at H
                          exact absurd H (by simp)
                      · rw [if_neg c36] at H
                        exact absurd H (by simp)
                    · rw [if_neg c35] at H
                      exact absurd H (by simp)
    · rw [if_neg c6] at H
      have c6b0 : (t260 == 0) = false := beq_eq_false_iff_ne.mpr c6
      have c6b1 : (t260 != 0) = true := bne_iff_ne.mpr c6
      obtain rfl := Option.some.inj H
      go_enter Try.func5, Try.ntmps5
      go_wp2_with (first | ((with_reducible refine gate_callee (f := 7) rfl ?_); refine goesL_ (some 17) rfl rfl Try.func7 (by kernel_rfl) rfl #[] rfl (by (try simp only [List.map_toArray, List.map_cons, List.map_nil]); first | done | rfl | (simp only [List.length_drop, List.length_take]; rfl)) ?_; (with_reducible refine (sundiallaw15_awake.calls k  true _ A3.out).mono ?_); rintro e w72 ⟨rfl, hb⟩; refine ⟨_, rfl, ?_⟩; have n0_ := Aside0.mk (below_step (by repeat (first | (with_reducible first | exact HB.out | apply below_alloc | apply pw_below_drewN | apply below_drew1) | exact HB.out)) hb); clear HB; have HB := n0_; clear n0_; (try clear hb); (try clear hb2); (try clear hk); (try clear hi)) | ((with_reducible refine gate_callee (f := 8) rfl ?_); refine goesL_ (some 26) rfl rfl Try.func8 (by kernel_rfl) rfl #[.slice A0 l0.length c0, .int .i64 (Int.tmod (wrap64 ((Int.tmod a1 32) + 32)) 32)] rfl (by (try simp only [List.map_toArray, List.map_cons, List.map_nil]); first | done | rfl | (simp only [List.length_drop, List.length_take]; rfl)) ?_; (with_reducible refine (hull_Hull.calls k _ _ l0 (Int.tmod (wrap64 ((Int.tmod a1 32) + 32)) 32) t258 t259 t260 _ ?side1 ?side2 A5.out).mono ?_); (case side1 => repeat (first | exact (Kd.C_below HR0.out HB.out) | (with_reducible refine Kd.C_alloc ?_ _) | (with_reducible refine Kd.C_drewN ?_ _) | (with_reducible refine Kd.C_drew ?_))); (case side2 => exact HC0.out); rintro e w73 ⟨rfl, hb⟩; refine ⟨_, rfl, ?_⟩; have n0_ := Aside0.mk (below_step (by repeat (first | (with_reducible first | exact HB.out | apply below_alloc | apply pw_below_drewN | apply below_drew1) | exact HB.out)) hb); clear HB; have HB := n0_; clear n0_; (try clear hb); (try clear hb2); (try clear hk); (try clear hi)) | ((with_reducible refine gate_dst (N := 5) rfl ?_); (try (refine gate_guard (by rfl) ?_; dsimp only)); refine box_event ?hg (N := 5) ?hd (cs := #[.int .i64 0, .int .i64 0]) (t := 25) ?hr ?_; (case hd => rfl); (case hg => rfl); (case hr => first | (go_simp; done) | (go_simp; rfl)); intro gb261 hg w74 hbox hb; have n0_ := Aside0.mk (below_step (by repeat (first | (with_reducible first | exact HB.out | apply below_alloc | apply pw_below_drewN | apply below_drew1) | exact HB.out)) hb); have n1_ := Aside0.mk (hbox); have n2_ := Aside0.mk ((by rw [hg]; exact (below_size (by repeat (first | (with_reducible first | exact HB.out | apply below_alloc | apply pw_below_drewN | apply below_drew1) | exact HB.out))) : w.heap.size ≤ gb261)); have n3_ := Aside0.mk ((by rw [hg]; exact (below_size (by repeat (first | (with_reducible first | exact HB.out | apply below_alloc | apply pw_below_drewN | apply below_drew1) | exact HB.out))) : w.heap.size ≤ gb261)); clear HB; have HB := n0_; have BK261 := n1_; have GW261 := n2_; have GE261 := n3_; clear n0_ n1_ n2_ n3_; clear hb hbox hg; have hcz75_0 : w74.cell? ⟨gb261, 0, none⟩ = some (.int .i64 0) := (blk_cell BK261.out 0).trans rfl; have hcz75_1 : w74.cell? ⟨gb261, 1, none⟩ = some (.int .i64 0) := (blk_cell BK261.out 1).trans rfl; have hfz75_0 := blk_frozen BK261.out 0; have hfz75_1 := blk_frozen BK261.out 1))
      go_ret
      exact ⟨by first | rfl | (simp [errW_none, errW_some] <;> rfl) | (simp [*, errW_none, errW_some] <;> rfl), by repeat (first | (with_reducible first | exact HB.out | apply below_alloc | apply pw_below_drewN | apply below_drew1 | refine below_set ?_ GE261.out) | exact HB.out)⟩
  · replace c4 := Bool.eq_false_iff.mpr c4
    subst c4
    have H1 : (none) = some r := by rw [if_neg (show ¬ (false = true) by decide)] at H; exact H
    clear H
    have H := H1
    clear H1
    exact absurd H (by simp)

end Go.Proofs.Ytopeelklnjbdoaa.Q
