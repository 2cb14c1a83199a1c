/- The law's functions, their contracts, and the plain lemmas: texts of this claim, laid together. -/
import Derived.Deep.Slices
import Derived.Deep.Fields
import Derived.ChangeSame
import Derived.OpenShut
import Derived.Test.YtclmedjighnkjaaMFnExactUnreached0
section
namespace Go.Proofs.Ytclmedjighnkjaa.G
open Go.RowKit Go.Proofs.YtclmedjighnkjaaW.PrintWords Go.Proofs.YtclmedjighnkjaaW.PrintLast Go.Proofs.YtclmedjighnkjaaW.PrintMore
attribute [local go_sem] max2_int min2_int max_two min_two max_three min_three max_four min_four
set_option linter.unusedVariables false
set_option linter.unusedSimpArgs false

/-! ### spec_l06Due: function 84 -/
def spec_l06Due.l0 : Nat → List (S69) → Int → Int → Int → Int → Int → Int → Int → Int → Option (Int × Int × Int × Int)
  | 0, _, _, _, _, _, _, _, _, _ => none
  | k + 1, x1, x2, x3, x9, x11, x104000, x104001, x104002, x104003 => if x11 < x2 then (if x11 ≥ 0 then (if 0 ≤ x11 then (if x11 < (x1.length : Int) then (if ((rd_T69 x1 x11).f3) ≥ 0 then (if x104000 < 0 then (spec_l06Due.l0 k x1 x2 x3 x9 (wrap64 (x11 + 1)) (IntKind.i8.wrap (x11)) ((rd_T69 x1 x11).f3) x104002 x104003) else (if ((rd_T69 x1 x11).f3) < x104001 then (spec_l06Due.l0 k x1 x2 x3 x9 (wrap64 (x11 + 1)) (IntKind.i8.wrap (x11)) ((rd_T69 x1 x11).f3) x104002 x104003) else (spec_l06Due.l0 k x1 x2 x3 x9 (wrap64 (x11 + 1)) x104000 x104001 x104002 x104003))) else (spec_l06Due.l0 k x1 x2 x3 x9 (wrap64 (x11 + 1)) x104000 x104001 x104002 x104003)) else (none)) else (none)) else (spec_l06Due.l0 k x1 x2 x3 x9 (wrap64 (x11 + 1)) x104000 x104001 x104002 x104003)) else (if x104000 ≥ 0 then (some (x104000, x104001, wrap64 (x104001 + x3), wrap64 ((wrap64 (x104001 + x3)) + x9))) else (some (x104000, x104001, x104002, x104003)))
def spec_l06Due.f (k : Nat) (l0 : List (S60)) (l1 : List (S69)) (a2 : Int) (a3 : Int) : Option (Int × Int × Int × Int) := if 0 ≤ a2 then (if a2 < (l0.length : Int) then (if a2 = 0 then (some ((-1), 0, 0, wrap64 ((rd_T60 l0 a2).f2))) else (spec_l06Due.l0 k l1 a2 a3 (wrap64 ((rd_T60 l0 a2).f2)) (wrap64 (a2 - (wrap64 ((rd_T60 l0 a2).f0)))) (-1) (-1) (-1) (-1))) else (none)) else (none)
set_option maxHeartbeats 8000000 in
set_option maxRecDepth 100000 in
theorem spec_l06Due.calls (k : Nat) (A0 : Option Addr) (c0 : Nat) (l0 : List (S60)) (A1 : Option Addr) (c1 : Nat) (l1 : List (S69)) (a2 : Int) (a3 : Int) (r1 : Int) (r2 : Int) (r3 : Int) (r4 : Int) (w : World) (hr0 : Kd.C k60 w A0 l0.length l0) (hc0 : l0.length ≤ c0) (hr1 : Kd.C k69 w A1 l1.length l1) (hc1 : l1.length ≤ c1) (h : spec_l06Due.f k l0 l1 a2 a3 = some (r1, r2, r3, r4)) :
    Calls Try.prog 84 #[.slice A0 l0.length c0, .slice A1 l1.length c1, .int .i64 a2, .int .i64 a3] w fun e w' => e = .returned (.agg #[.int .i8 r1, .int .i64 r2, .int .i64 r3, .int .i64 r4]) ∧ Below w.heap.size w w' := by
  have hu69 := Try.underlying69
  have HR0 := Aside0.mk hr0
  have HC0 := Aside0.mk hc0
  clear hr0 hc0
  have HR1 := Aside0.mk hr1
  have HC1 := Aside0.mk hc1
  clear hr1 hc1
  have HB := Aside0.mk (Below.refl w.heap.size w)
  have H : (if 0 ≤ a2 then (if a2 < (l0.length : Int) then (if a2 = 0 then (some ((-1), 0, 0, wrap64 ((rd_T60 l0 a2).f2))) else (spec_l06Due.l0 k l1 a2 a3 (wrap64 ((rd_T60 l0 a2).f2)) (wrap64 (a2 - (wrap64 ((rd_T60 l0 a2).f0)))) (-1) (-1) (-1) (-1))) else (none)) else (none)) = some (r1, r2, r3, r4) := h
  clear h
  by_cases c5 : 0 ≤ a2
  · rw [if_pos c5] at H
    have c5b0 : decide (0 ≤ a2) = true := decide_eq_true c5
    clear c5
    by_cases c6 : a2 < (l0.length : Int)
    · rw [if_pos c6] at H
      have c6b0 : decide (a2 < (l0.length : Int)) = true := decide_eq_true c6
      clear c6
      by_cases c7 : a2 = 0
      · rw [if_pos c7] at H
        have c7b0 : (a2 == 0) = true := beq_iff_eq.mpr c7
        have c7b1 : (a2 != 0) = false := bne_eq_false_iff_eq.mpr c7
        clear c7
        simp only [Option.some.injEq, Prod.mk.injEq] at H
        obtain ⟨rfl, rfl, rfl, rfl⟩ := H
        go_enter Try.func84, Try.ntmps84
        go_wp2_with (first | ((with_reducible refine gate_dst (N := 8) rfl ?_); refine box_event ?hg (N := 8) ?hd (cs := #[.int .i8 0, .int .i64 0, .int .i64 0, .int .i64 0]) (t := 69) ?hr ?_; (case hd => rfl); (case hg => rfl); (case hr => first | (go_simp; done) | (go_simp; rfl)); intro gb101 hg w8 hbox hb; have n0_ := Aside0.mk (below_step (by repeat (first | (with_reducible first | exact HB.out | apply below_alloc | apply pw_below_drewN | apply below_drew1) | exact HB.out)) hb); have n1_ := Aside0.mk (hbox); have n2_ := Aside0.mk ((by rw [hg]; exact (below_size (by repeat (first | (with_reducible first | exact HB.out | apply below_alloc | apply pw_below_drewN | apply below_drew1) | exact HB.out))) : w.heap.size ≤ gb101)); have n3_ := Aside0.mk ((by rw [hg]; exact (below_size (by repeat (first | (with_reducible first | exact HB.out | apply below_alloc | apply pw_below_drewN | apply below_drew1) | exact HB.out))) : w.heap.size ≤ gb101)); clear HB; have HB := n0_; have BK101 := n1_; have GW101 := n2_; have GE101 := n3_; clear n0_ n1_ n2_ n3_; clear hb hbox hg; have p102 : 0 ≤ (a2 : Int) := of_decide_eq_true (by first | (with_reducible assumption) | assumption); have q102 : a2 < (l0.length : Int) := of_decide_eq_true (by first | (with_reducible assumption) | assumption); obtain ⟨ad102, e102, hx102_0, hx102_1, hx102_2⟩ := at_T60 HR0.out a2 p102 q102; cases e102; replace hx102_0 := (HB.out.cell (World.block_lt_of_cell? w _ hx102_0)).trans hx102_0; replace hx102_1 := (HB.out.cell (World.block_lt_of_cell? w _ hx102_1)).trans hx102_1; replace hx102_2 := (HB.out.cell (World.block_lt_of_cell? w _ hx102_2)).trans hx102_2; replace p102 := eq_true p102; replace q102 := eq_true q102; have hcz9_0 : w8.cell? ⟨gb101, 0, none⟩ = some (.int .i8 0) := (blk_cell BK101.out 0).trans rfl; have hcz9_1 : w8.cell? ⟨gb101, 1, none⟩ = some (.int .i64 0) := (blk_cell BK101.out 1).trans rfl; have hcz9_2 : w8.cell? ⟨gb101, 2, none⟩ = some (.int .i64 0) := (blk_cell BK101.out 2).trans rfl; have hcz9_3 : w8.cell? ⟨gb101, 3, none⟩ = some (.int .i64 0) := (blk_cell BK101.out 3).trans rfl; have hfz9_0 := blk_frozen BK101.out 0; have hfz9_1 := blk_frozen BK101.out 1; have hfz9_2 := blk_frozen BK101.out 2; have hfz9_3 := blk_frozen BK101.out 3))
        repeat (go_quiet (first | ((with_reducible refine gate_dst (N := 8) rfl ?_); refine box_event ?hg (N := 8) ?hd (cs := #[.int .i8 0, .int .i64 0, .int .i64 0, .int .i64 0]) (t := 69) ?hr ?_; (case hd => rfl); (case hg => rfl); (case hr => first | (go_simp; done) | (go_simp; rfl)); intro gb101 hg w8 hbox hb; have n0_ := Aside0.mk (below_step (by repeat (first | (with_reducible first | exact HB.out | apply below_alloc | apply pw_below_drewN | apply below_drew1) | exact HB.out)) hb); have n1_ := Aside0.mk (hbox); have n2_ := Aside0.mk ((by rw [hg]; exact (below_size (by repeat (first | (with_reducible first | exact HB.out | apply below_alloc | apply pw_below_drewN | apply below_drew1) | exact HB.out))) : w.heap.size ≤ gb101)); have n3_ := Aside0.mk ((by rw [hg]; exact (below_size (by repeat (first | (with_reducible first | exact HB.out | apply below_alloc | apply pw_below_drewN | apply below_drew1) | exact HB.out))) : w.heap.size ≤ gb101)); clear HB; have HB := n0_; have BK101 := n1_; have GW101 := n2_; have GE101 := n3_; clear n0_ n1_ n2_ n3_; clear hb hbox hg; have p102 : 0 ≤ (a2 : Int) := of_decide_eq_true (by first | (with_reducible assumption) | assumption); have q102 : a2 < (l0.length : Int) := of_decide_eq_true (by first | (with_reducible assumption) | assumption); obtain ⟨ad102, e102, hx102_0, hx102_1, hx102_2⟩ := at_T60 HR0.out a2 p102 q102; cases e102; replace hx102_0 := (HB.out.cell (World.block_lt_of_cell? w _ hx102_0)).trans hx102_0; replace hx102_1 := (HB.out.cell (World.block_lt_of_cell? w _ hx102_1)).trans hx102_1; replace hx102_2 := (HB.out.cell (World.block_lt_of_cell? w _ hx102_2)).trans hx102_2; replace p102 := eq_true p102; replace q102 := eq_true q102; have hcz9_0 : w8.cell? ⟨gb101, 0, none⟩ = some (.int .i8 0) := (blk_cell BK101.out 0).trans rfl; have hcz9_1 : w8.cell? ⟨gb101, 1, none⟩ = some (.int .i64 0) := (blk_cell BK101.out 1).trans rfl; have hcz9_2 : w8.cell? ⟨gb101, 2, none⟩ = some (.int .i64 0) := (blk_cell BK101.out 2).trans rfl; have hcz9_3 : w8.cell? ⟨gb101, 3, none⟩ = some (.int .i64 0) := (blk_cell BK101.out 3).trans rfl; have hfz9_0 := blk_frozen BK101.out 0; have hfz9_1 := blk_frozen BK101.out 1; have hfz9_2 := blk_frozen BK101.out 2; have hfz9_3 := blk_frozen BK101.out 3)); try go_wp2_with (first | ((with_reducible refine gate_dst (N := 8) rfl ?_); refine box_event ?hg (N := 8) ?hd (cs := #[.int .i8 0, .int .i64 0, .int .i64 0, .int .i64 0]) (t := 69) ?hr ?_; (case hd => rfl); (case hg => rfl); (case hr => first | (go_simp; done) | (go_simp; rfl)); intro gb101 hg w8 hbox hb; have n0_ := Aside0.mk (below_step (by repeat (first | (with_reducible first | exact HB.out | apply below_alloc | apply pw_below_drewN | apply below_drew1) | exact HB.out)) hb); have n1_ := Aside0.mk (hbox); have n2_ := Aside0.mk ((by rw [hg]; exact (below_size (by repeat (first | (with_reducible first | exact HB.out | apply below_alloc | apply pw_below_drewN | apply below_drew1) | exact HB.out))) : w.heap.size ≤ gb101)); have n3_ := Aside0.mk ((by rw [hg]; exact (below_size (by repeat (first | (with_reducible first | exact HB.out | apply below_alloc | apply pw_below_drewN | apply below_drew1) | exact HB.out))) : w.heap.size ≤ gb101)); clear HB; have HB := n0_; have BK101 := n1_; have GW101 := n2_; have GE101 := n3_; clear n0_ n1_ n2_ n3_; clear hb hbox hg; have p102 : 0 ≤ (a2 : Int) := of_decide_eq_true (by first | (with_reducible assumption) | assumption); have q102 : a2 < (l0.length : Int) := of_decide_eq_true (by first | (with_reducible assumption) | assumption); obtain ⟨ad102, e102, hx102_0, hx102_1, hx102_2⟩ := at_T60 HR0.out a2 p102 q102; cases e102; replace hx102_0 := (HB.out.cell (World.block_lt_of_cell? w _ hx102_0)).trans hx102_0; replace hx102_1 := (HB.out.cell (World.block_lt_of_cell? w _ hx102_1)).trans hx102_1; replace hx102_2 := (HB.out.cell (World.block_lt_of_cell? w _ hx102_2)).trans hx102_2; replace p102 := eq_true p102; replace q102 := eq_true q102; have hcz9_0 : w8.cell? ⟨gb101, 0, none⟩ = some (.int .i8 0) := (blk_cell BK101.out 0).trans rfl; have hcz9_1 : w8.cell? ⟨gb101, 1, none⟩ = some (.int .i64 0) := (blk_cell BK101.out 1).trans rfl; have hcz9_2 : w8.cell? ⟨gb101, 2, none⟩ = some (.int .i64 0) := (blk_cell BK101.out 2).trans rfl; have hcz9_3 : w8.cell? ⟨gb101, 3, none⟩ = some (.int .i64 0) := (blk_cell BK101.out 3).trans rfl; have hfz9_0 := blk_frozen BK101.out 0; have hfz9_1 := blk_frozen BK101.out 1; have hfz9_2 := blk_frozen BK101.out 2; have hfz9_3 := blk_frozen BK101.out 3)))
        refine bodyPost_ret (results_cell_row rfl _ _ gb101 69 #[.int .i8 (-1), .int .i64 0, .int .i64 0, .int .i64 (wrap64 ((rd_T60 l0 a2).f2))] (0, 0) _ rfl (by (with_reducible repeat (first | refine blk_drewN ?_ _ | refine blk_drew ?_ | refine blk_alloc ?_ _)); refine blk_put (cs := #[.int .i8 (-1), .int .i64 0, .int .i64 0, .int .i64 0]) ?_ 3 _ rfl; (with_reducible repeat (first | refine blk_drewN ?_ _ | refine blk_drew ?_ | refine blk_alloc ?_ _)); refine blk_put (cs := #[.int .i8 (-1), .int .i64 0, .int .i64 0, .int .i64 0]) ?_ 2 _ rfl; (with_reducible repeat (first | refine blk_drewN ?_ _ | refine blk_drew ?_ | refine blk_alloc ?_ _)); refine blk_put (cs := #[.int .i8 (-1), .int .i64 0, .int .i64 0, .int .i64 0]) ?_ 1 _ rfl; (with_reducible repeat (first | refine blk_drewN ?_ _ | refine blk_drew ?_ | refine blk_alloc ?_ _)); refine blk_put (cs := #[.int .i8 0, .int .i64 0, .int .i64 0, .int .i64 0]) ?_ 0 _ rfl; (with_reducible repeat (first | refine blk_drewN ?_ _ | refine blk_drew ?_ | refine blk_alloc ?_ _)); exact BK101.out) Try.underlying69 rfl (by kernel_rfl)) rfl ?_
        exact ⟨by first | rfl | (simp [errW_none, errW_some, IntKind.wrap_i64, wrap64]; done) | (simp [errW_none, errW_some] <;> rfl) | (simp [*, errW_none, errW_some] <;> rfl), by repeat (first | (with_reducible first | exact HB.out | apply below_alloc | apply pw_below_drewN | apply below_drew1 | refine below_set ?_ GE101.out) | exact HB.out)⟩
      · rw [if_neg c7] at H
        have c7b0 : (a2 == 0) = false := beq_eq_false_iff_ne.mpr c7
        have c7b1 : (a2 != 0) = true := bne_iff_ne.mpr c7
        have H' := Aside0.mk H
        clear H
        go_enter Try.func84, Try.ntmps84
        go_wp2_with (first | ((with_reducible refine gate_dst (N := 8) rfl ?_); refine box_event ?hg (N := 8) ?hd (cs := #[.int .i8 0, .int .i64 0, .int .i64 0, .int .i64 0]) (t := 69) ?hr ?_; (case hd => rfl); (case hg => rfl); (case hr => first | (go_simp; done) | (go_simp; rfl)); intro gb101 hg w10 hbox hb; have n0_ := Aside0.mk (below_step (by repeat (first | (with_reducible first | exact HB.out | apply below_alloc | apply pw_below_drewN | apply below_drew1) | exact HB.out)) hb); have n1_ := Aside0.mk (hbox); have n2_ := Aside0.mk ((by rw [hg]; exact (below_size (by repeat (first | (with_reducible first | exact HB.out | apply below_alloc | apply pw_below_drewN | apply below_drew1) | exact HB.out))) : w.heap.size ≤ gb101)); have n3_ := Aside0.mk ((by rw [hg]; exact (below_size (by repeat (first | (with_reducible first | exact HB.out | apply below_alloc | apply pw_below_drewN | apply below_drew1) | exact HB.out))) : w.heap.size ≤ gb101)); clear HB; have HB := n0_; have BK101 := n1_; have GW101 := n2_; have GE101 := n3_; clear n0_ n1_ n2_ n3_; clear hb hbox hg; have p102 : 0 ≤ (a2 : Int) := of_decide_eq_true (by first | (with_reducible assumption) | assumption); have q102 : a2 < (l0.length : Int) := of_decide_eq_true (by first | (with_reducible assumption) | assumption); obtain ⟨ad102, e102, hx102_0, hx102_1, hx102_2⟩ := at_T60 HR0.out a2 p102 q102; cases e102; replace hx102_0 := (HB.out.cell (World.block_lt_of_cell? w _ hx102_0)).trans hx102_0; replace hx102_1 := (HB.out.cell (World.block_lt_of_cell? w _ hx102_1)).trans hx102_1; replace hx102_2 := (HB.out.cell (World.block_lt_of_cell? w _ hx102_2)).trans hx102_2; replace p102 := eq_true p102; replace q102 := eq_true q102) | ((with_reducible refine gate_dst (N := 10) rfl ?_); refine box_event ?hg (N := 10) ?hd (cs := #[.int .i8 0, .int .i64 0, .int .i64 0, .int .i64 0]) (t := 69) ?hr ?_; (case hd => rfl); (case hg => rfl); (case hr => first | (go_simp; done) | (go_simp; rfl)); intro gb103 hg w11 hbox hb; have n0_ := Aside0.mk (blk_below (g := gb101) (o := .cells #[.int .i8 0, .int .i64 0, .int .i64 0, .int .i64 0] 69 (0, 0)) (by (with_reducible repeat (first | refine blk_drewN ?_ _ | refine blk_drew ?_ | refine blk_alloc ?_ _)); exact BK101.out) hb); have n1_ := Aside0.mk (below_step (by repeat (first | (with_reducible first | exact HB.out | apply below_alloc | apply pw_below_drewN | apply below_drew1 | refine below_set ?_ GE101.out) | exact HB.out)) hb); have n2_ := Aside0.mk (hbox); have n3_ := Aside0.mk ((by rw [hg]; exact (below_size (by repeat (first | (with_reducible first | exact HB.out | apply below_alloc | apply pw_below_drewN | apply below_drew1 | refine below_set ?_ GE101.out) | exact HB.out))) : w.heap.size ≤ gb103)); have n4_ := Aside0.mk ((by rw [hg]; exact (below_size (by repeat (first | (with_reducible first | exact HB.out | apply below_alloc | apply pw_below_drewN | apply below_drew1 | refine below_set ?_ GE101.out) | exact HB.out))) : w.heap.size ≤ gb103)); have n5_ := Aside0.mk ((by rw [hg]; exact Nat.ne_of_lt (blk_lt (g := gb101) (o := .cells #[.int .i8 0, .int .i64 0, .int .i64 0, .int .i64 0] 69 (0, 0)) (by (with_reducible repeat (first | refine blk_drewN ?_ _ | refine blk_drew ?_ | refine blk_alloc ?_ _)); exact BK101.out)) : gb101 ≠ gb103)); have n6_ := Aside0.mk ((by rw [hg]; exact Nat.ne_of_gt (blk_lt (g := gb101) (o := .cells #[.int .i8 0, .int .i64 0, .int .i64 0, .int .i64 0] 69 (0, 0)) (by (with_reducible repeat (first | refine blk_drewN ?_ _ | refine blk_drew ?_ | refine blk_alloc ?_ _)); exact BK101.out)) : gb103 ≠ gb101)); clear BK101; clear HB; have BK101 := n0_; have HB := n1_; have BK103 := n2_; have GW103 := n3_; have GE103 := n4_; have NB101_103 := n5_; have NB103_101 := n6_; clear n0_ n1_ n2_ n3_ n4_ n5_ n6_; clear hb hbox hg; have hnb12 := NB103_101.out; have hnc12 := NB101_103.out; have hcz13_0 : w11.cell? ⟨gb103, 0, none⟩ = some (.int .i8 0) := (blk_cell BK103.out 0).trans rfl; have hcz13_1 : w11.cell? ⟨gb103, 1, none⟩ = some (.int .i64 0) := (blk_cell BK103.out 1).trans rfl; have hcz13_2 : w11.cell? ⟨gb103, 2, none⟩ = some (.int .i64 0) := (blk_cell BK103.out 2).trans rfl; have hcz13_3 : w11.cell? ⟨gb103, 3, none⟩ = some (.int .i64 0) := (blk_cell BK103.out 3).trans rfl; have hfz13_0 := blk_frozen BK103.out 0; have hfz13_1 := blk_frozen BK103.out 1; have hfz13_2 := blk_frozen BK103.out 2; have hfz13_3 := blk_frozen BK103.out 3; have p104 : 0 ≤ (a2 : Int) := of_decide_eq_true (by first | (with_reducible assumption) | assumption); have q104 : a2 < (l0.length : Int) := of_decide_eq_true (by first | (with_reducible assumption) | assumption); obtain ⟨ad104, e104, hx104_0, hx104_1, hx104_2⟩ := at_T60 HR0.out a2 p104 q104; obtain rfl : ad102 = ad104 := (by injection e104); have hn104_0 : ad102.block ≠ gb103 := Nat.ne_of_lt (Nat.lt_of_lt_of_le (by have := World.block_lt_of_cell? _ _ hx104_0; first | rwa [add_block] at this | exact this) GW103.out); have hn104_1 : ad102.block ≠ gb103 := Nat.ne_of_lt (Nat.lt_of_lt_of_le (by have := World.block_lt_of_cell? _ _ hx104_0; first | rwa [add_block] at this | exact this) GW103.out); have hn104_2 : ad102.block ≠ gb103 := Nat.ne_of_lt (Nat.lt_of_lt_of_le (by have := World.block_lt_of_cell? _ _ hx104_0; first | rwa [add_block] at this | exact this) GW103.out); have hn104_3 : ad102.block ≠ gb103 := Nat.ne_of_lt (Nat.lt_of_lt_of_le (by have := World.block_lt_of_cell? _ _ hx104_0; first | rwa [add_block] at this | exact this) GW103.out); replace hx104_0 := (HB.out.cell (World.block_lt_of_cell? w _ hx104_0)).trans hx104_0; replace hx104_1 := (HB.out.cell (World.block_lt_of_cell? w _ hx104_1)).trans hx104_1; replace hx104_2 := (HB.out.cell (World.block_lt_of_cell? w _ hx104_2)).trans hx104_2; replace hx104_0 := (cell_far (p := ⟨gb103, 0, none⟩) (by first | (rw [add_block]; exact hn104_0) | (show (Addr.add _ _).block ≠ _; rw [add_block]; exact hn104_0) | exact hn104_0) (.int .i8 (-1))).trans hx104_0; replace hx104_1 := (cell_far (p := ⟨gb103, 0, none⟩) (by first | (rw [add_block]; exact hn104_0) | (show (Addr.add _ _).block ≠ _; rw [add_block]; exact hn104_0) | exact hn104_0) (.int .i8 (-1))).trans hx104_1; replace hx104_2 := (cell_far (p := ⟨gb103, 0, none⟩) (by first | (rw [add_block]; exact hn104_0) | (show (Addr.add _ _).block ≠ _; rw [add_block]; exact hn104_0) | exact hn104_0) (.int .i8 (-1))).trans hx104_2; replace hx104_0 := (cell_far (p := ⟨gb103, 1, none⟩) (by first | (rw [add_block]; exact hn104_1) | (show (Addr.add _ _).block ≠ _; rw [add_block]; exact hn104_1) | exact hn104_1) (.int .i64 (-1))).trans hx104_0; replace hx104_1 := (cell_far (p := ⟨gb103, 1, none⟩) (by first | (rw [add_block]; exact hn104_1) | (show (Addr.add _ _).block ≠ _; rw [add_block]; exact hn104_1) | exact hn104_1) (.int .i64 (-1))).trans hx104_1; replace hx104_2 := (cell_far (p := ⟨gb103, 1, none⟩) (by first | (rw [add_block]; exact hn104_1) | (show (Addr.add _ _).block ≠ _; rw [add_block]; exact hn104_1) | exact hn104_1) (.int .i64 (-1))).trans hx104_2; replace hx104_0 := (cell_far (p := ⟨gb103, 2, none⟩) (by first | (rw [add_block]; exact hn104_2) | (show (Addr.add _ _).block ≠ _; rw [add_block]; exact hn104_2) | exact hn104_2) (.int .i64 (-1))).trans hx104_0; replace hx104_1 := (cell_far (p := ⟨gb103, 2, none⟩) (by first | (rw [add_block]; exact hn104_2) | (show (Addr.add _ _).block ≠ _; rw [add_block]; exact hn104_2) | exact hn104_2) (.int .i64 (-1))).trans hx104_1; replace hx104_2 := (cell_far (p := ⟨gb103, 2, none⟩) (by first | (rw [add_block]; exact hn104_2) | (show (Addr.add _ _).block ≠ _; rw [add_block]; exact hn104_2) | exact hn104_2) (.int .i64 (-1))).trans hx104_2; replace hx104_0 := (cell_far (p := ⟨gb103, 3, none⟩) (by first | (rw [add_block]; exact hn104_3) | (show (Addr.add _ _).block ≠ _; rw [add_block]; exact hn104_3) | exact hn104_3) (.int .i64 (-1))).trans hx104_0; replace hx104_1 := (cell_far (p := ⟨gb103, 3, none⟩) (by first | (rw [add_block]; exact hn104_3) | (show (Addr.add _ _).block ≠ _; rw [add_block]; exact hn104_3) | exact hn104_3) (.int .i64 (-1))).trans hx104_1; replace hx104_2 := (cell_far (p := ⟨gb103, 3, none⟩) (by first | (rw [add_block]; exact hn104_3) | (show (Addr.add _ _).block ≠ _; rw [add_block]; exact hn104_3) | exact hn104_3) (.int .i64 (-1))).trans hx104_2; (try have hy104_0 := fun (n_ : Nat) => (show ((((((w11.drewN n_).setCell ⟨gb103, 0, none⟩ (.int .i8 (-1))).setCell ⟨gb103, 1, none⟩ (.int .i64 (-1))).setCell ⟨gb103, 2, none⟩ (.int .i64 (-1))).setCell ⟨gb103, 3, none⟩ (.int .i64 (-1)))).cell? _ = some _ from hx104_0)); (try have hy104_1 := fun (n_ : Nat) => (show ((((((w11.drewN n_).setCell ⟨gb103, 0, none⟩ (.int .i8 (-1))).setCell ⟨gb103, 1, none⟩ (.int .i64 (-1))).setCell ⟨gb103, 2, none⟩ (.int .i64 (-1))).setCell ⟨gb103, 3, none⟩ (.int .i64 (-1)))).cell? _ = some _ from hx104_1)); (try have hy104_2 := fun (n_ : Nat) => (show ((((((w11.drewN n_).setCell ⟨gb103, 0, none⟩ (.int .i8 (-1))).setCell ⟨gb103, 1, none⟩ (.int .i64 (-1))).setCell ⟨gb103, 2, none⟩ (.int .i64 (-1))).setCell ⟨gb103, 3, none⟩ (.int .i64 (-1)))).cell? _ = some _ from hx104_2)); clear hn104_0; clear hn104_1; clear hn104_2; clear hn104_3; replace p104 := eq_true p104; replace q104 := eq_true q104))
        repeat (go_quiet (first | ((with_reducible refine gate_dst (N := 8) rfl ?_); refine box_event ?hg (N := 8) ?hd (cs := #[.int .i8 0, .int .i64 0, .int .i64 0, .int .i64 0]) (t := 69) ?hr ?_; (case hd => rfl); (case hg => rfl); (case hr => first | (go_simp; done) | (go_simp; rfl)); intro gb101 hg w10 hbox hb; have n0_ := Aside0.mk (below_step (by repeat (first | (with_reducible first | exact HB.out | apply below_alloc | apply pw_below_drewN | apply below_drew1) | exact HB.out)) hb); have n1_ := Aside0.mk (hbox); have n2_ := Aside0.mk ((by rw [hg]; exact (below_size (by repeat (first | (with_reducible first | exact HB.out | apply below_alloc | apply pw_below_drewN | apply below_drew1) | exact HB.out))) : w.heap.size ≤ gb101)); have n3_ := Aside0.mk ((by rw [hg]; exact (below_size (by repeat (first | (with_reducible first | exact HB.out | apply below_alloc | apply pw_below_drewN | apply below_drew1) | exact HB.out))) : w.heap.size ≤ gb101)); clear HB; have HB := n0_; have BK101 := n1_; have GW101 := n2_; have GE101 := n3_; clear n0_ n1_ n2_ n3_; clear hb hbox hg; have p102 : 0 ≤ (a2 : Int) := of_decide_eq_true (by first | (with_reducible assumption) | assumption); have q102 : a2 < (l0.length : Int) := of_decide_eq_true (by first | (with_reducible assumption) | assumption); obtain ⟨ad102, e102, hx102_0, hx102_1, hx102_2⟩ := at_T60 HR0.out a2 p102 q102; cases e102; replace hx102_0 := (HB.out.cell (World.block_lt_of_cell? w _ hx102_0)).trans hx102_0; replace hx102_1 := (HB.out.cell (World.block_lt_of_cell? w _ hx102_1)).trans hx102_1; replace hx102_2 := (HB.out.cell (World.block_lt_of_cell? w _ hx102_2)).trans hx102_2; replace p102 := eq_true p102; replace q102 := eq_true q102) | ((with_reducible refine gate_dst (N := 10) rfl ?_); refine box_event ?hg (N := 10) ?hd (cs := #[.int .i8 0, .int .i64 0, .int .i64 0, .int .i64 0]) (t := 69) ?hr ?_; (case hd => rfl); (case hg => rfl); (case hr => first | (go_simp; done) | (go_simp; rfl)); intro gb103 hg w11 hbox hb; have n0_ := Aside0.mk (blk_below (g := gb101) (o := .cells #[.int .i8 0, .int .i64 0, .int .i64 0, .int .i64 0] 69 (0, 0)) (by (with_reducible repeat (first | refine blk_drewN ?_ _ | refine blk_drew ?_ | refine blk_alloc ?_ _)); exact BK101.out) hb); have n1_ := Aside0.mk (below_step (by repeat (first | (with_reducible first | exact HB.out | apply below_alloc | apply pw_below_drewN | apply below_drew1 | refine below_set ?_ GE101.out) | exact HB.out)) hb); have n2_ := Aside0.mk (hbox); have n3_ := Aside0.mk ((by rw [hg]; exact (below_size (by repeat (first | (with_reducible first | exact HB.out | apply below_alloc | apply pw_below_drewN | apply below_drew1 | refine below_set ?_ GE101.out) | exact HB.out))) : w.heap.size ≤ gb103)); have n4_ := Aside0.mk ((by rw [hg]; exact (below_size (by repeat (first | (with_reducible first | exact HB.out | apply below_alloc | apply pw_below_drewN | apply below_drew1 | refine below_set ?_ GE101.out) | exact HB.out))) : w.heap.size ≤ gb103)); have n5_ := Aside0.mk ((by rw [hg]; exact Nat.ne_of_lt (blk_lt (g := gb101) (o := .cells #[.int .i8 0, .int .i64 0, .int .i64 0, .int .i64 0] 69 (0, 0)) (by (with_reducible repeat (first | refine blk_drewN ?_ _ | refine blk_drew ?_ | refine blk_alloc ?_ _)); exact BK101.out)) : gb101 ≠ gb103)); have n6_ := Aside0.mk ((by rw [hg]; exact Nat.ne_of_gt (blk_lt (g := gb101) (o := .cells #[.int .i8 0, .int .i64 0, .int .i64 0, .int .i64 0] 69 (0, 0)) (by (with_reducible repeat (first | refine blk_drewN ?_ _ | refine blk_drew ?_ | refine blk_alloc ?_ _)); exact BK101.out)) : gb103 ≠ gb101)); clear BK101; clear HB; have BK101 := n0_; have HB := n1_; have BK103 := n2_; have GW103 := n3_; have GE103 := n4_; have NB101_103 := n5_; have NB103_101 := n6_; clear n0_ n1_ n2_ n3_ n4_ n5_ n6_; clear hb hbox hg; have hnb12 := NB103_101.out; have hnc12 := NB101_103.out; have hcz13_0 : w11.cell? ⟨gb103, 0, none⟩ = some (.int .i8 0) := (blk_cell BK103.out 0).trans rfl; have hcz13_1 : w11.cell? ⟨gb103, 1, none⟩ = some (.int .i64 0) := (blk_cell BK103.out 1).trans rfl; have hcz13_2 : w11.cell? ⟨gb103, 2, none⟩ = some (.int .i64 0) := (blk_cell BK103.out 2).trans rfl; have hcz13_3 : w11.cell? ⟨gb103, 3, none⟩ = some (.int .i64 0) := (blk_cell BK103.out 3).trans rfl; have hfz13_0 := blk_frozen BK103.out 0; have hfz13_1 := blk_frozen BK103.out 1; have hfz13_2 := blk_frozen BK103.out 2; have hfz13_3 := blk_frozen BK103.out 3; have p104 : 0 ≤ (a2 : Int) := of_decide_eq_true (by first | (with_reducible assumption) | assumption); have q104 : a2 < (l0.length : Int) := of_decide_eq_true (by first | (with_reducible assumption) | assumption); obtain ⟨ad104, e104, hx104_0, hx104_1, hx104_2⟩ := at_T60 HR0.out a2 p104 q104; obtain rfl : ad102 = ad104 := (by injection e104); have hn104_0 : ad102.block ≠ gb103 := Nat.ne_of_lt (Nat.lt_of_lt_of_le (by have := World.block_lt_of_cell? _ _ hx104_0; first | rwa [add_block] at this | exact this) GW103.out); have hn104_1 : ad102.block ≠ gb103 := Nat.ne_of_lt (Nat.lt_of_lt_of_le (by have := World.block_lt_of_cell? _ _ hx104_0; first | rwa [add_block] at this | exact this) GW103.out); have hn104_2 : ad102.block ≠ gb103 := Nat.ne_of_lt (Nat.lt_of_lt_of_le (by have := World.block_lt_of_cell? _ _ hx104_0; first | rwa [add_block] at this | exact this) GW103.out); have hn104_3 : ad102.block ≠ gb103 := Nat.ne_of_lt (Nat.lt_of_lt_of_le (by have := World.block_lt_of_cell? _ _ hx104_0; first | rwa [add_block] at this | exact this) GW103.out); replace hx104_0 := (HB.out.cell (World.block_lt_of_cell? w _ hx104_0)).trans hx104_0; replace hx104_1 := (HB.out.cell (World.block_lt_of_cell? w _ hx104_1)).trans hx104_1; replace hx104_2 := (HB.out.cell (World.block_lt_of_cell? w _ hx104_2)).trans hx104_2; replace hx104_0 := (cell_far (p := ⟨gb103, 0, none⟩) (by first | (rw [add_block]; exact hn104_0) | (show (Addr.add _ _).block ≠ _; rw [add_block]; exact hn104_0) | exact hn104_0) (.int .i8 (-1))).trans hx104_0; replace hx104_1 := (cell_far (p := ⟨gb103, 0, none⟩) (by first | (rw [add_block]; exact hn104_0) | (show (Addr.add _ _).block ≠ _; rw [add_block]; exact hn104_0) | exact hn104_0) (.int .i8 (-1))).trans hx104_1; replace hx104_2 := (cell_far (p := ⟨gb103, 0, none⟩) (by first | (rw [add_block]; exact hn104_0) | (show (Addr.add _ _).block ≠ _; rw [add_block]; exact hn104_0) | exact hn104_0) (.int .i8 (-1))).trans hx104_2; replace hx104_0 := (cell_far (p := ⟨gb103, 1, none⟩) (by first | (rw [add_block]; exact hn104_1) | (show (Addr.add _ _).block ≠ _; rw [add_block]; exact hn104_1) | exact hn104_1) (.int .i64 (-1))).trans hx104_0; replace hx104_1 := (cell_far (p := ⟨gb103, 1, none⟩) (by first | (rw [add_block]; exact hn104_1) | (show (Addr.add _ _).block ≠ _; rw [add_block]; exact hn104_1) | exact hn104_1) (.int .i64 (-1))).trans hx104_1; replace hx104_2 := (cell_far (p := ⟨gb103, 1, none⟩) (by first | (rw [add_block]; exact hn104_1) | (show (Addr.add _ _).block ≠ _; rw [add_block]; exact hn104_1) | exact hn104_1) (.int .i64 (-1))).trans hx104_2; replace hx104_0 := (cell_far (p := ⟨gb103, 2, none⟩) (by first | (rw [add_block]; exact hn104_2) | (show (Addr.add _ _).block ≠ _; rw [add_block]; exact hn104_2) | exact hn104_2) (.int .i64 (-1))).trans hx104_0; replace hx104_1 := (cell_far (p := ⟨gb103, 2, none⟩) (by first | (rw [add_block]; exact hn104_2) | (show (Addr.add _ _).block ≠ _; rw [add_block]; exact hn104_2) | exact hn104_2) (.int .i64 (-1))).trans hx104_1; replace hx104_2 := (cell_far (p := ⟨gb103, 2, none⟩) (by first | (rw [add_block]; exact hn104_2) | (show (Addr.add _ _).block ≠ _; rw [add_block]; exact hn104_2) | exact hn104_2) (.int .i64 (-1))).trans hx104_2; replace hx104_0 := (cell_far (p := ⟨gb103, 3, none⟩) (by first | (rw [add_block]; exact hn104_3) | (show (Addr.add _ _).block ≠ _; rw [add_block]; exact hn104_3) | exact hn104_3) (.int .i64 (-1))).trans hx104_0; replace hx104_1 := (cell_far (p := ⟨gb103, 3, none⟩) (by first | (rw [add_block]; exact hn104_3) | (show (Addr.add _ _).block ≠ _; rw [add_block]; exact hn104_3) | exact hn104_3) (.int .i64 (-1))).trans hx104_1; replace hx104_2 := (cell_far (p := ⟨gb103, 3, none⟩) (by first | (rw [add_block]; exact hn104_3) | (show (Addr.add _ _).block ≠ _; rw [add_block]; exact hn104_3) | exact hn104_3) (.int .i64 (-1))).trans hx104_2; (try have hy104_0 := fun (n_ : Nat) => (show ((((((w11.drewN n_).setCell ⟨gb103, 0, none⟩ (.int .i8 (-1))).setCell ⟨gb103, 1, none⟩ (.int .i64 (-1))).setCell ⟨gb103, 2, none⟩ (.int .i64 (-1))).setCell ⟨gb103, 3, none⟩ (.int .i64 (-1)))).cell? _ = some _ from hx104_0)); (try have hy104_1 := fun (n_ : Nat) => (show ((((((w11.drewN n_).setCell ⟨gb103, 0, none⟩ (.int .i8 (-1))).setCell ⟨gb103, 1, none⟩ (.int .i64 (-1))).setCell ⟨gb103, 2, none⟩ (.int .i64 (-1))).setCell ⟨gb103, 3, none⟩ (.int .i64 (-1)))).cell? _ = some _ from hx104_1)); (try have hy104_2 := fun (n_ : Nat) => (show ((((((w11.drewN n_).setCell ⟨gb103, 0, none⟩ (.int .i8 (-1))).setCell ⟨gb103, 1, none⟩ (.int .i64 (-1))).setCell ⟨gb103, 2, none⟩ (.int .i64 (-1))).setCell ⟨gb103, 3, none⟩ (.int .i64 (-1)))).cell? _ = some _ from hx104_2)); clear hn104_0; clear hn104_1; clear hn104_2; clear hn104_3; replace p104 := eq_true p104; replace q104 := eq_true q104)); try go_wp2_with (first | ((with_reducible refine gate_dst (N := 8) rfl ?_); refine box_event ?hg (N := 8) ?hd (cs := #[.int .i8 0, .int .i64 0, .int .i64 0, .int .i64 0]) (t := 69) ?hr ?_; (case hd => rfl); (case hg => rfl); (case hr => first | (go_simp; done) | (go_simp; rfl)); intro gb101 hg w10 hbox hb; have n0_ := Aside0.mk (below_step (by repeat (first | (with_reducible first | exact HB.out | apply below_alloc | apply pw_below_drewN | apply below_drew1) | exact HB.out)) hb); have n1_ := Aside0.mk (hbox); have n2_ := Aside0.mk ((by rw [hg]; exact (below_size (by repeat (first | (with_reducible first | exact HB.out | apply below_alloc | apply pw_below_drewN | apply below_drew1) | exact HB.out))) : w.heap.size ≤ gb101)); have n3_ := Aside0.mk ((by rw [hg]; exact (below_size (by repeat (first | (with_reducible first | exact HB.out | apply below_alloc | apply pw_below_drewN | apply below_drew1) | exact HB.out))) : w.heap.size ≤ gb101)); clear HB; have HB := n0_; have BK101 := n1_; have GW101 := n2_; have GE101 := n3_; clear n0_ n1_ n2_ n3_; clear hb hbox hg; have p102 : 0 ≤ (a2 : Int) := of_decide_eq_true (by first | (with_reducible assumption) | assumption); have q102 : a2 < (l0.length : Int) := of_decide_eq_true (by first | (with_reducible assumption) | assumption); obtain ⟨ad102, e102, hx102_0, hx102_1, hx102_2⟩ := at_T60 HR0.out a2 p102 q102; cases e102; replace hx102_0 := (HB.out.cell (World.block_lt_of_cell? w _ hx102_0)).trans hx102_0; replace hx102_1 := (HB.out.cell (World.block_lt_of_cell? w _ hx102_1)).trans hx102_1; replace hx102_2 := (HB.out.cell (World.block_lt_of_cell? w _ hx102_2)).trans hx102_2; replace p102 := eq_true p102; replace q102 := eq_true q102) | ((with_reducible refine gate_dst (N := 10) rfl ?_); refine box_event ?hg (N := 10) ?hd (cs := #[.int .i8 0, .int .i64 0, .int .i64 0, .int .i64 0]) (t := 69) ?hr ?_; (case hd => rfl); (case hg => rfl); (case hr => first | (go_simp; done) | (go_simp; rfl)); intro gb103 hg w11 hbox hb; have n0_ := Aside0.mk (blk_below (g := gb101) (o := .cells #[.int .i8 0, .int .i64 0, .int .i64 0, .int .i64 0] 69 (0, 0)) (by (with_reducible repeat (first | refine blk_drewN ?_ _ | refine blk_drew ?_ | refine blk_alloc ?_ _)); exact BK101.out) hb); have n1_ := Aside0.mk (below_step (by repeat (first | (with_reducible first | exact HB.out | apply below_alloc | apply pw_below_drewN | apply below_drew1 | refine below_set ?_ GE101.out) | exact HB.out)) hb); have n2_ := Aside0.mk (hbox); have n3_ := Aside0.mk ((by rw [hg]; exact (below_size (by repeat (first | (with_reducible first | exact HB.out | apply below_alloc | apply pw_below_drewN | apply below_drew1 | refine below_set ?_ GE101.out) | exact HB.out))) : w.heap.size ≤ gb103)); have n4_ := Aside0.mk ((by rw [hg]; exact (below_size (by repeat (first | (with_reducible first | exact HB.out | apply below_alloc | apply pw_below_drewN | apply below_drew1 | refine below_set ?_ GE101.out) | exact HB.out))) : w.heap.size ≤ gb103)); have n5_ := Aside0.mk ((by rw [hg]; exact Nat.ne_of_lt (blk_lt (g := gb101) (o := .cells #[.int .i8 0, .int .i64 0, .int .i64 0, .int .i64 0] 69 (0, 0)) (by (with_reducible repeat (first | refine blk_drewN ?_ _ | refine blk_drew ?_ | refine blk_alloc ?_ _)); exact BK101.out)) : gb101 ≠ gb103)); have n6_ := Aside0.mk ((by rw [hg]; exact Nat.ne_of_gt (blk_lt (g := gb101) (o := .cells #[.int .i8 0, .int .i64 0, .int .i64 0, .int .i64 0] 69 (0, 0)) (by (with_reducible repeat (first | refine blk_drewN ?_ _ | refine blk_drew ?_ | refine blk_alloc ?_ _)); exact BK101.out)) : gb103 ≠ gb101)); clear BK101; clear HB; have BK101 := n0_; have HB := n1_; have BK103 := n2_; have GW103 := n3_; have GE103 := n4_; have NB101_103 := n5_; have NB103_101 := n6_; clear n0_ n1_ n2_ n3_ n4_ n5_ n6_; clear hb hbox hg; have hnb12 := NB103_101.out; have hnc12 := NB101_103.out; have hcz13_0 : w11.cell? ⟨gb103, 0, none⟩ = some (.int .i8 0) := (blk_cell BK103.out 0).trans rfl; have hcz13_1 : w11.cell? ⟨gb103, 1, none⟩ = some (.int .i64 0) := (blk_cell BK103.out 1).trans rfl; have hcz13_2 : w11.cell? ⟨gb103, 2, none⟩ = some (.int .i64 0) := (blk_cell BK103.out 2).trans rfl; have hcz13_3 : w11.cell? ⟨gb103, 3, none⟩ = some (.int .i64 0) := (blk_cell BK103.out 3).trans rfl; have hfz13_0 := blk_frozen BK103.out 0; have hfz13_1 := blk_frozen BK103.out 1; have hfz13_2 := blk_frozen BK103.out 2; have hfz13_3 := blk_frozen BK103.out 3; have p104 : 0 ≤ (a2 : Int) := of_decide_eq_true (by first | (with_reducible assumption) | assumption); have q104 : a2 < (l0.length : Int) := of_decide_eq_true (by first | (with_reducible assumption) | assumption); obtain ⟨ad104, e104, hx104_0, hx104_1, hx104_2⟩ := at_T60 HR0.out a2 p104 q104; obtain rfl : ad102 = ad104 := (by injection e104); have hn104_0 : ad102.block ≠ gb103 := Nat.ne_of_lt (Nat.lt_of_lt_of_le (by have := World.block_lt_of_cell? _ _ hx104_0; first | rwa [add_block] at this | exact this) GW103.out); have hn104_1 : ad102.block ≠ gb103 := Nat.ne_of_lt (Nat.lt_of_lt_of_le (by have := World.block_lt_of_cell? _ _ hx104_0; first | rwa [add_block] at this | exact this) GW103.out); have hn104_2 : ad102.block ≠ gb103 := Nat.ne_of_lt (Nat.lt_of_lt_of_le (by have := World.block_lt_of_cell? _ _ hx104_0; first | rwa [add_block] at this | exact this) GW103.out); have hn104_3 : ad102.block ≠ gb103 := Nat.ne_of_lt (Nat.lt_of_lt_of_le (by have := World.block_lt_of_cell? _ _ hx104_0; first | rwa [add_block] at this | exact this) GW103.out); replace hx104_0 := (HB.out.cell (World.block_lt_of_cell? w _ hx104_0)).trans hx104_0; replace hx104_1 := (HB.out.cell (World.block_lt_of_cell? w _ hx104_1)).trans hx104_1; replace hx104_2 := (HB.out.cell (World.block_lt_of_cell? w _ hx104_2)).trans hx104_2; replace hx104_0 := (cell_far (p := ⟨gb103, 0, none⟩) (by first | (rw [add_block]; exact hn104_0) | (show (Addr.add _ _).block ≠ _; rw [add_block]; exact hn104_0) | exact hn104_0) (.int .i8 (-1))).trans hx104_0; replace hx104_1 := (cell_far (p := ⟨gb103, 0, none⟩) (by first | (rw [add_block]; exact hn104_0) | (show (Addr.add _ _).block ≠ _; rw [add_block]; exact hn104_0) | exact hn104_0) (.int .i8 (-1))).trans hx104_1; replace hx104_2 := (cell_far (p := ⟨gb103, 0, none⟩) (by first | (rw [add_block]; exact hn104_0) | (show (Addr.add _ _).block ≠ _; rw [add_block]; exact hn104_0) | exact hn104_0) (.int .i8 (-1))).trans hx104_2; replace hx104_0 := (cell_far (p := ⟨gb103, 1, none⟩) (by first | (rw [add_block]; exact hn104_1) | (show (Addr.add _ _).block ≠ _; rw [add_block]; exact hn104_1) | exact hn104_1) (.int .i64 (-1))).trans hx104_0; replace hx104_1 := (cell_far (p := ⟨gb103, 1, none⟩) (by first | (rw [add_block]; exact hn104_1) | (show (Addr.add _ _).block ≠ _; rw [add_block]; exact hn104_1) | exact hn104_1) (.int .i64 (-1))).trans hx104_1; replace hx104_2 := (cell_far (p := ⟨gb103, 1, none⟩) (by first | (rw [add_block]; exact hn104_1) | (show (Addr.add _ _).block ≠ _; rw [add_block]; exact hn104_1) | exact hn104_1) (.int .i64 (-1))).trans hx104_2; replace hx104_0 := (cell_far (p := ⟨gb103, 2, none⟩) (by first | (rw [add_block]; exact hn104_2) | (show (Addr.add _ _).block ≠ _; rw [add_block]; exact hn104_2) | exact hn104_2) (.int .i64 (-1))).trans hx104_0; replace hx104_1 := (cell_far (p := ⟨gb103, 2, none⟩) (by first | (rw [add_block]; exact hn104_2) | (show (Addr.add _ _).block ≠ _; rw [add_block]; exact hn104_2) | exact hn104_2) (.int .i64 (-1))).trans hx104_1; replace hx104_2 := (cell_far (p := ⟨gb103, 2, none⟩) (by first | (rw [add_block]; exact hn104_2) | (show (Addr.add _ _).block ≠ _; rw [add_block]; exact hn104_2) | exact hn104_2) (.int .i64 (-1))).trans hx104_2; replace hx104_0 := (cell_far (p := ⟨gb103, 3, none⟩) (by first | (rw [add_block]; exact hn104_3) | (show (Addr.add _ _).block ≠ _; rw [add_block]; exact hn104_3) | exact hn104_3) (.int .i64 (-1))).trans hx104_0; replace hx104_1 := (cell_far (p := ⟨gb103, 3, none⟩) (by first | (rw [add_block]; exact hn104_3) | (show (Addr.add _ _).block ≠ _; rw [add_block]; exact hn104_3) | exact hn104_3) (.int .i64 (-1))).trans hx104_1; replace hx104_2 := (cell_far (p := ⟨gb103, 3, none⟩) (by first | (rw [add_block]; exact hn104_3) | (show (Addr.add _ _).block ≠ _; rw [add_block]; exact hn104_3) | exact hn104_3) (.int .i64 (-1))).trans hx104_2; (try have hy104_0 := fun (n_ : Nat) => (show ((((((w11.drewN n_).setCell ⟨gb103, 0, none⟩ (.int .i8 (-1))).setCell ⟨gb103, 1, none⟩ (.int .i64 (-1))).setCell ⟨gb103, 2, none⟩ (.int .i64 (-1))).setCell ⟨gb103, 3, none⟩ (.int .i64 (-1)))).cell? _ = some _ from hx104_0)); (try have hy104_1 := fun (n_ : Nat) => (show ((((((w11.drewN n_).setCell ⟨gb103, 0, none⟩ (.int .i8 (-1))).setCell ⟨gb103, 1, none⟩ (.int .i64 (-1))).setCell ⟨gb103, 2, none⟩ (.int .i64 (-1))).setCell ⟨gb103, 3, none⟩ (.int .i64 (-1)))).cell? _ = some _ from hx104_1)); (try have hy104_2 := fun (n_ : Nat) => (show ((((((w11.drewN n_).setCell ⟨gb103, 0, none⟩ (.int .i8 (-1))).setCell ⟨gb103, 1, none⟩ (.int .i64 (-1))).setCell ⟨gb103, 2, none⟩ (.int .i64 (-1))).setCell ⟨gb103, 3, none⟩ (.int .i64 (-1)))).cell? _ = some _ from hx104_2)); clear hn104_0; clear hn104_1; clear hn104_2; clear hn104_3; replace p104 := eq_true p104; replace q104 := eq_true q104)))
        go_loopg [11] k (fun kq v11 w' => ∃ (x11_1 : Int) (x104000_1 : Int) (x104001_1 : Int), v11 = .int .i64 x11_1 ∧ Aside0 (spec_l06Due.l0 kq l1 a2 a3 (wrap64 ((rd_T60 l0 a2).f2)) x11_1 x104000_1 x104001_1 (-1) (-1) = some (r1, r2, r3, r4)) ∧ Aside0 (kq ≤ k) ∧ Aside0 (w'.heap[gb101]? = some (.cells #[.int .i8 0, .int .i64 0, .int .i64 0, .int .i64 0] 69 (0, 0))) ∧ Aside0 (w'.heap[gb103]? = some (.cells #[.int .i8 x104000_1, .int .i64 x104001_1, .int .i64 (-1), .int .i64 (-1)] 69 (0, 0))) ∧ Aside0 (Below w.heap.size w w'))
        case atStart => exact ⟨(wrap64 (a2 - (wrap64 ((rd_T60 l0 a2).f0)))), ((-1)), ((-1)), (by first | rfl | (simp only [IntKind.wrap_i64, wrap64]; done) | (simp; done) | (simp [*]; done)), H', ⟨Nat.le_refl _⟩, ⟨by (with_reducible repeat (first | refine blk_drewN ?_ _ | refine blk_drew ?_ | refine blk_alloc ?_ _)); refine blk_far ?_ NB101_103.out _; (with_reducible repeat (first | refine blk_drewN ?_ _ | refine blk_drew ?_ | refine blk_alloc ?_ _)); refine blk_far ?_ NB101_103.out _; (with_reducible repeat (first | refine blk_drewN ?_ _ | refine blk_drew ?_ | refine blk_alloc ?_ _)); refine blk_far ?_ NB101_103.out _; (with_reducible repeat (first | refine blk_drewN ?_ _ | refine blk_drew ?_ | refine blk_alloc ?_ _)); refine blk_far ?_ NB101_103.out _; (with_reducible repeat (first | refine blk_drewN ?_ _ | refine blk_drew ?_ | refine blk_alloc ?_ _)); exact BK101.out⟩, ⟨by (with_reducible repeat (first | refine blk_drewN ?_ _ | refine blk_drew ?_ | refine blk_alloc ?_ _)); refine blk_put (cs := #[.int .i8 (-1), .int .i64 (-1), .int .i64 (-1), .int .i64 0]) ?_ 3 _ rfl; (with_reducible repeat (first | refine blk_drewN ?_ _ | refine blk_drew ?_ | refine blk_alloc ?_ _)); refine blk_put (cs := #[.int .i8 (-1), .int .i64 (-1), .int .i64 0, .int .i64 0]) ?_ 2 _ rfl; (with_reducible repeat (first | refine blk_drewN ?_ _ | refine blk_drew ?_ | refine blk_alloc ?_ _)); refine blk_put (cs := #[.int .i8 (-1), .int .i64 0, .int .i64 0, .int .i64 0]) ?_ 1 _ rfl; (with_reducible repeat (first | refine blk_drewN ?_ _ | refine blk_drew ?_ | refine blk_alloc ?_ _)); refine blk_put (cs := #[.int .i8 0, .int .i64 0, .int .i64 0, .int .i64 0]) ?_ 0 _ rfl; (with_reducible repeat (first | refine blk_drewN ?_ _ | refine blk_drew ?_ | refine blk_alloc ?_ _)); exact BK103.out⟩, ⟨by repeat (first | (with_reducible first | exact HB.out | apply below_alloc | apply pw_below_drewN | apply below_drew1 | refine below_set ?_ GE101.out | refine below_set ?_ GE103.out) | exact HB.out)⟩⟩
        case round =>
          clear H'
          try clear c1
          try clear p1
          try clear q1
          try clear hx1
          try clear p2
          try clear c5
          try clear c5b0
          try clear c6
          try clear c6b0
          try clear p6
          try clear c7
          try clear c7b0
          try clear c7b1
          try clear c8
          try clear p10
          try clear q10
          try clear hx10
          try clear c12
          try clear hcz13_0
          try clear hcz13_1
          try clear hcz13_2
          try clear hcz13_3
          try clear hcz9_0
          try clear hcz9_1
          try clear hcz9_2
          try clear hcz9_3
          try clear hfz13_0
          try clear hfz13_1
          try clear hfz13_2
          try clear hfz13_3
          try clear hfz9_0
          try clear hfz9_1
          try clear hfz9_2
          try clear hfz9_3
          try clear hx102_0
          try clear hx102_1
          try clear hx102_2
          try clear hx104_0
          try clear hx104_1
          try clear hx104_2
          try clear p102
          try clear p104
          try clear q102
          try clear q104
          obtain ⟨x11_1, x104000_1, x104001_1, rfl, HA, HK1, BK101, BK103, HB⟩ := hrel
          cases gk with
          | zero => exact absurd HA.out (by simp [spec_l06Due.l0])
          | succ k1 =>
            have H := HA.out
            clear HA
            simp only [spec_l06Due.l0] at H
            by_cases c14 : x11_1 < a2
            · rw [if_pos c14] at H
              have c14b0 : decide (x11_1 < a2) = true := decide_eq_true c14
              clear c14
              by_cases c15 : x11_1 ≥ 0
              · rw [if_pos c15] at H
                have c15b0 : decide (0 ≤ x11_1) = true := decide_eq_true c15
                clear c15
                by_cases c16 : 0 ≤ x11_1
                · rw [if_pos c16] at H
                  have c16b0 : decide (0 ≤ x11_1) = true := decide_eq_true c16
                  clear c16
                  by_cases c17 : x11_1 < (l1.length : Int)
                  · rw [if_pos c17] at H
                    have c17b0 : decide (x11_1 < (l1.length : Int)) = true := decide_eq_true c17
                    clear c17
                    by_cases c18 : ((rd_T69 l1 x11_1).f3) ≥ 0
                    · rw [if_pos c18] at H
                      have c18b0 : decide (0 ≤ ((rd_T69 l1 x11_1).f3)) = true := decide_eq_true c18
                      clear c18
                      by_cases c19 : x104000_1 < 0
                      · rw [if_pos c19] at H
                        have c19b0 : decide (x104000_1 < 0) = true := decide_eq_true c19
                        clear c19
                        have H' := Aside0.mk H
                        clear H
                        have p105 : 0 ≤ (x11_1 : Int) := of_decide_eq_true (by first | (with_reducible assumption) | assumption)
                        have q105 : x11_1 < (l1.length : Int) := of_decide_eq_true (by first | (with_reducible assumption) | assumption)
                        obtain ⟨ad105, e105, hx105_0, hx105_1, hx105_2, hx105_3⟩ := at_T69 HR1.out x11_1 p105 q105
                        cases e105
                        replace hx105_0 := (HB.out.cell (World.block_lt_of_cell? w _ hx105_0)).trans hx105_0
                        replace hx105_1 := (HB.out.cell (World.block_lt_of_cell? w _ hx105_1)).trans hx105_1
                        replace hx105_2 := (HB.out.cell (World.block_lt_of_cell? w _ hx105_2)).trans hx105_2
                        replace hx105_3 := (HB.out.cell (World.block_lt_of_cell? w _ hx105_3)).trans hx105_3
                        replace p105 := eq_true p105
                        replace q105 := eq_true q105
                        have hnb20 := NB103_101.out
                        have hnc20 := NB101_103.out
                        have hcz21_0 : wr.cell? ⟨gb103, 0, none⟩ = some (.int .i8 x104000_1) := (blk_cell BK103.out 0).trans rfl
                        have hcz21_1 : wr.cell? ⟨gb103, 1, none⟩ = some (.int .i64 x104001_1) := (blk_cell BK103.out 1).trans rfl
                        have hcz21_2 : wr.cell? ⟨gb103, 2, none⟩ = some (.int .i64 (-1)) := (blk_cell BK103.out 2).trans rfl
                        have hcz21_3 : wr.cell? ⟨gb103, 3, none⟩ = some (.int .i64 (-1)) := (blk_cell BK103.out 3).trans rfl
                        have hfz21_0 := blk_frozen BK103.out 0
                        have hfz21_1 := blk_frozen BK103.out 1
                        have hfz21_2 := blk_frozen BK103.out 2
                        have hfz21_3 := blk_frozen BK103.out 3
                        have p106 : 0 ≤ (x11_1 : Int) := of_decide_eq_true (by first | (with_reducible assumption) | assumption)
                        have q106 : x11_1 < (l1.length : Int) := of_decide_eq_true (by first | (with_reducible assumption) | assumption)
                        obtain ⟨ad106, e106, hx106_0, hx106_1, hx106_2, hx106_3⟩ := at_T69 HR1.out x11_1 p106 q106
                        obtain rfl : ad105 = ad106 := (by injection e106)
                        have hn106_0 : ad105.block ≠ gb103 := Nat.ne_of_lt (Nat.lt_of_lt_of_le (by have := World.block_lt_of_cell? _ _ hx106_0; first | rwa [add_block] at this | exact this) GW103.out)
                        replace hx106_0 := (HB.out.cell (World.block_lt_of_cell? w _ hx106_0)).trans hx106_0
                        replace hx106_1 := (HB.out.cell (World.block_lt_of_cell? w _ hx106_1)).trans hx106_1
                        replace hx106_2 := (HB.out.cell (World.block_lt_of_cell? w _ hx106_2)).trans hx106_2
                        replace hx106_3 := (HB.out.cell (World.block_lt_of_cell? w _ hx106_3)).trans hx106_3
                        replace hx106_0 := (cell_far (p := ⟨gb103, 0, none⟩) (by first | (rw [add_block]; exact hn106_0) | (show (Addr.add _ _).block ≠ _; rw [add_block]; exact hn106_0) | exact hn106_0) (.int .i8 (IntKind.i8.wrap (x11_1)))).trans hx106_0
                        replace hx106_1 := (cell_far (p := ⟨gb103, 0, none⟩) (by first | (rw [add_block]; exact hn106_0) | (show (Addr.add _ _).block ≠ _; rw [add_block]; exact hn106_0) | exact hn106_0) (.int .i8 (IntKind.i8.wrap (x11_1)))).trans hx106_1
                        replace hx106_2 := (cell_far (p := ⟨gb103, 0, none⟩) (by first | (rw [add_block]; exact hn106_0) | (show (Addr.add _ _).block ≠ _; rw [add_block]; exact hn106_0) | exact hn106_0) (.int .i8 (IntKind.i8.wrap (x11_1)))).trans hx106_2
                        replace hx106_3 := (cell_far (p := ⟨gb103, 0, none⟩) (by first | (rw [add_block]; exact hn106_0) | (show (Addr.add _ _).block ≠ _; rw [add_block]; exact hn106_0) | exact hn106_0) (.int .i8 (IntKind.i8.wrap (x11_1)))).trans hx106_3
                        (try have hy106_0 := fun (n_ : Nat) => (show (((wr.drewN n_).setCell ⟨gb103, 0, none⟩ (.int .i8 (IntKind.i8.wrap (x11_1))))).cell? _ = some _ from hx106_0))
                        (try have hy106_1 := fun (n_ : Nat) => (show (((wr.drewN n_).setCell ⟨gb103, 0, none⟩ (.int .i8 (IntKind.i8.wrap (x11_1))))).cell? _ = some _ from hx106_1))
                        (try have hy106_2 := fun (n_ : Nat) => (show (((wr.drewN n_).setCell ⟨gb103, 0, none⟩ (.int .i8 (IntKind.i8.wrap (x11_1))))).cell? _ = some _ from hx106_2))
                        (try have hy106_3 := fun (n_ : Nat) => (show (((wr.drewN n_).setCell ⟨gb103, 0, none⟩ (.int .i8 (IntKind.i8.wrap (x11_1))))).cell? _ = some _ from hx106_3))
                        clear hn106_0
                        replace p106 := eq_true p106
                        replace q106 := eq_true q106
                        go_wp2
                        repeat (go_quiet (fail); try go_wp2)
                        go_roundg k1
                        case measure => have := HK1.out; omega
                        case rel => exact ⟨(wrap64 (x11_1 + 1)), (IntKind.i8.wrap (x11_1)), ((rd_T69 l1 x11_1).f3), (by first | rfl | (simp only [IntKind.wrap_i64, wrap64]; done) | (simp; done) | (simp [*]; done)), H', ⟨by have := HK1.out; omega⟩, ⟨by (with_reducible repeat (first | refine blk_drewN ?_ _ | refine blk_drew ?_ | refine blk_alloc ?_ _)); refine blk_far ?_ NB101_103.out _; (with_reducible repeat (first | refine blk_drewN ?_ _ | refine blk_drew ?_ | refine blk_alloc ?_ _)); refine blk_far ?_ NB101_103.out _; (with_reducible repeat (first | refine blk_drewN ?_ _ | refine blk_drew ?_ | refine blk_alloc ?_ _)); exact BK101.out⟩, ⟨by (with_reducible repeat (first | refine blk_drewN ?_ _ | refine blk_drew ?_ | refine blk_alloc ?_ _)); refine blk_put (cs := #[.int .i8 (IntKind.i8.wrap (x11_1)), .int .i64 x104001_1, .int .i64 (-1), .int .i64 (-1)]) ?_ 1 _ rfl; (with_reducible repeat (first | refine blk_drewN ?_ _ | refine blk_drew ?_ | refine blk_alloc ?_ _)); refine blk_put (cs := #[.int .i8 x104000_1, .int .i64 x104001_1, .int .i64 (-1), .int .i64 (-1)]) ?_ 0 _ rfl; (with_reducible repeat (first | refine blk_drewN ?_ _ | refine blk_drew ?_ | refine blk_alloc ?_ _)); exact BK103.out⟩, ⟨by repeat (first | (with_reducible first | exact HB.out | apply below_alloc | apply pw_below_drewN | apply below_drew1 | refine below_set ?_ GE101.out | refine below_set ?_ GE103.out) | exact HB.out)⟩⟩
                      · rw [if_neg c19] at H
                        have c19b0 : decide (x104000_1 < 0) = false := decide_eq_false c19
                        clear c19
                        by_cases c22 : ((rd_T69 l1 x11_1).f3) < x104001_1
                        · rw [if_pos c22] at H
                          have c22b0 : decide (((rd_T69 l1 x11_1).f3) < x104001_1) = true := decide_eq_true c22
                          clear c22
                          have H' := Aside0.mk H
                          clear H
                          have p105 : 0 ≤ (x11_1 : Int) := of_decide_eq_true (by first | (with_reducible assumption) | assumption)
                          have q105 : x11_1 < (l1.length : Int) := of_decide_eq_true (by first | (with_reducible assumption) | assumption)
                          obtain ⟨ad105, e105, hx105_0, hx105_1, hx105_2, hx105_3⟩ := at_T69 HR1.out x11_1 p105 q105
                          cases e105
                          replace hx105_0 := (HB.out.cell (World.block_lt_of_cell? w _ hx105_0)).trans hx105_0
                          replace hx105_1 := (HB.out.cell (World.block_lt_of_cell? w _ hx105_1)).trans hx105_1
                          replace hx105_2 := (HB.out.cell (World.block_lt_of_cell? w _ hx105_2)).trans hx105_2
                          replace hx105_3 := (HB.out.cell (World.block_lt_of_cell? w _ hx105_3)).trans hx105_3
                          replace p105 := eq_true p105
                          replace q105 := eq_true q105
                          have hnb23 := NB103_101.out
                          have hnc23 := NB101_103.out
                          have hcz24_0 : wr.cell? ⟨gb103, 0, none⟩ = some (.int .i8 x104000_1) := (blk_cell BK103.out 0).trans rfl
                          have hcz24_1 : wr.cell? ⟨gb103, 1, none⟩ = some (.int .i64 x104001_1) := (blk_cell BK103.out 1).trans rfl
                          have hcz24_2 : wr.cell? ⟨gb103, 2, none⟩ = some (.int .i64 (-1)) := (blk_cell BK103.out 2).trans rfl
                          have hcz24_3 : wr.cell? ⟨gb103, 3, none⟩ = some (.int .i64 (-1)) := (blk_cell BK103.out 3).trans rfl
                          have hfz24_0 := blk_frozen BK103.out 0
                          have hfz24_1 := blk_frozen BK103.out 1
                          have hfz24_2 := blk_frozen BK103.out 2
                          have hfz24_3 := blk_frozen BK103.out 3
                          have p107 : 0 ≤ (x11_1 : Int) := of_decide_eq_true (by first | (with_reducible assumption) | assumption)
                          have q107 : x11_1 < (l1.length : Int) := of_decide_eq_true (by first | (with_reducible assumption) | assumption)
                          obtain ⟨ad107, e107, hx107_0, hx107_1, hx107_2, hx107_3⟩ := at_T69 HR1.out x11_1 p107 q107
                          obtain rfl : ad105 = ad107 := (by injection e107)
                          replace hx107_0 := (HB.out.cell (World.block_lt_of_cell? w _ hx107_0)).trans hx107_0
                          replace hx107_1 := (HB.out.cell (World.block_lt_of_cell? w _ hx107_1)).trans hx107_1
                          replace hx107_2 := (HB.out.cell (World.block_lt_of_cell? w _ hx107_2)).trans hx107_2
                          replace hx107_3 := (HB.out.cell (World.block_lt_of_cell? w _ hx107_3)).trans hx107_3
                          replace p107 := eq_true p107
                          replace q107 := eq_true q107
                          have p108 : 0 ≤ (x11_1 : Int) := of_decide_eq_true (by first | (with_reducible assumption) | assumption)
                          have q108 : x11_1 < (l1.length : Int) := of_decide_eq_true (by first | (with_reducible assumption) | assumption)
                          obtain ⟨ad108, e108, hx108_0, hx108_1, hx108_2, hx108_3⟩ := at_T69 HR1.out x11_1 p108 q108
                          obtain rfl : ad105 = ad108 := (by injection e108)
                          have hn108_0 : ad105.block ≠ gb103 := Nat.ne_of_lt (Nat.lt_of_lt_of_le (by have := World.block_lt_of_cell? _ _ hx108_0; first | rwa [add_block] at this | exact this) GW103.out)
                          replace hx108_0 := (HB.out.cell (World.block_lt_of_cell? w _ hx108_0)).trans hx108_0
                          replace hx108_1 := (HB.out.cell (World.block_lt_of_cell? w _ hx108_1)).trans hx108_1
                          replace hx108_2 := (HB.out.cell (World.block_lt_of_cell? w _ hx108_2)).trans hx108_2
                          replace hx108_3 := (HB.out.cell (World.block_lt_of_cell? w _ hx108_3)).trans hx108_3
                          replace hx108_0 := (cell_far (p := ⟨gb103, 0, none⟩) (by first | (rw [add_block]; exact hn108_0) | (show (Addr.add _ _).block ≠ _; rw [add_block]; exact hn108_0) | exact hn108_0) (.int .i8 (IntKind.i8.wrap (x11_1)))).trans hx108_0
                          replace hx108_1 := (cell_far (p := ⟨gb103, 0, none⟩) (by first | (rw [add_block]; exact hn108_0) | (show (Addr.add _ _).block ≠ _; rw [add_block]; exact hn108_0) | exact hn108_0) (.int .i8 (IntKind.i8.wrap (x11_1)))).trans hx108_1
                          replace hx108_2 := (cell_far (p := ⟨gb103, 0, none⟩) (by first | (rw [add_block]; exact hn108_0) | (show (Addr.add _ _).block ≠ _; rw [add_block]; exact hn108_0) | exact hn108_0) (.int .i8 (IntKind.i8.wrap (x11_1)))).trans hx108_2
                          replace hx108_3 := (cell_far (p := ⟨gb103, 0, none⟩) (by first | (rw [add_block]; exact hn108_0) | (show (Addr.add _ _).block ≠ _; rw [add_block]; exact hn108_0) | exact hn108_0) (.int .i8 (IntKind.i8.wrap (x11_1)))).trans hx108_3
                          (try have hy108_0 := fun (n_ : Nat) => (show (((wr.drewN n_).setCell ⟨gb103, 0, none⟩ (.int .i8 (IntKind.i8.wrap (x11_1))))).cell? _ = some _ from hx108_0))
                          (try have hy108_1 := fun (n_ : Nat) => (show (((wr.drewN n_).setCell ⟨gb103, 0, none⟩ (.int .i8 (IntKind.i8.wrap (x11_1))))).cell? _ = some _ from hx108_1))
                          (try have hy108_2 := fun (n_ : Nat) => (show (((wr.drewN n_).setCell ⟨gb103, 0, none⟩ (.int .i8 (IntKind.i8.wrap (x11_1))))).cell? _ = some _ from hx108_2))
                          (try have hy108_3 := fun (n_ : Nat) => (show (((wr.drewN n_).setCell ⟨gb103, 0, none⟩ (.int .i8 (IntKind.i8.wrap (x11_1))))).cell? _ = some _ from hx108_3))
                          clear hn108_0
                          replace p108 := eq_true p108
                          replace q108 := eq_true q108
                          go_wp2
                          repeat (go_quiet (fail); try go_wp2)
                          go_roundg k1
                          case measure => have := HK1.out; omega
                          case rel => exact ⟨(wrap64 (x11_1 + 1)), (IntKind.i8.wrap (x11_1)), ((rd_T69 l1 x11_1).f3), (by first | rfl | (simp only [IntKind.wrap_i64, wrap64]; done) | (simp; done) | (simp [*]; done)), H', ⟨by have := HK1.out; omega⟩, ⟨by (with_reducible repeat (first | refine blk_drewN ?_ _ | refine blk_drew ?_ | refine blk_alloc ?_ _)); refine blk_far ?_ NB101_103.out _; (with_reducible repeat (first | refine blk_drewN ?_ _ | refine blk_drew ?_ | refine blk_alloc ?_ _)); refine blk_far ?_ NB101_103.out _; (with_reducible repeat (first | refine blk_drewN ?_ _ | refine blk_drew ?_ | refine blk_alloc ?_ _)); exact BK101.out⟩, ⟨by (with_reducible repeat (first | refine blk_drewN ?_ _ | refine blk_drew ?_ | refine blk_alloc ?_ _)); refine blk_put (cs := #[.int .i8 (IntKind.i8.wrap (x11_1)), .int .i64 x104001_1, .int .i64 (-1), .int .i64 (-1)]) ?_ 1 _ rfl; (with_reducible repeat (first | refine blk_drewN ?_ _ | refine blk_drew ?_ | refine blk_alloc ?_ _)); refine blk_put (cs := #[.int .i8 x104000_1, .int .i64 x104001_1, .int .i64 (-1), .int .i64 (-1)]) ?_ 0 _ rfl; (with_reducible repeat (first | refine blk_drewN ?_ _ | refine blk_drew ?_ | refine blk_alloc ?_ _)); exact BK103.out⟩, ⟨by repeat (first | (with_reducible first | exact HB.out | apply below_alloc | apply pw_below_drewN | apply below_drew1 | refine below_set ?_ GE101.out | refine below_set ?_ GE103.out) | exact HB.out)⟩⟩
                        · rw [if_neg c22] at H
                          have c22b0 : decide (((rd_T69 l1 x11_1).f3) < x104001_1) = false := decide_eq_false c22
                          clear c22
                          have H' := Aside0.mk H
                          clear H
                          have p105 : 0 ≤ (x11_1 : Int) := of_decide_eq_true (by first | (with_reducible assumption) | assumption)
                          have q105 : x11_1 < (l1.length : Int) := of_decide_eq_true (by first | (with_reducible assumption) | assumption)
                          obtain ⟨ad105, e105, hx105_0, hx105_1, hx105_2, hx105_3⟩ := at_T69 HR1.out x11_1 p105 q105
                          cases e105
                          replace hx105_0 := (HB.out.cell (World.block_lt_of_cell? w _ hx105_0)).trans hx105_0
                          replace hx105_1 := (HB.out.cell (World.block_lt_of_cell? w _ hx105_1)).trans hx105_1
                          replace hx105_2 := (HB.out.cell (World.block_lt_of_cell? w _ hx105_2)).trans hx105_2
                          replace hx105_3 := (HB.out.cell (World.block_lt_of_cell? w _ hx105_3)).trans hx105_3
                          replace p105 := eq_true p105
                          replace q105 := eq_true q105
                          have hnb25 := NB103_101.out
                          have hnc25 := NB101_103.out
                          have hcz26_0 : wr.cell? ⟨gb103, 0, none⟩ = some (.int .i8 x104000_1) := (blk_cell BK103.out 0).trans rfl
                          have hcz26_1 : wr.cell? ⟨gb103, 1, none⟩ = some (.int .i64 x104001_1) := (blk_cell BK103.out 1).trans rfl
                          have hcz26_2 : wr.cell? ⟨gb103, 2, none⟩ = some (.int .i64 (-1)) := (blk_cell BK103.out 2).trans rfl
                          have hcz26_3 : wr.cell? ⟨gb103, 3, none⟩ = some (.int .i64 (-1)) := (blk_cell BK103.out 3).trans rfl
                          have hfz26_0 := blk_frozen BK103.out 0
                          have hfz26_1 := blk_frozen BK103.out 1
                          have hfz26_2 := blk_frozen BK103.out 2
                          have hfz26_3 := blk_frozen BK103.out 3
                          have p107 : 0 ≤ (x11_1 : Int) := of_decide_eq_true (by first | (with_reducible assumption) | assumption)
                          have q107 : x11_1 < (l1.length : Int) := of_decide_eq_true (by first | (with_reducible assumption) | assumption)
                          obtain ⟨ad107, e107, hx107_0, hx107_1, hx107_2, hx107_3⟩ := at_T69 HR1.out x11_1 p107 q107
                          obtain rfl : ad105 = ad107 := (by injection e107)
                          replace hx107_0 := (HB.out.cell (World.block_lt_of_cell? w _ hx107_0)).trans hx107_0
                          replace hx107_1 := (HB.out.cell (World.block_lt_of_cell? w _ hx107_1)).trans hx107_1
                          replace hx107_2 := (HB.out.cell (World.block_lt_of_cell? w _ hx107_2)).trans hx107_2
                          replace hx107_3 := (HB.out.cell (World.block_lt_of_cell? w _ hx107_3)).trans hx107_3
                          replace p107 := eq_true p107
                          replace q107 := eq_true q107
                          go_wp2
                          repeat (go_quiet (fail); try go_wp2)
                          go_roundg k1
                          case measure => have := HK1.out; omega
                          case rel => exact ⟨(wrap64 (x11_1 + 1)), (x104000_1), (x104001_1), (by first | rfl | (simp only [IntKind.wrap_i64, wrap64]; done) | (simp; done) | (simp [*]; done)), H', ⟨by have := HK1.out; omega⟩, ⟨by (with_reducible repeat (first | refine blk_drewN ?_ _ | refine blk_drew ?_ | refine blk_alloc ?_ _)); exact BK101.out⟩, ⟨by (with_reducible repeat (first | refine blk_drewN ?_ _ | refine blk_drew ?_ | refine blk_alloc ?_ _)); exact BK103.out⟩, ⟨by repeat (first | (with_reducible first | exact HB.out | apply below_alloc | apply pw_below_drewN | apply below_drew1 | refine below_set ?_ GE101.out | refine below_set ?_ GE103.out) | exact HB.out)⟩⟩
                    · rw [if_neg c18] at H
                      have c18b0 : decide (0 ≤ ((rd_T69 l1 x11_1).f3)) = false := decide_eq_false c18
                      clear c18
                      have H' := Aside0.mk H
                      clear H
                      have p105 : 0 ≤ (x11_1 : Int) := of_decide_eq_true (by first | (with_reducible assumption) | assumption)
                      have q105 : x11_1 < (l1.length : Int) := of_decide_eq_true (by first | (with_reducible assumption) | assumption)
                      obtain ⟨ad105, e105, hx105_0, hx105_1, hx105_2, hx105_3⟩ := at_T69 HR1.out x11_1 p105 q105
                      cases e105
                      replace hx105_0 := (HB.out.cell (World.block_lt_of_cell? w _ hx105_0)).trans hx105_0
                      replace hx105_1 := (HB.out.cell (World.block_lt_of_cell? w _ hx105_1)).trans hx105_1
                      replace hx105_2 := (HB.out.cell (World.block_lt_of_cell? w _ hx105_2)).trans hx105_2
                      replace hx105_3 := (HB.out.cell (World.block_lt_of_cell? w _ hx105_3)).trans hx105_3
                      replace p105 := eq_true p105
                      replace q105 := eq_true q105
                      go_wp2
                      repeat (go_quiet (fail); try go_wp2)
                      go_roundg k1
                      case measure => have := HK1.out; omega
                      case rel => exact ⟨(wrap64 (x11_1 + 1)), (x104000_1), (x104001_1), (by first | rfl | (simp only [IntKind.wrap_i64, wrap64]; done) | (simp; done) | (simp [*]; done)), H', ⟨by have := HK1.out; omega⟩, ⟨by (with_reducible repeat (first | refine blk_drewN ?_ _ | refine blk_drew ?_ | refine blk_alloc ?_ _)); exact BK101.out⟩, ⟨by (with_reducible repeat (first | refine blk_drewN ?_ _ | refine blk_drew ?_ | refine blk_alloc ?_ _)); exact BK103.out⟩, ⟨by repeat (first | (with_reducible first | exact HB.out | apply below_alloc | apply pw_below_drewN | apply below_drew1 | refine below_set ?_ GE101.out | refine below_set ?_ GE103.out) | exact HB.out)⟩⟩
                  · rw [if_neg c17] at H
                    exact absurd H (by simp)
                · rw [if_neg c16] at H
                  exact absurd H (by simp)
              · rw [if_neg c15] at H
                have c15b0 : decide (0 ≤ x11_1) = false := decide_eq_false c15
                clear c15
                have H' := Aside0.mk H
                clear H
                go_wp2
                repeat (go_quiet (fail); try go_wp2)
                go_roundg k1
                case measure => have := HK1.out; omega
                case rel => exact ⟨(wrap64 (x11_1 + 1)), (x104000_1), (x104001_1), (by first | rfl | (simp only [IntKind.wrap_i64, wrap64]; done) | (simp; done) | (simp [*]; done)), H', ⟨by have := HK1.out; omega⟩, ⟨by (with_reducible repeat (first | refine blk_drewN ?_ _ | refine blk_drew ?_ | refine blk_alloc ?_ _)); exact BK101.out⟩, ⟨by (with_reducible repeat (first | refine blk_drewN ?_ _ | refine blk_drew ?_ | refine blk_alloc ?_ _)); exact BK103.out⟩, ⟨by repeat (first | (with_reducible first | exact HB.out | apply below_alloc | apply pw_below_drewN | apply below_drew1 | refine below_set ?_ GE101.out | refine below_set ?_ GE103.out) | exact HB.out)⟩⟩
            · rw [if_neg c14] at H
              have c14b0 : decide (x11_1 < a2) = false := decide_eq_false c14
              clear c14
              by_cases c27 : x104000_1 ≥ 0
              · rw [if_pos c27] at H
                have c27b0 : decide (0 ≤ x104000_1) = true := decide_eq_true c27
                clear c27
                simp only [Option.some.injEq, Prod.mk.injEq] at H
                obtain ⟨rfl, rfl, rfl, rfl⟩ := H
                have hnb28 := NB103_101.out
                have hnc28 := NB101_103.out
                have hcz29_0 : wr.cell? ⟨gb103, 0, none⟩ = some (.int .i8 x104000_1) := (blk_cell BK103.out 0).trans rfl
                have hcz29_1 : wr.cell? ⟨gb103, 1, none⟩ = some (.int .i64 x104001_1) := (blk_cell BK103.out 1).trans rfl
                have hcz29_2 : wr.cell? ⟨gb103, 2, none⟩ = some (.int .i64 (-1)) := (blk_cell BK103.out 2).trans rfl
                have hcz29_3 : wr.cell? ⟨gb103, 3, none⟩ = some (.int .i64 (-1)) := (blk_cell BK103.out 3).trans rfl
                have hfz29_0 := blk_frozen BK103.out 0
                have hfz29_1 := blk_frozen BK103.out 1
                have hfz29_2 := blk_frozen BK103.out 2
                have hfz29_3 := blk_frozen BK103.out 3
                have hcz30_0 : wr.cell? ⟨gb101, 0, none⟩ = some (.int .i8 0) := (blk_cell BK101.out 0).trans rfl
                have hcz30_1 : wr.cell? ⟨gb101, 1, none⟩ = some (.int .i64 0) := (blk_cell BK101.out 1).trans rfl
                have hcz30_2 : wr.cell? ⟨gb101, 2, none⟩ = some (.int .i64 0) := (blk_cell BK101.out 2).trans rfl
                have hcz30_3 : wr.cell? ⟨gb101, 3, none⟩ = some (.int .i64 0) := (blk_cell BK101.out 3).trans rfl
                have hfz30_0 := blk_frozen BK101.out 0
                have hfz30_1 := blk_frozen BK101.out 1
                have hfz30_2 := blk_frozen BK101.out 2
                have hfz30_3 := blk_frozen BK101.out 3
                go_wp2
                repeat (go_quiet (fail); try go_wp2)
                refine bodyPost_ret (results_cell_row rfl _ _ gb101 69 #[.int .i8 x104000_1, .int .i64 x104001_1, .int .i64 (wrap64 (x104001_1 + a3)), .int .i64 (wrap64 ((wrap64 (x104001_1 + a3)) + (wrap64 ((rd_T60 l0 a2).f2))))] (0, 0) _ rfl (by (with_reducible repeat (first | refine blk_drewN ?_ _ | refine blk_drew ?_ | refine blk_alloc ?_ _)); refine blk_put (cs := #[.int .i8 x104000_1, .int .i64 x104001_1, .int .i64 (wrap64 (x104001_1 + a3)), .int .i64 0]) ?_ 3 _ rfl; (with_reducible repeat (first | refine blk_drewN ?_ _ | refine blk_drew ?_ | refine blk_alloc ?_ _)); refine blk_put (cs := #[.int .i8 x104000_1, .int .i64 x104001_1, .int .i64 0, .int .i64 0]) ?_ 2 _ rfl; (with_reducible repeat (first | refine blk_drewN ?_ _ | refine blk_drew ?_ | refine blk_alloc ?_ _)); refine blk_put (cs := #[.int .i8 x104000_1, .int .i64 0, .int .i64 0, .int .i64 0]) ?_ 1 _ rfl; (with_reducible repeat (first | refine blk_drewN ?_ _ | refine blk_drew ?_ | refine blk_alloc ?_ _)); refine blk_put (cs := #[.int .i8 0, .int .i64 0, .int .i64 0, .int .i64 0]) ?_ 0 _ rfl; (with_reducible repeat (first | refine blk_drewN ?_ _ | refine blk_drew ?_ | refine blk_alloc ?_ _)); refine blk_far ?_ NB101_103.out _; (with_reducible repeat (first | refine blk_drewN ?_ _ | refine blk_drew ?_ | refine blk_alloc ?_ _)); refine blk_far ?_ NB101_103.out _; (with_reducible repeat (first | refine blk_drewN ?_ _ | refine blk_drew ?_ | refine blk_alloc ?_ _)); exact BK101.out) Try.underlying69 rfl (by kernel_rfl)) rfl ?_
                exact ⟨by first | rfl | (simp [errW_none, errW_some, IntKind.wrap_i64, wrap64]; done) | (simp [errW_none, errW_some] <;> rfl) | (simp [*, errW_none, errW_some] <;> rfl), by repeat (first | (with_reducible first | exact HB.out | apply below_alloc | apply pw_below_drewN | apply below_drew1 | refine below_set ?_ GE101.out | refine below_set ?_ GE103.out) | exact HB.out)⟩
              · rw [if_neg c27] at H
                have c27b0 : decide (0 ≤ x104000_1) = false := decide_eq_false c27
                clear c27
                simp only [Option.some.injEq, Prod.mk.injEq] at H
                obtain ⟨rfl, rfl, rfl, rfl⟩ := H
                have hnb31 := NB103_101.out
                have hnc31 := NB101_103.out
                have hcz32_0 : wr.cell? ⟨gb103, 0, none⟩ = some (.int .i8 x104000_1) := (blk_cell BK103.out 0).trans rfl
                have hcz32_1 : wr.cell? ⟨gb103, 1, none⟩ = some (.int .i64 x104001_1) := (blk_cell BK103.out 1).trans rfl
                have hcz32_2 : wr.cell? ⟨gb103, 2, none⟩ = some (.int .i64 (-1)) := (blk_cell BK103.out 2).trans rfl
                have hcz32_3 : wr.cell? ⟨gb103, 3, none⟩ = some (.int .i64 (-1)) := (blk_cell BK103.out 3).trans rfl
                have hfz32_0 := blk_frozen BK103.out 0
                have hfz32_1 := blk_frozen BK103.out 1
                have hfz32_2 := blk_frozen BK103.out 2
                have hfz32_3 := blk_frozen BK103.out 3
                have hcz33_0 : wr.cell? ⟨gb101, 0, none⟩ = some (.int .i8 0) := (blk_cell BK101.out 0).trans rfl
                have hcz33_1 : wr.cell? ⟨gb101, 1, none⟩ = some (.int .i64 0) := (blk_cell BK101.out 1).trans rfl
                have hcz33_2 : wr.cell? ⟨gb101, 2, none⟩ = some (.int .i64 0) := (blk_cell BK101.out 2).trans rfl
                have hcz33_3 : wr.cell? ⟨gb101, 3, none⟩ = some (.int .i64 0) := (blk_cell BK101.out 3).trans rfl
                have hfz33_0 := blk_frozen BK101.out 0
                have hfz33_1 := blk_frozen BK101.out 1
                have hfz33_2 := blk_frozen BK101.out 2
                have hfz33_3 := blk_frozen BK101.out 3
                go_wp2
                repeat (go_quiet (fail); try go_wp2)
                refine bodyPost_ret (results_cell_row rfl _ _ gb101 69 #[.int .i8 x104000_1, .int .i64 x104001_1, .int .i64 (-1), .int .i64 (-1)] (0, 0) _ rfl (by (with_reducible repeat (first | refine blk_drewN ?_ _ | refine blk_drew ?_ | refine blk_alloc ?_ _)); refine blk_put (cs := #[.int .i8 x104000_1, .int .i64 x104001_1, .int .i64 (-1), .int .i64 0]) ?_ 3 _ rfl; (with_reducible repeat (first | refine blk_drewN ?_ _ | refine blk_drew ?_ | refine blk_alloc ?_ _)); refine blk_put (cs := #[.int .i8 x104000_1, .int .i64 x104001_1, .int .i64 0, .int .i64 0]) ?_ 2 _ rfl; (with_reducible repeat (first | refine blk_drewN ?_ _ | refine blk_drew ?_ | refine blk_alloc ?_ _)); refine blk_put (cs := #[.int .i8 x104000_1, .int .i64 0, .int .i64 0, .int .i64 0]) ?_ 1 _ rfl; (with_reducible repeat (first | refine blk_drewN ?_ _ | refine blk_drew ?_ | refine blk_alloc ?_ _)); refine blk_put (cs := #[.int .i8 0, .int .i64 0, .int .i64 0, .int .i64 0]) ?_ 0 _ rfl; (with_reducible repeat (first | refine blk_drewN ?_ _ | refine blk_drew ?_ | refine blk_alloc ?_ _)); exact BK101.out) Try.underlying69 rfl (by kernel_rfl)) rfl ?_
                exact ⟨by first | rfl | (simp [errW_none, errW_some, IntKind.wrap_i64, wrap64]; done) | (simp [errW_none, errW_some] <;> rfl) | (simp [*, errW_none, errW_some] <;> rfl), by repeat (first | (with_reducible first | exact HB.out | apply below_alloc | apply pw_below_drewN | apply below_drew1 | refine below_set ?_ GE101.out | refine below_set ?_ GE103.out) | exact HB.out)⟩
    · rw [if_neg c6] at H
      exact absurd H (by simp)
  · rw [if_neg c5] at H
    exact absurd H (by simp)

end Go.Proofs.Ytclmedjighnkjaa.G
end

section
namespace Go.Proofs.Ytclmedjighnkjaa.G
open Go.RowKit Go.Proofs.YtclmedjighnkjaaW.PrintWords Go.Proofs.YtclmedjighnkjaaW.PrintLast Go.Proofs.YtclmedjighnkjaaW.PrintMore
attribute [local go_sem] max2_int min2_int max_two min_two max_three min_three max_four min_four
set_option linter.unusedVariables false
set_option linter.unusedSimpArgs false

/-! ### spec_l06Times: function 66 -/
def spec_l06Times.l0 : Nat → List (S60) → Int → Int → List (S69) → Int → Option ((List (S69)))
  | 0, _, _, _, _, _ => none
  | k + 1, x0, x1, x2, x7, x8 => if x8 < (x0.length : Int) then (if 0 ≤ x8 then (if x8 = x1 then ((spec_l06Due.f k x0 x7 x8 (wrap64 ((wrap64 ((rd_T60 x0 x8).f1)) + x2))).bind fun bt105 => (if x7.length < 4398046511104 then (spec_l06Times.l0 k x0 x1 x2 (x7 ++ [(⟨bt105.1, bt105.2.1, bt105.2.2.1, bt105.2.2.2⟩ : S69)]) (wrap64 (x8 + 1))) else (none))) else ((spec_l06Due.f k x0 x7 x8 (wrap64 ((rd_T60 x0 x8).f1))).bind fun bt112 => (if x7.length < 4398046511104 then (spec_l06Times.l0 k x0 x1 x2 (x7 ++ [(⟨bt112.1, bt112.2.1, bt112.2.2.1, bt112.2.2.2⟩ : S69)]) (wrap64 (x8 + 1))) else (none)))) else (none)) else (some x7)
def spec_l06Times.f (k : Nat) (l0 : List (S60)) (a1 : Int) (a2 : Int) : Option ((List (S69))) := spec_l06Times.l0 k l0 a1 a2 (([] : List (S69))) 0
set_option maxHeartbeats 8000000 in
set_option maxRecDepth 100000 in
theorem spec_l06Times.calls (k : Nat) (A0 : Option Addr) (c0 : Nat) (l0 : List (S60)) (a1 : Int) (a2 : Int) (r : List (S69)) (w : World) (hr0 : Kd.C k60 w A0 l0.length l0) (hc0 : l0.length ≤ c0) (h : spec_l06Times.f k l0 a1 a2 = some r) :
    Calls Try.prog 66 #[.slice A0 l0.length c0, .int .i64 a1, .int .i64 a2] w fun e w' => ∃ v0_ : Value, e = .returned (v0_) ∧ Kd.R k69 69 w' w.heap.size (fun _ => True) v0_ r ∧ Below w.heap.size w w' := by
  have HR0 := Aside0.mk hr0
  have HC0 := Aside0.mk hc0
  clear hr0 hc0
  have HB := Aside0.mk (Below.refl w.heap.size w)
  have H : (spec_l06Times.l0 k l0 a1 a2 (([] : List (S69))) 0) = some r := h
  clear h
  obtain ⟨y101, hy101⟩ : ∃ y_ : List (S69), y_ = (([] : List (S69))) := ⟨_, rfl⟩
  replace H : (spec_l06Times.l0 k l0 a1 a2 y101 0) = some r := by first | (rw [hy101]; with_reducible exact H) | (have H2_ := (Option.bind_some _ _).symm.trans H; rw [hy101]; with_reducible exact H2_) | (have H2_ := (Option.bind_some _ _).symm.trans H; with_reducible exact H2_) | with_reducible exact H | (rw [hy101]; exact H) | exact H
  have Ny101 := Aside0.mk hy101
  clear hy101
  have H' := Aside0.mk H
  clear H
  go_enter Try.func66, Try.ntmps66
  go_wp2_with (first | ((with_reducible refine gate_dst (N := 10) rfl ?_); refine Kd.R_lit k69 _ 69 ?hg (N := 10) ?hd (xs := ([] : List (S69))) (inner := []) (ok := fun _ => True) (okp := fun _ => True) ?hr ?hp (fun _ hk => hk) trivial (Below.refl _ _) (Nat.le_refl _) (by simp) ?_; (case hd => rfl); (case hg => rfl); (case hr => first | (go_simp; done) | (go_simp; rfl)); (case hp => exact (Reps.none _ _)); intro v102 w4 ho5 hb hg_ hnew_; clear hg_ hnew_; (first | rw [← Ny101.out] at ho5 | (simp only [Int.reduceToNat] at ho5; rw [← Ny101.out] at ho5)); have n0_ := Aside0.mk (Kd.R_lower ho5 (below_size (by repeat (first | (with_reducible first | exact HB.out | apply below_alloc | apply pw_below_drewN | apply below_drew1) | exact HB.out)))); have n1_ := Aside0.mk (below_step (by repeat (first | (with_reducible first | exact HB.out | apply below_alloc | apply pw_below_drewN | apply below_drew1) | exact HB.out)) hb); clear HB; have HO103 := n0_; have HB := n1_; clear n0_ n1_; clear hb ho5))
  go_loopg [7, 8] k (fun kq v7 v8 w' => ∃ (x7_1 : List (S69)) (x8_1 : Int), v8 = .int .i64 x8_1 ∧ Aside0 (spec_l06Times.l0 kq l0 a1 a2 x7_1 x8_1 = some r) ∧ Aside0 (kq ≤ k) ∧ Aside0 (Kd.R k69 69 w' w.heap.size (fun _ => True) v7 x7_1) ∧ Aside0 (Below w.heap.size w w'))
  case atStart => exact ⟨(y101), (0), (by first | rfl | (simp only [IntKind.wrap_i64, wrap64]; done) | (simp; done) | (simp [*]; done)), H', ⟨Nat.le_refl _⟩, ⟨by (with_reducible repeat (first | apply Kd.R_alloc | apply Kd.R_drewN | apply Kd.R_drew)); exact HO103.out⟩, ⟨by repeat (first | (with_reducible first | exact HB.out | apply below_alloc | apply pw_below_drewN | apply below_drew1) | exact HB.out)⟩⟩
  case round =>
    clear H'
    try clear p2
    obtain ⟨x7_1, x8_1, rfl, HA, HK1, HO_7, HB⟩ := hrel
    cases gk with
    | zero => exact absurd HA.out (by simp [spec_l06Times.l0])
    | succ k1 =>
      have H := HA.out
      clear HA
      simp only [spec_l06Times.l0] at H
      by_cases c6 : x8_1 < (l0.length : Int)
      · rw [if_pos c6] at H
        have c6b0 : decide (x8_1 < (l0.length : Int)) = true := decide_eq_true c6
        clear c6
        by_cases c7 : 0 ≤ x8_1
        · rw [if_pos c7] at H
          have c7b0 : decide (0 ≤ x8_1) = true := decide_eq_true c7
          clear c7
          by_cases c8 : x8_1 = a1
          · rw [if_pos c8] at H
            have c8b0 : (x8_1 == a1) = true := beq_iff_eq.mpr c8
            have c8b1 : (x8_1 != a1) = false := bne_eq_false_iff_eq.mpr c8
            clear c8
            replace H := Option.bind_eq_some_iff.mp H
            obtain ⟨⟨t105, t106, t107, t108⟩, A90, H⟩ := H
            replace H : (if x7_1.length < 4398046511104 then (spec_l06Times.l0 k1 l0 a1 a2 (x7_1 ++ [(⟨t105, t106, t107, t108⟩ : S69)]) (wrap64 (x8_1 + 1))) else (none)) = some r := H
            have A9 := Aside0.mk A90
            clear A90
            by_cases c10 : x7_1.length < 4398046511104
            · rw [if_pos c10] at H
              have LMc10 := Aside0.mk c10
              clear c10
              obtain ⟨y109, hy109⟩ : ∃ y_ : List (S69), y_ = (x7_1 ++ [(⟨t105, t106, t107, t108⟩ : S69)]) := ⟨_, rfl⟩
              replace H : (spec_l06Times.l0 k1 l0 a1 a2 y109 (wrap64 (x8_1 + 1))) = some r := by first | (rw [hy109]; with_reducible exact H) | (have H2_ := (Option.bind_some _ _).symm.trans H; rw [hy109]; with_reducible exact H2_) | (have H2_ := (Option.bind_some _ _).symm.trans H; with_reducible exact H2_) | with_reducible exact H | (rw [hy109]; exact H) | exact H
              have Ny109 := Aside0.mk hy109
              clear hy109
              have H' := Aside0.mk H
              clear H
              have p104 : 0 ≤ (x8_1 : Int) := of_decide_eq_true (by first | (with_reducible assumption) | assumption)
              have q104 : x8_1 < (l0.length : Int) := of_decide_eq_true (by first | (with_reducible assumption) | assumption)
              obtain ⟨ad104, e104, hx104_0, hx104_1, hx104_2⟩ := at_T60 HR0.out x8_1 p104 q104
              cases e104
              replace hx104_0 := (HB.out.cell (World.block_lt_of_cell? w _ hx104_0)).trans hx104_0
              replace hx104_1 := (HB.out.cell (World.block_lt_of_cell? w _ hx104_1)).trans hx104_1
              replace hx104_2 := (HB.out.cell (World.block_lt_of_cell? w _ hx104_2)).trans hx104_2
              replace p104 := eq_true p104
              replace q104 := eq_true q104
              obtain ⟨Ao11, co11, eo11⟩ := Kd.R_slice HO_7.out
              subst eo11
              go_wp2_with (first | ((with_reducible refine gate_callee (f := 84) rfl ?_); refine goesL_ (some 34) rfl rfl Try.func84 (by kernel_rfl) rfl #[.slice (some ad104) l0.length c0, .slice Ao11 x7_1.length co11, .int .i64 x8_1, .int .i64 (wrap64 ((wrap64 ((rd_T60 l0 x8_1).f1)) + a2))] rfl (by (try simp only [List.map_toArray, List.map_cons, List.map_nil]); first | done | rfl | (simp only [List.length_drop, List.length_take]; rfl)) ?_; (with_reducible refine (spec_l06Due.calls k1 _ _ l0 _ _ x7_1 x8_1 (wrap64 ((wrap64 ((rd_T60 l0 x8_1).f1)) + a2)) t105 t106 t107 t108 _ ?side1 ?side2 ?side3 ?side4 A9.out).mono ?_); (case side1 => repeat (first | exact (Kd.C_below HR0.out HB.out) | (with_reducible refine Kd.C_alloc ?_ _) | (with_reducible refine Kd.C_drewN ?_ _) | (with_reducible refine Kd.C_drew ?_))); (case side2 => exact HC0.out); (case side3 => repeat (first | exact (Kd.R_reads' HO_7.out).2.2 | (with_reducible refine Kd.C_alloc ?_ _) | (with_reducible refine Kd.C_drewN ?_ _) | (with_reducible refine Kd.C_drew ?_))); (case side4 => exact (Kd.R_reads' HO_7.out).2.1); rintro e w12 ⟨rfl, hb⟩; refine ⟨_, rfl, ?_⟩; have n0_ := Aside0.mk (Kd.R_below (by (with_reducible repeat (first | apply Kd.R_alloc | apply Kd.R_drewN | apply Kd.R_drew)); exact HO_7.out) hb); have n1_ := Aside0.mk (below_step (by repeat (first | (with_reducible first | exact HB.out | apply below_alloc | apply pw_below_drewN | apply below_drew1) | exact HB.out)) hb); clear HO_7; clear HB; have HO_7 := n0_; have HB := n1_; clear n0_ n1_; (try clear hb); (try clear hb2); (try clear hk); (try clear hi)) | ((with_reducible refine gate_builtin (b := .append) (xs := #[.tmp 29, .tmp 35]) rfl ?_); at_builtin; refine Kd.R_append k69 (w0 := w) w.heap.size rfl (.tmp 29) (.tmp 35) 32 69 (.agg #[(.int .i8 0), (.int .i64 0), (.int .i64 0), (.int .i64 0)]) 32 rfl Try.underlying32 info69 rfl (by decide) (by omega) (.slice Ao11 x7_1.length co11) x7_1 (⟨t105, t106, t107, t108⟩ : S69) [.int .i8 t105, .int .i64 t106, .int .i64 t107, .int .i64 t108] (fun _ => True) (fun _ => False) rfl rfl ?aP (fun _ hk => hk.elim) ?aF ?aO ?aB ?aS ?aL ?_; (case aP => exact k69_mkM _ _ _ (⟨t105, t106, t107, t108⟩ : S69)); (case aB => exact (by repeat (first | (with_reducible first | exact HB.out | apply below_alloc | apply pw_below_drewN | apply below_drew1) | exact HB.out))); (case aF => exact (fun _ _ => trivial)); (case aO => exact (by (with_reducible repeat (first | apply Kd.R_alloc | apply Kd.R_drewN | apply Kd.R_drew)); exact HO_7.out)); (case aS => exact (below_size (by repeat (first | (with_reducible first | exact HB.out | apply below_alloc | apply pw_below_drewN | apply below_drew1) | exact HB.out)))); (case aL => have := LMc10.out; omega); intro v110 w13 ho hb hg hat; rw [← Ny109.out] at ho; have n0_ := Aside0.mk (hb); have n1_ := Aside0.mk (ho); clear HB; clear HO_7; have HB := n0_; have HO111 := n1_; clear n0_ n1_; clear ho hb hg hat))
              go_roundg k1
              case measure => have := HK1.out; omega
              case rel => exact ⟨(y109), (wrap64 (x8_1 + 1)), (by first | rfl | (simp only [IntKind.wrap_i64, wrap64]; done) | (simp; done) | (simp [*]; done)), H', ⟨by have := HK1.out; omega⟩, ⟨by (with_reducible repeat (first | apply Kd.R_alloc | apply Kd.R_drewN | apply Kd.R_drew)); exact HO111.out⟩, ⟨by repeat (first | (with_reducible first | exact HB.out | apply below_alloc | apply pw_below_drewN | apply below_drew1) | exact HB.out)⟩⟩
            · rw [if_neg c10] at H
              exact absurd H (by simp)
          · rw [if_neg c8] at H
            have c8b0 : (x8_1 == a1) = false := beq_eq_false_iff_ne.mpr c8
            have c8b1 : (x8_1 != a1) = true := bne_iff_ne.mpr c8
            replace H := Option.bind_eq_some_iff.mp H
            obtain ⟨⟨t112, t113, t114, t115⟩, A140, H⟩ := H
            replace H : (if x7_1.length < 4398046511104 then (spec_l06Times.l0 k1 l0 a1 a2 (x7_1 ++ [(⟨t112, t113, t114, t115⟩ : S69)]) (wrap64 (x8_1 + 1))) else (none)) = some r := H
            have A14 := Aside0.mk A140
            clear A140
            by_cases c15 : x7_1.length < 4398046511104
            · rw [if_pos c15] at H
              have LMc15 := Aside0.mk c15
              clear c15
              obtain ⟨y116, hy116⟩ : ∃ y_ : List (S69), y_ = (x7_1 ++ [(⟨t112, t113, t114, t115⟩ : S69)]) := ⟨_, rfl⟩
              replace H : (spec_l06Times.l0 k1 l0 a1 a2 y116 (wrap64 (x8_1 + 1))) = some r := by first | (rw [hy116]; with_reducible exact H) | (have H2_ := (Option.bind_some _ _).symm.trans H; rw [hy116]; with_reducible exact H2_) | (have H2_ := (Option.bind_some _ _).symm.trans H; with_reducible exact H2_) | with_reducible exact H | (rw [hy116]; exact H) | exact H
              have Ny116 := Aside0.mk hy116
              clear hy116
              have H' := Aside0.mk H
              clear H
              have p104 : 0 ≤ (x8_1 : Int) := of_decide_eq_true (by first | (with_reducible assumption) | assumption)
              have q104 : x8_1 < (l0.length : Int) := of_decide_eq_true (by first | (with_reducible assumption) | assumption)
              obtain ⟨ad104, e104, hx104_0, hx104_1, hx104_2⟩ := at_T60 HR0.out x8_1 p104 q104
              cases e104
              replace hx104_0 := (HB.out.cell (World.block_lt_of_cell? w _ hx104_0)).trans hx104_0
              replace hx104_1 := (HB.out.cell (World.block_lt_of_cell? w _ hx104_1)).trans hx104_1
              replace hx104_2 := (HB.out.cell (World.block_lt_of_cell? w _ hx104_2)).trans hx104_2
              replace p104 := eq_true p104
              replace q104 := eq_true q104
              obtain ⟨Ao16, co16, eo16⟩ := Kd.R_slice HO_7.out
              subst eo16
              go_wp2_with (first | ((with_reducible refine gate_callee (f := 84) rfl ?_); refine goesL_ (some 34) rfl rfl Try.func84 (by kernel_rfl) rfl #[.slice (some ad104) l0.length c0, .slice Ao16 x7_1.length co16, .int .i64 x8_1, .int .i64 (wrap64 ((rd_T60 l0 x8_1).f1))] rfl (by (try simp only [List.map_toArray, List.map_cons, List.map_nil]); first | done | rfl | (simp only [List.length_drop, List.length_take]; rfl)) ?_; (with_reducible refine (spec_l06Due.calls k1 _ _ l0 _ _ x7_1 x8_1 (wrap64 ((rd_T60 l0 x8_1).f1)) t112 t113 t114 t115 _ ?side1 ?side2 ?side3 ?side4 A14.out).mono ?_); (case side1 => repeat (first | exact (Kd.C_below HR0.out HB.out) | (with_reducible refine Kd.C_alloc ?_ _) | (with_reducible refine Kd.C_drewN ?_ _) | (with_reducible refine Kd.C_drew ?_))); (case side2 => exact HC0.out); (case side3 => repeat (first | exact (Kd.R_reads' HO_7.out).2.2 | (with_reducible refine Kd.C_alloc ?_ _) | (with_reducible refine Kd.C_drewN ?_ _) | (with_reducible refine Kd.C_drew ?_))); (case side4 => exact (Kd.R_reads' HO_7.out).2.1); rintro e w17 ⟨rfl, hb⟩; refine ⟨_, rfl, ?_⟩; have n0_ := Aside0.mk (Kd.R_below (by (with_reducible repeat (first | apply Kd.R_alloc | apply Kd.R_drewN | apply Kd.R_drew)); exact HO_7.out) hb); have n1_ := Aside0.mk (below_step (by repeat (first | (with_reducible first | exact HB.out | apply below_alloc | apply pw_below_drewN | apply below_drew1) | exact HB.out)) hb); clear HO_7; clear HB; have HO_7 := n0_; have HB := n1_; clear n0_ n1_; (try clear hb); (try clear hb2); (try clear hk); (try clear hi)) | ((with_reducible refine gate_builtin (b := .append) (xs := #[.tmp 29, .tmp 35]) rfl ?_); at_builtin; refine Kd.R_append k69 (w0 := w) w.heap.size rfl (.tmp 29) (.tmp 35) 32 69 (.agg #[(.int .i8 0), (.int .i64 0), (.int .i64 0), (.int .i64 0)]) 32 rfl Try.underlying32 info69 rfl (by decide) (by omega) (.slice Ao16 x7_1.length co16) x7_1 (⟨t112, t113, t114, t115⟩ : S69) [.int .i8 t112, .int .i64 t113, .int .i64 t114, .int .i64 t115] (fun _ => True) (fun _ => False) rfl rfl ?aP (fun _ hk => hk.elim) ?aF ?aO ?aB ?aS ?aL ?_; (case aP => exact k69_mkM _ _ _ (⟨t112, t113, t114, t115⟩ : S69)); (case aB => exact (by repeat (first | (with_reducible first | exact HB.out | apply below_alloc | apply pw_below_drewN | apply below_drew1) | exact HB.out))); (case aF => exact (fun _ _ => trivial)); (case aO => exact (by (with_reducible repeat (first | apply Kd.R_alloc | apply Kd.R_drewN | apply Kd.R_drew)); exact HO_7.out)); (case aS => exact (below_size (by repeat (first | (with_reducible first | exact HB.out | apply below_alloc | apply pw_below_drewN | apply below_drew1) | exact HB.out)))); (case aL => have := LMc15.out; omega); intro v117 w18 ho hb hg hat; rw [← Ny116.out] at ho; have n0_ := Aside0.mk (hb); have n1_ := Aside0.mk (ho); clear HB; clear HO_7; have HB := n0_; have HO118 := n1_; clear n0_ n1_; clear ho hb hg hat))
              go_roundg k1
              case measure => have := HK1.out; omega
              case rel => exact ⟨(y116), (wrap64 (x8_1 + 1)), (by first | rfl | (simp only [IntKind.wrap_i64, wrap64]; done) | (simp; done) | (simp [*]; done)), H', ⟨by have := HK1.out; omega⟩, ⟨by (with_reducible repeat (first | apply Kd.R_alloc | apply Kd.R_drewN | apply Kd.R_drew)); exact HO118.out⟩, ⟨by repeat (first | (with_reducible first | exact HB.out | apply below_alloc | apply pw_below_drewN | apply below_drew1) | exact HB.out)⟩⟩
            · rw [if_neg c15] at H
              exact absurd H (by simp)
        · rw [if_neg c7] at H
          exact absurd H (by simp)
      · rw [if_neg c6] at H
        have c6b0 : decide (x8_1 < (l0.length : Int)) = false := decide_eq_false c6
        clear c6
        obtain rfl := Option.some.inj H
        go_wp2
        go_ret
        exact ⟨_, by first | rfl | (simp [errW_none, errW_some, IntKind.wrap_i64, wrap64]; done) | (simp [errW_none, errW_some] <;> rfl) | (simp [*, errW_none, errW_some] <;> rfl), by (with_reducible repeat (first | apply Kd.R_alloc | apply Kd.R_drewN | apply Kd.R_drew)); exact HO_7.out, by repeat (first | (with_reducible first | exact HB.out | apply below_alloc | apply pw_below_drewN | apply below_drew1) | exact HB.out)⟩

end Go.Proofs.Ytclmedjighnkjaa.G
end

section
namespace Go.Proofs.Ytclmedjighnkjaa.G
open Go.RowKit Go.Proofs.YtclmedjighnkjaaW.PrintWords Go.Proofs.YtclmedjighnkjaaW.PrintLast Go.Proofs.YtclmedjighnkjaaW.PrintMore
attribute [local go_sem] max2_int min2_int max_two min_two max_three min_three max_four min_four
set_option linter.unusedVariables false
set_option linter.unusedSimpArgs false

/-! ### spec_Unreached: function 34 -/
def spec_Unreached.l0 : Nat → List (S69) → List Int → Int → Option (List Int × Int)
  | 0, _, _, _ => none
  | k + 1, x4, x5, x6 => if x6 < (x4.length : Int) then (if 0 ≤ x6 then (if ((rd_T69 x4 x6).f3) < 0 then (if x5.length < 17592186044416 then (spec_Unreached.l0 k x4 (x5 ++ [x6]) (wrap64 (x6 + 1))) else (none)) else (spec_Unreached.l0 k x4 x5 (wrap64 (x6 + 1)))) else (none)) else (some (x5, 0))
def spec_Unreached.f (k : Nat) (l0 : List (S60)) : Option (List Int × Int) := (spec_l06Ok.f k l0).bind fun t101 => (if t101 = true then ((spec_l06Times.f k l0 (-1) 0).bind fun t105 => (spec_Unreached.l0 k t105 (([] : List Int)) 0)) else (some ((([] : List Int)), 1)))
set_option maxHeartbeats 8000000 in
set_option maxRecDepth 100000 in
theorem spec_Unreached.calls (k : Nat) (A0 : Option Addr) (c0 : Nat) (l0 : List (S60)) (r1 : List Int) (r2 : Int) (w : World) (hr0 : Kd.C k60 w A0 l0.length l0) (hc0 : l0.length ≤ c0) (h : spec_Unreached.f k l0 = some (r1, r2)) :
    Calls Try.prog 34 #[.slice A0 l0.length c0] w fun e w' => ∃ v0_ : Value, e = .returned (.tuple #[v0_, .int .i64 r2]) ∧ Kd.R (Kd.int .i64) 2 w' w.heap.size (fun _ => True) v0_ r1 ∧ Below w.heap.size w w' := by
  have HR0 := Aside0.mk hr0
  have HC0 := Aside0.mk hc0
  clear hr0 hc0
  have HB := Aside0.mk (Below.refl w.heap.size w)
  have H : ((spec_l06Ok.f k l0).bind fun t101 => (if t101 = true then ((spec_l06Times.f k l0 (-1) 0).bind fun t105 => (spec_Unreached.l0 k t105 (([] : List Int)) 0)) else (some ((([] : List Int)), 1)))) = some (r1, r2) := h
  clear h
  replace H := Option.bind_eq_some_iff.mp H
  obtain ⟨t101, A20, H⟩ := H
  replace H : (if t101 = true then ((spec_l06Times.f k l0 (-1) 0).bind fun t105 => (spec_Unreached.l0 k t105 (([] : List Int)) 0)) else (some ((([] : List Int)), 1))) = some (r1, r2) := H
  have A2 := Aside0.mk A20
  clear A20
  by_cases c3 : t101 = true
  · subst c3
    have H1 : ((spec_l06Times.f k l0 (-1) 0).bind fun t105 => (spec_Unreached.l0 k t105 (([] : List Int)) 0)) = some (r1, r2) := by rw [if_pos rfl] at H; exact H
    clear H
    have H := H1
    clear H1
    replace H := Option.bind_eq_some_iff.mp H
    obtain ⟨t105, A40, H⟩ := H
    replace H : (spec_Unreached.l0 k t105 (([] : List Int)) 0) = some (r1, r2) := H
    have A4 := Aside0.mk A40
    clear A40
    obtain ⟨y108, hy108⟩ : ∃ y_ : List Int, y_ = (([] : List Int)) := ⟨_, rfl⟩
    replace H : (spec_Unreached.l0 k t105 y108 0) = some (r1, r2) := by first | (rw [hy108]; with_reducible exact H) | (have H2_ := (Option.bind_some _ _).symm.trans H; rw [hy108]; with_reducible exact H2_) | (have H2_ := (Option.bind_some _ _).symm.trans H; with_reducible exact H2_) | with_reducible exact H | (rw [hy108]; exact H) | exact H
    have Ny108 := Aside0.mk hy108
    clear hy108
    have H' := Aside0.mk H
    clear H
    go_enter Try.func34, Try.ntmps34
    go_wp2_with (first | ((with_reducible refine gate_callee (f := 55) rfl ?_); refine goesL_ (some 8) rfl rfl Try.func55 (by kernel_rfl) rfl #[.slice A0 l0.length c0] rfl (by (try simp only [List.map_toArray, List.map_cons, List.map_nil]); first | done | rfl | (simp only [List.length_drop, List.length_take]; rfl)) ?_; (with_reducible refine (spec_l06Ok.calls k _ _ l0 true _ ?side1 ?side2 A2.out).mono ?_); (case side1 => repeat (first | exact HR0.out | (with_reducible refine Kd.C_alloc ?_ _) | (with_reducible refine Kd.C_drewN ?_ _) | (with_reducible refine Kd.C_drew ?_))); (case side2 => exact HC0.out); rintro e w5 ⟨rfl, hb⟩; refine ⟨_, rfl, ?_⟩; have n0_ := Aside0.mk (below_step (by repeat (first | (with_reducible first | exact HB.out | apply below_alloc | apply pw_below_drewN | apply below_drew1) | exact HB.out)) hb); clear HB; have HB := n0_; clear n0_; (try clear hb); (try clear hb2); (try clear hk); (try clear hi)) | ((with_reducible refine gate_callee (f := 66) rfl ?_); refine goesL_ (some 12) rfl rfl Try.func66 (by kernel_rfl) rfl #[.slice A0 l0.length c0, .int .i64 (-1), .int .i64 0] rfl (by (try simp only [List.map_toArray, List.map_cons, List.map_nil]); first | done | rfl | (simp only [List.length_drop, List.length_take]; rfl)) ?_; (with_reducible refine (spec_l06Times.calls k _ _ l0 (-1) 0 t105 _ ?side1 ?side2 A4.out).mono ?_); (case side1 => repeat (first | exact (Kd.C_below HR0.out HB.out) | (with_reducible refine Kd.C_alloc ?_ _) | (with_reducible refine Kd.C_drewN ?_ _) | (with_reducible refine Kd.C_drew ?_))); (case side2 => exact HC0.out); rintro e w6 ⟨v106, rfl, ho0, hb⟩; refine ⟨_, rfl, ?_⟩; have n0_ := Aside0.mk (Kd.R_lower ho0 (below_size (by repeat (first | (with_reducible first | exact HB.out | apply below_alloc | apply pw_below_drewN | apply below_drew1) | exact HB.out)))); have n1_ := Aside0.mk (below_step (by repeat (first | (with_reducible first | exact HB.out | apply below_alloc | apply pw_below_drewN | apply below_drew1) | exact HB.out)) hb); clear HB; have HO107 := n0_; have HB := n1_; clear n0_ n1_; (try clear hb); (try clear hb2); (try clear hk); (try clear hi); (try clear ho0)) | ((with_reducible refine gate_dst (N := 13) rfl ?_); refine Kd.R_lit (Kd.int .i64) _ 2 ?hg (N := 13) ?hd (xs := ([] : List Int)) (inner := []) (ok := fun _ => True) (okp := fun _ => True) ?hr ?hp (fun _ hk => hk) trivial (Below.refl _ _) (Nat.le_refl _) (by simp) ?_; (case hd => rfl); (case hg => rfl); (case hr => first | (go_simp; done) | (go_simp; rfl)); (case hp => exact (Reps.none _ _)); intro v109 w7 ho8 hb hg_ hnew_; clear hg_ hnew_; (first | rw [← Ny108.out] at ho8 | (simp only [Int.reduceToNat] at ho8; rw [← Ny108.out] at ho8)); have n0_ := Aside0.mk (Kd.R_below (by (with_reducible repeat (first | apply Kd.R_alloc | apply Kd.R_drewN | apply Kd.R_drew)); exact HO107.out) hb); have n1_ := Aside0.mk (Kd.R_lower ho8 (below_size (by repeat (first | (with_reducible first | exact HB.out | apply below_alloc | apply pw_below_drewN | apply below_drew1) | exact HB.out)))); have n2_ := Aside0.mk (below_step (by repeat (first | (with_reducible first | exact HB.out | apply below_alloc | apply pw_below_drewN | apply below_drew1) | exact HB.out)) hb); clear HO107; clear HB; have HO107 := n0_; have HO110 := n1_; have HB := n2_; clear n0_ n1_ n2_; clear hb ho8))
    go_loopg [5, 6] k (fun kq v5 v6 w' => ∃ (x5_1 : List Int) (x6_1 : Int), v6 = .int .i64 x6_1 ∧ Aside0 (spec_Unreached.l0 kq t105 x5_1 x6_1 = some (r1, r2)) ∧ Aside0 (kq ≤ k) ∧ Aside0 (Kd.R k69 69 w' w.heap.size (fun _ => True) v106 t105) ∧ Aside0 (Kd.R (Kd.int .i64) 2 w' w.heap.size (fun _ => True) v5 x5_1) ∧ Aside0 (Below w.heap.size w w'))
    case atStart => exact ⟨(y108), (0), (by first | rfl | (simp only [IntKind.wrap_i64, wrap64]; done) | (simp; done) | (simp [*]; done)), H', ⟨Nat.le_refl _⟩, ⟨by (with_reducible repeat (first | apply Kd.R_alloc | apply Kd.R_drewN | apply Kd.R_drew)); exact HO107.out⟩, ⟨by (with_reducible repeat (first | apply Kd.R_alloc | apply Kd.R_drewN | apply Kd.R_drew)); exact HO110.out⟩, ⟨by repeat (first | (with_reducible first | exact HB.out | apply below_alloc | apply pw_below_drewN | apply below_drew1) | exact HB.out)⟩⟩
    case round =>
      clear H'
      try clear p2
      try clear c3
      try clear c5
      try clear c6
      obtain ⟨x5_1, x6_1, rfl, HA, HK1, HO_4, HO_5, HB⟩ := hrel
      cases gk with
      | zero => exact absurd HA.out (by simp [spec_Unreached.l0])
      | succ k1 =>
        have H := HA.out
        clear HA
        simp only [spec_Unreached.l0] at H
        by_cases c9 : x6_1 < (t105.length : Int)
        · rw [if_pos c9] at H
          have c9b0 : decide (x6_1 < (t105.length : Int)) = true := decide_eq_true c9
          clear c9
          by_cases c10 : 0 ≤ x6_1
          · rw [if_pos c10] at H
            have c10b0 : decide (0 ≤ x6_1) = true := decide_eq_true c10
            clear c10
            by_cases c11 : ((rd_T69 t105 x6_1).f3) < 0
            · rw [if_pos c11] at H
              have c11b0 : decide (((rd_T69 t105 x6_1).f3) < 0) = true := decide_eq_true c11
              clear c11
              by_cases c12 : x5_1.length < 17592186044416
              · rw [if_pos c12] at H
                have LMc12 := Aside0.mk c12
                clear c12
                obtain ⟨y112, hy112⟩ : ∃ y_ : List Int, y_ = (x5_1 ++ [x6_1]) := ⟨_, rfl⟩
                replace H : (spec_Unreached.l0 k1 t105 y112 (wrap64 (x6_1 + 1))) = some (r1, r2) := by first | (rw [hy112]; with_reducible exact H) | (have H2_ := (Option.bind_some _ _).symm.trans H; rw [hy112]; with_reducible exact H2_) | (have H2_ := (Option.bind_some _ _).symm.trans H; with_reducible exact H2_) | with_reducible exact H | (rw [hy112]; exact H) | exact H
                have Ny112 := Aside0.mk hy112
                clear hy112
                have H' := Aside0.mk H
                clear H
                obtain ⟨Ao13, co13, eo13⟩ := Kd.R_slice HO_4.out
                subst eo13
                have p111 : 0 ≤ (x6_1 : Int) := of_decide_eq_true (by first | (with_reducible assumption) | assumption)
                have q111 : x6_1 < (t105.length : Int) := of_decide_eq_true (by first | (with_reducible assumption) | assumption)
                obtain ⟨ad111, e111, hx111_0, hx111_1, hx111_2, hx111_3⟩ := at_T69 (Kd.R_reads' HO_4.out).2.2 x6_1 p111 q111
                cases e111
                replace p111 := eq_true p111
                replace q111 := eq_true q111
                go_wp2_with (first | ((with_reducible refine gate_builtin (b := .append) (xs := #[.tmp 26, .tmp 28]) rfl ?_); at_builtin; refine Kd.R_append (Kd.int .i64) (w0 := w) w.heap.size rfl (.tmp 26) (.tmp 28) 43 2 (.int .i64 0) 8 rfl Try.underlying43 info2 rfl (by decide) (by omega) u5 x5_1 x6_1 [.int .i64 x6_1] (fun _ => True) (fun _ => False) rfl rfl ?aP (fun _ hk => hk.elim) ?aF ?aO ?aB ?aS ?aL ?_; (case aP => exact rfl); (case aB => exact (by repeat (first | (with_reducible first | exact HB.out | apply below_alloc | apply pw_below_drewN | apply below_drew1) | exact HB.out))); (case aF => exact (fun _ _ => trivial)); (case aO => exact (by (with_reducible repeat (first | apply Kd.R_alloc | apply Kd.R_drewN | apply Kd.R_drew)); exact HO_5.out)); (case aS => exact (below_size (by repeat (first | (with_reducible first | exact HB.out | apply below_alloc | apply pw_below_drewN | apply below_drew1) | exact HB.out)))); (case aL => have := LMc12.out; omega); intro v113 w14 ho hb hg hat; rw [← Ny112.out] at ho; have n0_ := Aside0.mk (Kd.R_over' (by (with_reducible repeat (first | apply Kd.R_alloc | apply Kd.R_drewN | apply Kd.R_drew)); exact HO_4.out) (Kd.R_typed (by (with_reducible repeat (first | apply Kd.R_alloc | apply Kd.R_drewN | apply Kd.R_drew)); exact HO_5.out)) (by decide) hg); have n1_ := Aside0.mk (hb); have n2_ := Aside0.mk (ho); clear HO_4; clear HB; clear HO_5; have HO_4 := n0_; have HB := n1_; have HO114 := n2_; clear n0_ n1_ n2_; clear ho hb hg hat))
                go_roundg k1
                case measure => have := HK1.out; omega
                case rel => exact ⟨(y112), (wrap64 (x6_1 + 1)), (by first | rfl | (simp only [IntKind.wrap_i64, wrap64]; done) | (simp; done) | (simp [*]; done)), H', ⟨by have := HK1.out; omega⟩, ⟨by (with_reducible repeat (first | apply Kd.R_alloc | apply Kd.R_drewN | apply Kd.R_drew)); exact HO_4.out⟩, ⟨by (with_reducible repeat (first | apply Kd.R_alloc | apply Kd.R_drewN | apply Kd.R_drew)); exact HO114.out⟩, ⟨by repeat (first | (with_reducible first | exact HB.out | apply below_alloc | apply pw_below_drewN | apply below_drew1) | exact HB.out)⟩⟩
              · rw [if_neg c12] at H
                exact absurd H (by simp)
            · rw [if_neg c11] at H
              have c11b0 : decide (((rd_T69 t105 x6_1).f3) < 0) = false := decide_eq_false c11
              clear c11
              have H' := Aside0.mk H
              clear H
              obtain ⟨Ao15, co15, eo15⟩ := Kd.R_slice HO_4.out
              subst eo15
              have p111 : 0 ≤ (x6_1 : Int) := of_decide_eq_true (by first | (with_reducible assumption) | assumption)
              have q111 : x6_1 < (t105.length : Int) := of_decide_eq_true (by first | (with_reducible assumption) | assumption)
              obtain ⟨ad111, e111, hx111_0, hx111_1, hx111_2, hx111_3⟩ := at_T69 (Kd.R_reads' HO_4.out).2.2 x6_1 p111 q111
              cases e111
              replace p111 := eq_true p111
              replace q111 := eq_true q111
              go_wp2
              go_roundg k1
              case measure => have := HK1.out; omega
              case rel => exact ⟨(x5_1), (wrap64 (x6_1 + 1)), (by first | rfl | (simp only [IntKind.wrap_i64, wrap64]; done) | (simp; done) | (simp [*]; done)), H', ⟨by have := HK1.out; omega⟩, ⟨by (with_reducible repeat (first | apply Kd.R_alloc | apply Kd.R_drewN | apply Kd.R_drew)); exact HO_4.out⟩, ⟨by (with_reducible repeat (first | apply Kd.R_alloc | apply Kd.R_drewN | apply Kd.R_drew)); exact HO_5.out⟩, ⟨by repeat (first | (with_reducible first | exact HB.out | apply below_alloc | apply pw_below_drewN | apply below_drew1) | exact HB.out)⟩⟩
          · rw [if_neg c10] at H
            exact absurd H (by simp)
        · rw [if_neg c9] at H
          have c9b0 : decide (x6_1 < (t105.length : Int)) = false := decide_eq_false c9
          clear c9
          simp only [Option.some.injEq, Prod.mk.injEq] at H
          obtain ⟨rfl, rfl⟩ := H
          obtain ⟨Ao16, co16, eo16⟩ := Kd.R_slice HO_4.out
          subst eo16
          go_wp2
          go_ret2
          exact ⟨_, by first | rfl | (simp [errW_none, errW_some, IntKind.wrap_i64, wrap64]; done) | (simp [errW_none, errW_some] <;> rfl) | (simp [*, errW_none, errW_some] <;> rfl), by (with_reducible repeat (first | apply Kd.R_alloc | apply Kd.R_drewN | apply Kd.R_drew)); exact HO_5.out, by repeat (first | (with_reducible first | exact HB.out | apply below_alloc | apply pw_below_drewN | apply below_drew1) | exact HB.out)⟩
  · replace c3 := Bool.eq_false_iff.mpr c3
    subst c3
    have H1 : (some ((([] : List Int)), 1)) = some (r1, r2) := by rw [if_neg (show ¬ (false = true) by decide)] at H; exact H
    clear H
    have H := H1
    clear H1
    obtain ⟨y102, hy102⟩ : ∃ y_ : List Int, y_ = (([] : List Int)) := ⟨_, rfl⟩
    replace H : (some (y102, 1)) = some (r1, r2) := by first | (rw [hy102]; with_reducible exact H) | (have H2_ := (Option.bind_some _ _).symm.trans H; rw [hy102]; with_reducible exact H2_) | (have H2_ := (Option.bind_some _ _).symm.trans H; with_reducible exact H2_) | with_reducible exact H | (rw [hy102]; exact H) | exact H
    have Ny102 := Aside0.mk hy102
    clear hy102
    simp only [Option.some.injEq, Prod.mk.injEq] at H
    obtain ⟨rfl, rfl⟩ := H
    go_enter Try.func34, Try.ntmps34
    go_wp2_with (first | ((with_reducible refine gate_callee (f := 55) rfl ?_); refine goesL_ (some 8) rfl rfl Try.func55 (by kernel_rfl) rfl #[.slice A0 l0.length c0] rfl (by (try simp only [List.map_toArray, List.map_cons, List.map_nil]); first | done | rfl | (simp only [List.length_drop, List.length_take]; rfl)) ?_; (with_reducible refine (spec_l06Ok.calls k _ _ l0 false _ ?side1 ?side2 A2.out).mono ?_); (case side1 => repeat (first | exact HR0.out | (with_reducible refine Kd.C_alloc ?_ _) | (with_reducible refine Kd.C_drewN ?_ _) | (with_reducible refine Kd.C_drew ?_))); (case side2 => exact HC0.out); rintro e w17 ⟨rfl, hb⟩; refine ⟨_, rfl, ?_⟩; have n0_ := Aside0.mk (below_step (by repeat (first | (with_reducible first | exact HB.out | apply below_alloc | apply pw_below_drewN | apply below_drew1) | exact HB.out)) hb); clear HB; have HB := n0_; clear n0_; (try clear hb); (try clear hb2); (try clear hk); (try clear hi)) | ((with_reducible refine gate_dst (N := 10) rfl ?_); refine Kd.R_lit (Kd.int .i64) _ 2 ?hg (N := 10) ?hd (xs := ([] : List Int)) (inner := []) (ok := fun _ => True) (okp := fun _ => True) ?hr ?hp (fun _ hk => hk) trivial (Below.refl _ _) (Nat.le_refl _) (by simp) ?_; (case hd => rfl); (case hg => rfl); (case hr => first | (go_simp; done) | (go_simp; rfl)); (case hp => exact (Reps.none _ _)); intro v103 w18 ho19 hb hg_ hnew_; clear hg_ hnew_; (first | rw [← Ny102.out] at ho19 | (simp only [Int.reduceToNat] at ho19; rw [← Ny102.out] at ho19)); have n0_ := Aside0.mk (Kd.R_lower ho19 (below_size (by repeat (first | (with_reducible first | exact HB.out | apply below_alloc | apply pw_below_drewN | apply below_drew1) | exact HB.out)))); have n1_ := Aside0.mk (below_step (by repeat (first | (with_reducible first | exact HB.out | apply below_alloc | apply pw_below_drewN | apply below_drew1) | exact HB.out)) hb); clear HB; have HO104 := n0_; have HB := n1_; clear n0_ n1_; clear hb ho19))
    go_ret2
    exact ⟨_, by first | rfl | (simp [errW_none, errW_some, IntKind.wrap_i64, wrap64]; done) | (simp [errW_none, errW_some] <;> rfl) | (simp [*, errW_none, errW_some] <;> rfl), by (with_reducible repeat (first | apply Kd.R_alloc | apply Kd.R_drewN | apply Kd.R_drew)); exact HO104.out, by repeat (first | (with_reducible first | exact HB.out | apply below_alloc | apply pw_below_drewN | apply below_drew1) | exact HB.out)⟩

end Go.Proofs.Ytclmedjighnkjaa.G
end

section
namespace Go.Proofs.Ytclmedjighnkjaa.G
open Go.RowKit Go.Proofs.YtclmedjighnkjaaW.PrintWords Go.Proofs.YtclmedjighnkjaaW.PrintLast Go.Proofs.YtclmedjighnkjaaW.PrintMore
attribute [local go_sem] max2_int min2_int max_two min_two max_three min_three max_four min_four
set_option linter.unusedVariables false
set_option linter.unusedSimpArgs false

/-! ### laws_FnExactUnreached: function 8 -/
mutual
def laws_FnExactUnreached.j0 : Nat → List (S62) → List Int → Int → List (S60) → List Int → Int → Bool → Option (Bool)
  | 0, _, _, _, _, _, _, _ => none
  | k + 1, x0, x4, x5, x6, x7, x8, x40 => if x40 = true then (some false) else ((laws_toShipS.f k x0).bind fun t117 => ((laws_eqShipS.f k x6 t117).bind fun t120 => (if t120 = true then ((laws_markShipS.f k x6 1).bind fun bt121 => (if bt121.1 < 0 then (laws_FnExactUnreached.j1 k x0 x4 x5 x7 true) else ((laws_eqInt64S.f k x7 x4).bind fun t123 => (if t123 = true then (laws_FnExactUnreached.j1 k x0 x4 x5 x7 (x8 != x5)) else (laws_FnExactUnreached.j1 k x0 x4 x5 x7 true))))) else (some false))))
def laws_FnExactUnreached.j1 : Nat → List (S62) → List Int → Int → List Int → Bool → Option (Bool)
  | 0, _, _, _, _, _ => none
  | k + 1, x0, x4, x5, x7, x61 => if x61 = true then (some false) else ((laws_markInt64S.f k x7 1).bind fun bt124 => ((laws_heldInt64S.f k bt124.2 1).bind fun t126 => (if t126 < 0 then (some false) else (if t126 = bt124.1 then ((laws_toShipS.f k x0).bind fun t127 => ((impl_Unreached.f k t127).bind fun bt130 => ((laws_eqInt64S.f k bt130.1 x4).bind fun t134 => (if t134 = true then (laws_FnExactUnreached.j2 k bt124.2 bt124.1 (bt130.2 != x5)) else (laws_FnExactUnreached.j2 k bt124.2 bt124.1 true))))) else (some false)))))
def laws_FnExactUnreached.j2 : Nat → List Int → Int → Bool → Option (Bool)
  | 0, _, _, _ => none
  | k + 1, x7, x10, x87 => if x87 = true then (some false) else ((laws_heldInt64S.f k x7 1).bind fun t135 => (if t135 < 0 then (some false) else (if t135 = x10 then (some true) else (some false))))
end
def laws_FnExactUnreached.f (k : Nat) (l0 : List (S62)) : Option (Bool) := (laws_szShipS.f l0 1048576).bind fun t101 => (if t101 < 0 then (some true) else ((laws_toShipS.f k l0).bind fun t102 => ((spec_Unreached.f k t102).bind fun bt105 => ((laws_toShipS.f k l0).bind fun t109 => ((impl_Unreached.f k t109).bind fun bt112 => ((laws_eqInt64S.f k bt112.1 bt105.1).bind fun t116 => (if t116 = true then (laws_FnExactUnreached.j0 k l0 bt105.1 bt105.2 t109 bt112.1 bt112.2 (bt112.2 != bt105.2)) else (laws_FnExactUnreached.j0 k l0 bt105.1 bt105.2 t109 bt112.1 bt112.2 true))))))))
set_option maxHeartbeats 8000000 in
set_option maxRecDepth 100000 in
theorem laws_FnExactUnreached.calls (k : Nat) (A0 : Option Addr) (c0 : Nat) (l0 : List (S62)) (r : Bool) (w : World) (hr0 : Kd.C k62 w A0 l0.length l0) (hc0 : l0.length ≤ c0) (h : laws_FnExactUnreached.f k l0 = some r) :
    Calls Try.prog 8 #[.slice A0 l0.length c0] w fun e w' => e = .returned (.bool r) ∧ Below w.heap.size w w' := by
  have HR0 := Aside0.mk hr0
  have HC0 := Aside0.mk hc0
  clear hr0 hc0
  have HB := Aside0.mk (Below.refl w.heap.size w)
  have H : ((laws_szShipS.f l0 1048576).bind fun t101 => (if t101 < 0 then (some true) else ((laws_toShipS.f k l0).bind fun t102 => ((spec_Unreached.f k t102).bind fun bt105 => ((laws_toShipS.f k l0).bind fun t109 => ((impl_Unreached.f k t109).bind fun bt112 => ((laws_eqInt64S.f k bt112.1 bt105.1).bind fun t116 => (if t116 = true then (laws_FnExactUnreached.j0 k l0 bt105.1 bt105.2 t109 bt112.1 bt112.2 (bt112.2 != bt105.2)) else (laws_FnExactUnreached.j0 k l0 bt105.1 bt105.2 t109 bt112.1 bt112.2 true))))))))) = some r := h
  clear h
  replace H := Option.bind_eq_some_iff.mp H
  obtain ⟨t101, A20, H⟩ := H
  replace H : (if t101 < 0 then (some true) else ((laws_toShipS.f k l0).bind fun t102 => ((spec_Unreached.f k t102).bind fun bt105 => ((laws_toShipS.f k l0).bind fun t109 => ((impl_Unreached.f k t109).bind fun bt112 => ((laws_eqInt64S.f k bt112.1 bt105.1).bind fun t116 => (if t116 = true then (laws_FnExactUnreached.j0 k l0 bt105.1 bt105.2 t109 bt112.1 bt112.2 (bt112.2 != bt105.2)) else (laws_FnExactUnreached.j0 k l0 bt105.1 bt105.2 t109 bt112.1 bt112.2 true)))))))) = some r := H
  have A2 := Aside0.mk A20
  clear A20
  by_cases c3 : t101 < 0
  · rw [if_pos c3] at H
    have c3b0 : decide (t101 < 0) = true := decide_eq_true c3
    clear c3
    obtain rfl := Option.some.inj H
    go_enter Try.func8, Try.ntmps8
    go_wp2_with (first | ((with_reducible refine gate_callee (f := 16) rfl ?_); refine goesL_ (some 16) rfl rfl Try.func16 (by kernel_rfl) rfl #[.slice A0 l0.length c0, .int .i64 1048576] rfl (by (try simp only [List.map_toArray, List.map_cons, List.map_nil]); first | done | rfl | (simp only [List.length_drop, List.length_take]; rfl)) ?_; (with_reducible refine (laws_szShipS.calls _ _ l0 1048576 t101 _ ?side1 ?side2 A2.out).mono ?_); (case side1 => repeat (first | exact HR0.out | (with_reducible refine Kd.C_alloc ?_ _) | (with_reducible refine Kd.C_drewN ?_ _) | (with_reducible refine Kd.C_drew ?_))); (case side2 => exact HC0.out); rintro e w' ⟨rfl, ⟨nd, rfl⟩⟩; refine ⟨_, rfl, ?_⟩))
    go_ret
    exact ⟨by first | rfl | (simp [errW_none, errW_some, IntKind.wrap_i64, wrap64]; done) | (simp [errW_none, errW_some] <;> rfl) | (simp [*, errW_none, errW_some] <;> rfl), by repeat (first | (with_reducible first | exact HB.out | apply below_alloc | apply pw_below_drewN | apply below_drew1) | exact HB.out)⟩
  · rw [if_neg c3] at H
    have c3b0 : decide (t101 < 0) = false := decide_eq_false c3
    clear c3
    replace H := Option.bind_eq_some_iff.mp H
    obtain ⟨t102, A40, H⟩ := H
    replace H : ((spec_Unreached.f k t102).bind fun bt105 => ((laws_toShipS.f k l0).bind fun t109 => ((impl_Unreached.f k t109).bind fun bt112 => ((laws_eqInt64S.f k bt112.1 bt105.1).bind fun t116 => (if t116 = true then (laws_FnExactUnreached.j0 k l0 bt105.1 bt105.2 t109 bt112.1 bt112.2 (bt112.2 != bt105.2)) else (laws_FnExactUnreached.j0 k l0 bt105.1 bt105.2 t109 bt112.1 bt112.2 true)))))) = some r := H
    have A4 := Aside0.mk A40
    clear A40
    replace H := Option.bind_eq_some_iff.mp H
    obtain ⟨⟨t105, t106⟩, A50, H⟩ := H
    replace H : ((laws_toShipS.f k l0).bind fun t109 => ((impl_Unreached.f k t109).bind fun bt112 => ((laws_eqInt64S.f k bt112.1 t105).bind fun t116 => (if t116 = true then (laws_FnExactUnreached.j0 k l0 t105 t106 t109 bt112.1 bt112.2 (bt112.2 != t106)) else (laws_FnExactUnreached.j0 k l0 t105 t106 t109 bt112.1 bt112.2 true))))) = some r := H
    have A5 := Aside0.mk A50
    clear A50
    replace H := Option.bind_eq_some_iff.mp H
    obtain ⟨t109, A60, H⟩ := H
    replace H : ((impl_Unreached.f k t109).bind fun bt112 => ((laws_eqInt64S.f k bt112.1 t105).bind fun t116 => (if t116 = true then (laws_FnExactUnreached.j0 k l0 t105 t106 t109 bt112.1 bt112.2 (bt112.2 != t106)) else (laws_FnExactUnreached.j0 k l0 t105 t106 t109 bt112.1 bt112.2 true)))) = some r := H
    have A6 := Aside0.mk A60
    clear A60
    replace H := Option.bind_eq_some_iff.mp H
    obtain ⟨⟨t112, t113⟩, A70, H⟩ := H
    replace H : ((laws_eqInt64S.f k t112 t105).bind fun t116 => (if t116 = true then (laws_FnExactUnreached.j0 k l0 t105 t106 t109 t112 t113 (t113 != t106)) else (laws_FnExactUnreached.j0 k l0 t105 t106 t109 t112 t113 true))) = some r := H
    have A7 := Aside0.mk A70
    clear A70
    have HC8 := Aside0.mk H
    clear H
    go_enter Try.func8, Try.ntmps8
    go_upto_region 8 with (first | ((with_reducible refine gate_callee (f := 16) rfl ?_); refine goesL_ (some 16) rfl rfl Try.func16 (by kernel_rfl) rfl #[.slice A0 l0.length c0, .int .i64 1048576] rfl (by (try simp only [List.map_toArray, List.map_cons, List.map_nil]); first | done | rfl | (simp only [List.length_drop, List.length_take]; rfl)) ?_; (with_reducible refine (laws_szShipS.calls _ _ l0 1048576 t101 _ ?side1 ?side2 A2.out).mono ?_); (case side1 => repeat (first | exact HR0.out | (with_reducible refine Kd.C_alloc ?_ _) | (with_reducible refine Kd.C_drewN ?_ _) | (with_reducible refine Kd.C_drew ?_))); (case side2 => exact HC0.out); rintro e w' ⟨rfl, ⟨nd, rfl⟩⟩; refine ⟨_, rfl, ?_⟩) | ((with_reducible refine gate_callee (f := 18) rfl ?_); refine goesL_ (some 21) rfl rfl Try.func18 (by kernel_rfl) rfl #[.slice A0 l0.length c0] rfl (by (try simp only [List.map_toArray, List.map_cons, List.map_nil]); first | done | rfl | (simp only [List.length_drop, List.length_take]; rfl)) ?_; (with_reducible refine (laws_toShipS.calls k _ _ l0 t102 _ ?side1 ?side2 A4.out).mono ?_); (case side1 => repeat (first | exact HR0.out | (with_reducible refine Kd.C_alloc ?_ _) | (with_reducible refine Kd.C_drewN ?_ _) | (with_reducible refine Kd.C_drew ?_))); (case side2 => exact HC0.out); rintro e w9 ⟨v103, rfl, ho0, hb⟩; refine ⟨_, rfl, ?_⟩; have n0_ := Aside0.mk (Kd.R_lower ho0 (below_size (by repeat (first | (with_reducible first | exact HB.out | apply below_alloc | apply pw_below_drewN | apply below_drew1) | exact HB.out)))); have n1_ := Aside0.mk (below_step (by repeat (first | (with_reducible first | exact HB.out | apply below_alloc | apply pw_below_drewN | apply below_drew1) | exact HB.out)) hb); clear HB; have HO104 := n0_; have HB := n1_; clear n0_ n1_; (try clear hb); (try clear hb2); (try clear hk); (try clear hi); (try clear ho0); obtain ⟨Ao10, co10, eo10⟩ := Kd.R_slice HO104.out; subst eo10) | ((with_reducible refine gate_callee (f := 34) rfl ?_); refine goesL_ (some 22) rfl rfl Try.func34 (by kernel_rfl) rfl #[.slice Ao10 t102.length co10] rfl (by (try simp only [List.map_toArray, List.map_cons, List.map_nil]); first | done | rfl | (simp only [List.length_drop, List.length_take]; rfl)) ?_; (with_reducible refine (spec_Unreached.calls k _ _ t102 t105 t106 _ ?side1 ?side2 A5.out).mono ?_); (case side1 => repeat (first | exact (Kd.R_reads' HO104.out).2.2 | (with_reducible refine Kd.C_alloc ?_ _) | (with_reducible refine Kd.C_drewN ?_ _) | (with_reducible refine Kd.C_drew ?_))); (case side2 => exact (Kd.R_reads' HO104.out).2.1); rintro e w11 ⟨v107, rfl, ho0, hb⟩; refine ⟨_, rfl, ?_⟩; have n0_ := Aside0.mk (Kd.R_below (by (with_reducible repeat (first | apply Kd.R_alloc | apply Kd.R_drewN | apply Kd.R_drew)); exact HO104.out) hb); have n1_ := Aside0.mk (Kd.R_lower ho0 (below_size (by repeat (first | (with_reducible first | exact HB.out | apply below_alloc | apply pw_below_drewN | apply below_drew1) | exact HB.out)))); have n2_ := Aside0.mk (below_step (by repeat (first | (with_reducible first | exact HB.out | apply below_alloc | apply pw_below_drewN | apply below_drew1) | exact HB.out)) hb); clear HO104; clear HB; have HO104 := n0_; have HO108 := n1_; have HB := n2_; clear n0_ n1_ n2_; (try clear hb); (try clear hb2); (try clear hk); (try clear hi); (try clear ho0)) | ((with_reducible refine gate_callee (f := 18) rfl ?_); refine goesL_ (some 26) rfl rfl Try.func18 (by kernel_rfl) rfl #[.slice A0 l0.length c0] rfl (by (try simp only [List.map_toArray, List.map_cons, List.map_nil]); first | done | rfl | (simp only [List.length_drop, List.length_take]; rfl)) ?_; (with_reducible refine (laws_toShipS.calls k _ _ l0 t109 _ ?side1 ?side2 A6.out).mono ?_); (case side1 => repeat (first | exact (Kd.C_below HR0.out HB.out) | (with_reducible refine Kd.C_alloc ?_ _) | (with_reducible refine Kd.C_drewN ?_ _) | (with_reducible refine Kd.C_drew ?_))); (case side2 => exact HC0.out); rintro e w12 ⟨v110, rfl, ho0, hb⟩; refine ⟨_, rfl, ?_⟩; have n0_ := Aside0.mk (Kd.R_elder' (by (with_reducible repeat (first | apply Kd.R_alloc | apply Kd.R_drewN | apply Kd.R_drew)); exact HO104.out) (Kd.R_base ho0) hb); have n1_ := Aside0.mk (Kd.R_below (by (with_reducible repeat (first | apply Kd.R_alloc | apply Kd.R_drewN | apply Kd.R_drew)); exact HO108.out) hb); have n2_ := Aside0.mk (Kd.R_lower (Kd.R_new' ho0 (Kd.R_lt (by (with_reducible repeat (first | apply Kd.R_alloc | apply Kd.R_drewN | apply Kd.R_drew)); exact HO104.out))) (below_size (by repeat (first | (with_reducible first | exact HB.out | apply below_alloc | apply pw_below_drewN | apply below_drew1) | exact HB.out)))); have n3_ := Aside0.mk (below_step (by repeat (first | (with_reducible first | exact HB.out | apply below_alloc | apply pw_below_drewN | apply below_drew1) | exact HB.out)) hb); clear HO104; clear HO108; clear HB; have HO104 := n0_; have HO108 := n1_; have HO111 := n2_; have HB := n3_; clear n0_ n1_ n2_ n3_; (try clear hb); (try clear hb2); (try clear hk); (try clear hi); (try clear ho0); obtain ⟨Ao13, co13, eo13⟩ := Kd.R_slice HO111.out; subst eo13) | ((with_reducible refine gate_callee (f := 35) rfl ?_); refine goesL_ (some 29) rfl rfl Try.func35 (by kernel_rfl) rfl #[.slice Ao13 t109.length co13] rfl (by (try simp only [List.map_toArray, List.map_cons, List.map_nil]); first | done | rfl | (simp only [List.length_drop, List.length_take]; rfl)) ?_; (with_reducible refine (impl_Unreached.calls k _ _ t109 t112 t113 _ ?side1 ?side2 A7.out).mono ?_); (case side1 => repeat (first | exact (Kd.R_reads' HO111.out).2.2 | (with_reducible refine Kd.C_alloc ?_ _) | (with_reducible refine Kd.C_drewN ?_ _) | (with_reducible refine Kd.C_drew ?_))); (case side2 => exact (Kd.R_reads' HO111.out).2.1); rintro e w14 ⟨v114, rfl, ho0, hb⟩; refine ⟨_, rfl, ?_⟩; have n0_ := Aside0.mk (Kd.R_below (by (with_reducible repeat (first | apply Kd.R_alloc | apply Kd.R_drewN | apply Kd.R_drew)); exact HO104.out) hb); have n1_ := Aside0.mk (Kd.R_elder' (by (with_reducible repeat (first | apply Kd.R_alloc | apply Kd.R_drewN | apply Kd.R_drew)); exact HO108.out) (Kd.R_base ho0) hb); have n2_ := Aside0.mk (Kd.R_below (by (with_reducible repeat (first | apply Kd.R_alloc | apply Kd.R_drewN | apply Kd.R_drew)); exact HO111.out) hb); have n3_ := Aside0.mk (Kd.R_lower (Kd.R_new' ho0 (Kd.R_lt (by (with_reducible repeat (first | apply Kd.R_alloc | apply Kd.R_drewN | apply Kd.R_drew)); exact HO108.out))) (below_size (by repeat (first | (with_reducible first | exact HB.out | apply below_alloc | apply pw_below_drewN | apply below_drew1) | exact HB.out)))); have n4_ := Aside0.mk (below_step (by repeat (first | (with_reducible first | exact HB.out | apply below_alloc | apply pw_below_drewN | apply below_drew1) | exact HB.out)) hb); clear HO104; clear HO108; clear HO111; clear HB; have HO104 := n0_; have HO108 := n1_; have HO111 := n2_; have HO115 := n3_; have HB := n4_; clear n0_ n1_ n2_ n3_ n4_; (try clear hb); (try clear hb2); (try clear hk); (try clear hi); (try clear ho0)))
    (try simp only [Act.put, List.setIfInBounds_toArray, List.set_cons_zero, List.set_cons_succ])
    go_cut [40] (fun v40 wc => ∃ (kq : Nat) (x40_7 : Bool), v40 = .bool x40_7 ∧ Aside0 (laws_FnExactUnreached.j0 kq l0 t105 t106 t109 t112 t113 x40_7 = some r) ∧ Aside0 (kq ≤ k) ∧ Aside0 (Kd.R (Kd.int .i64) 2 wc w.heap.size (fun k_ => some k_ ≠ (v114 : Value).ownBlock) v107 t105) ∧ Aside0 (Kd.R k60 60 wc w.heap.size (fun _ => True) (.slice Ao13 t109.length co13) t109) ∧ Aside0 (Kd.R (Kd.int .i64) 2 wc w.heap.size (fun k_ => some k_ ≠ (v107 : Value).ownBlock) v114 t112) ∧ Aside0 (Below w.heap.size w wc))
    case first =>
      have H := HC8.out
      clear HC8
      replace H := Option.bind_eq_some_iff.mp H
      obtain ⟨t116, A150, H⟩ := H
      replace H : (if t116 = true then (laws_FnExactUnreached.j0 k l0 t105 t106 t109 t112 t113 (t113 != t106)) else (laws_FnExactUnreached.j0 k l0 t105 t106 t109 t112 t113 true)) = some r := H
      have A15 := Aside0.mk A150
      clear A150
      by_cases c16 : t116 = true
      · subst c16
        have H1 : (laws_FnExactUnreached.j0 k l0 t105 t106 t109 t112 t113 (t113 != t106)) = some r := by rw [if_pos rfl] at H; exact H
        clear H
        have H := H1
        clear H1
        have H' := Aside0.mk H
        clear H
        obtain ⟨Ao17, co17, eo17⟩ := Kd.R_slice HO115.out
        subst eo17
        obtain ⟨Ao18, co18, eo18⟩ := Kd.R_slice HO108.out
        subst eo18
        go_wp2_with (first | ((with_reducible refine gate_callee (f := 36) rfl ?_); refine goesL_ (some 34) rfl rfl Try.func36 (by kernel_rfl) rfl #[.slice Ao17 t112.length co17, .slice Ao18 t105.length co18] rfl (by (try simp only [List.map_toArray, List.map_cons, List.map_nil]); first | done | rfl | (simp only [List.length_drop, List.length_take]; rfl)) ?_; (with_reducible refine (laws_eqInt64S.calls k _ _ t112 _ _ t105 true _ ?side1 ?side2 ?side3 ?side4 A15.out).mono ?_); (case side1 => repeat (first | exact (Kd.R_reads' HO115.out).2.2 | (with_reducible refine Kd.C_alloc ?_ _) | (with_reducible refine Kd.C_drewN ?_ _) | (with_reducible refine Kd.C_drew ?_))); (case side2 => exact (Kd.R_reads' HO115.out).2.1); (case side3 => repeat (first | exact (Kd.R_reads' HO108.out).2.2 | (with_reducible refine Kd.C_alloc ?_ _) | (with_reducible refine Kd.C_drewN ?_ _) | (with_reducible refine Kd.C_drew ?_))); (case side4 => exact (Kd.R_reads' HO108.out).2.1); rintro e w' ⟨rfl, ⟨nd, rfl⟩⟩; refine ⟨_, rfl, ?_⟩))
        go_meet
        case rel => exact ⟨_, ((t113 != t106)), (by first | rfl | (simp only [IntKind.wrap_i64, wrap64]; done) | (simp; done) | (simp [*]; done)), H', ⟨by first | omega | exact Nat.le_refl _⟩, ⟨by (with_reducible repeat (first | apply Kd.R_alloc | apply Kd.R_drewN | apply Kd.R_drew)); exact Kd.R_mono HO108.out (fun _ hk => hk.2)⟩, ⟨by (with_reducible repeat (first | apply Kd.R_alloc | apply Kd.R_drewN | apply Kd.R_drew)); exact Kd.R_mono HO111.out (fun _ hk => trivial)⟩, ⟨by (with_reducible repeat (first | apply Kd.R_alloc | apply Kd.R_drewN | apply Kd.R_drew)); exact Kd.R_mono HO115.out (fun _ hk => hk.2)⟩, ⟨by repeat (first | (with_reducible first | exact HB.out | apply below_alloc | apply pw_below_drewN | apply below_drew1) | exact HB.out)⟩⟩
      · replace c16 := Bool.eq_false_iff.mpr c16
        subst c16
        have H1 : (laws_FnExactUnreached.j0 k l0 t105 t106 t109 t112 t113 true) = some r := by rw [if_neg (show ¬ (false = true) by decide)] at H; exact H
        clear H
        have H := H1
        clear H1
        have H' := Aside0.mk H
        clear H
        obtain ⟨Ao19, co19, eo19⟩ := Kd.R_slice HO115.out
        subst eo19
        obtain ⟨Ao20, co20, eo20⟩ := Kd.R_slice HO108.out
        subst eo20
        go_wp2_with (first | ((with_reducible refine gate_callee (f := 36) rfl ?_); refine goesL_ (some 34) rfl rfl Try.func36 (by kernel_rfl) rfl #[.slice Ao19 t112.length co19, .slice Ao20 t105.length co20] rfl (by (try simp only [List.map_toArray, List.map_cons, List.map_nil]); first | done | rfl | (simp only [List.length_drop, List.length_take]; rfl)) ?_; (with_reducible refine (laws_eqInt64S.calls k _ _ t112 _ _ t105 false _ ?side1 ?side2 ?side3 ?side4 A15.out).mono ?_); (case side1 => repeat (first | exact (Kd.R_reads' HO115.out).2.2 | (with_reducible refine Kd.C_alloc ?_ _) | (with_reducible refine Kd.C_drewN ?_ _) | (with_reducible refine Kd.C_drew ?_))); (case side2 => exact (Kd.R_reads' HO115.out).2.1); (case side3 => repeat (first | exact (Kd.R_reads' HO108.out).2.2 | (with_reducible refine Kd.C_alloc ?_ _) | (with_reducible refine Kd.C_drewN ?_ _) | (with_reducible refine Kd.C_drew ?_))); (case side4 => exact (Kd.R_reads' HO108.out).2.1); rintro e w' ⟨rfl, ⟨nd, rfl⟩⟩; refine ⟨_, rfl, ?_⟩))
        go_meet
        case rel => exact ⟨_, (true), (by first | rfl | (simp only [IntKind.wrap_i64, wrap64]; done) | (simp; done) | (simp [*]; done)), H', ⟨by first | omega | exact Nat.le_refl _⟩, ⟨by (with_reducible repeat (first | apply Kd.R_alloc | apply Kd.R_drewN | apply Kd.R_drew)); exact Kd.R_mono HO108.out (fun _ hk => hk.2)⟩, ⟨by (with_reducible repeat (first | apply Kd.R_alloc | apply Kd.R_drewN | apply Kd.R_drew)); exact Kd.R_mono HO111.out (fun _ hk => trivial)⟩, ⟨by (with_reducible repeat (first | apply Kd.R_alloc | apply Kd.R_drewN | apply Kd.R_drew)); exact Kd.R_mono HO115.out (fun _ hk => hk.2)⟩, ⟨by repeat (first | (with_reducible first | exact HB.out | apply below_alloc | apply pw_below_drewN | apply below_drew1) | exact HB.out)⟩⟩
    case rest =>
      clear HC8
      try clear c1
      try clear p2
      try clear c3
      try clear c3b0
      try clear c8
      try clear c16
      try clear c18
      obtain ⟨kq, x40_7, rfl, HA, HJ7, HO_4, HO_6, HO_7, HB⟩ := hcut
      cases kq with
      | zero => exact absurd HA.out (by simp [laws_FnExactUnreached.j0])
      | succ kj7 =>
        have H := HA.out
        clear HA
        simp only [laws_FnExactUnreached.j0] at H
        by_cases c21 : x40_7 = true
        · subst c21
          have H1 : (some false) = some r := by rw [if_pos rfl] at H; exact H
          clear H
          have H := H1
          clear H1
          obtain rfl := Option.some.inj H
          go_wp2
          go_ret
          exact ⟨by first | rfl | (simp [errW_none, errW_some, IntKind.wrap_i64, wrap64]; done) | (simp [errW_none, errW_some] <;> rfl) | (simp [*, errW_none, errW_some] <;> rfl), by repeat (first | (with_reducible first | exact HB.out | apply below_alloc | apply pw_below_drewN | apply below_drew1) | exact HB.out)⟩
        · replace c21 := Bool.eq_false_iff.mpr c21
          subst c21
          have H1 : ((laws_toShipS.f kj7 l0).bind fun t117 => ((laws_eqShipS.f kj7 t109 t117).bind fun t120 => (if t120 = true then ((laws_markShipS.f kj7 t109 1).bind fun bt121 => (if bt121.1 < 0 then (laws_FnExactUnreached.j1 kj7 l0 t105 t106 t112 true) else ((laws_eqInt64S.f kj7 t112 t105).bind fun t123 => (if t123 = true then (laws_FnExactUnreached.j1 kj7 l0 t105 t106 t112 (t113 != t106)) else (laws_FnExactUnreached.j1 kj7 l0 t105 t106 t112 true))))) else (some false)))) = some r := by rw [if_neg (show ¬ (false = true) by decide)] at H; exact H
          clear H
          have H := H1
          clear H1
          replace H := Option.bind_eq_some_iff.mp H
          obtain ⟨t117, A220, H⟩ := H
          replace H : ((laws_eqShipS.f kj7 t109 t117).bind fun t120 => (if t120 = true then ((laws_markShipS.f kj7 t109 1).bind fun bt121 => (if bt121.1 < 0 then (laws_FnExactUnreached.j1 kj7 l0 t105 t106 t112 true) else ((laws_eqInt64S.f kj7 t112 t105).bind fun t123 => (if t123 = true then (laws_FnExactUnreached.j1 kj7 l0 t105 t106 t112 (t113 != t106)) else (laws_FnExactUnreached.j1 kj7 l0 t105 t106 t112 true))))) else (some false))) = some r := H
          have A22 := Aside0.mk A220
          clear A220
          replace H := Option.bind_eq_some_iff.mp H
          obtain ⟨t120, A230, H⟩ := H
          replace H : (if t120 = true then ((laws_markShipS.f kj7 t109 1).bind fun bt121 => (if bt121.1 < 0 then (laws_FnExactUnreached.j1 kj7 l0 t105 t106 t112 true) else ((laws_eqInt64S.f kj7 t112 t105).bind fun t123 => (if t123 = true then (laws_FnExactUnreached.j1 kj7 l0 t105 t106 t112 (t113 != t106)) else (laws_FnExactUnreached.j1 kj7 l0 t105 t106 t112 true))))) else (some false)) = some r := H
          have A23 := Aside0.mk A230
          clear A230
          by_cases c24 : t120 = true
          · subst c24
            have H1 : ((laws_markShipS.f kj7 t109 1).bind fun bt121 => (if bt121.1 < 0 then (laws_FnExactUnreached.j1 kj7 l0 t105 t106 t112 true) else ((laws_eqInt64S.f kj7 t112 t105).bind fun t123 => (if t123 = true then (laws_FnExactUnreached.j1 kj7 l0 t105 t106 t112 (t113 != t106)) else (laws_FnExactUnreached.j1 kj7 l0 t105 t106 t112 true))))) = some r := by rw [if_pos rfl] at H; exact H
            clear H
            have H := H1
            clear H1
            replace H := Option.bind_eq_some_iff.mp H
            obtain ⟨⟨t121, t122⟩, A250, H⟩ := H
            replace H : (if t121 < 0 then (laws_FnExactUnreached.j1 kj7 l0 t105 t106 t112 true) else ((laws_eqInt64S.f kj7 t112 t105).bind fun t123 => (if t123 = true then (laws_FnExactUnreached.j1 kj7 l0 t105 t106 t112 (t113 != t106)) else (laws_FnExactUnreached.j1 kj7 l0 t105 t106 t112 true)))) = some r := H
            have A25 := Aside0.mk A250
            clear A250
            have HC26 := Aside0.mk H
            clear H
            go_upto_region 14 with (first | ((with_reducible refine gate_callee (f := 18) rfl ?_); refine goesL_ (some 43) rfl rfl Try.func18 (by kernel_rfl) rfl #[.slice A0 l0.length c0] rfl (by (try simp only [List.map_toArray, List.map_cons, List.map_nil]); first | done | rfl | (simp only [List.length_drop, List.length_take]; rfl)) ?_; (with_reducible refine (laws_toShipS.calls kj7 _ _ l0 t117 _ ?side1 ?side2 A22.out).mono ?_); (case side1 => repeat (first | exact (Kd.C_below HR0.out HB.out) | (with_reducible refine Kd.C_alloc ?_ _) | (with_reducible refine Kd.C_drewN ?_ _) | (with_reducible refine Kd.C_drew ?_))); (case side2 => exact HC0.out); rintro e w27 ⟨v118, rfl, ho0, hb⟩; refine ⟨_, rfl, ?_⟩; have n0_ := Aside0.mk (Kd.R_below (by (with_reducible repeat (first | apply Kd.R_alloc | apply Kd.R_drewN | apply Kd.R_drew)); exact HO_4.out) hb); have n1_ := Aside0.mk (Kd.R_elder' (by (with_reducible repeat (first | apply Kd.R_alloc | apply Kd.R_drewN | apply Kd.R_drew)); exact HO_6.out) (Kd.R_base ho0) hb); have n2_ := Aside0.mk (Kd.R_below (by (with_reducible repeat (first | apply Kd.R_alloc | apply Kd.R_drewN | apply Kd.R_drew)); exact HO_7.out) hb); have n3_ := Aside0.mk (Kd.R_lower (Kd.R_new' ho0 (Kd.R_lt (by (with_reducible repeat (first | apply Kd.R_alloc | apply Kd.R_drewN | apply Kd.R_drew)); exact HO_6.out))) (below_size (by repeat (first | (with_reducible first | exact HB.out | apply below_alloc | apply pw_below_drewN | apply below_drew1) | exact HB.out)))); have n4_ := Aside0.mk (below_step (by repeat (first | (with_reducible first | exact HB.out | apply below_alloc | apply pw_below_drewN | apply below_drew1) | exact HB.out)) hb); clear HO_4; clear HO_6; clear HO_7; clear HB; have HO_4 := n0_; have HO_6 := n1_; have HO_7 := n2_; have HO119 := n3_; have HB := n4_; clear n0_ n1_ n2_ n3_ n4_; (try clear hb); (try clear hb2); (try clear hk); (try clear hi); (try clear ho0); obtain ⟨Ao28, co28, eo28⟩ := Kd.R_slice HO119.out; subst eo28) | ((with_reducible refine gate_callee (f := 20) rfl ?_); refine goesL_ (some 44) rfl rfl Try.func20 (by kernel_rfl) rfl #[.slice Ao13 t109.length co13, .slice Ao28 t117.length co28] rfl (by (try simp only [List.map_toArray, List.map_cons, List.map_nil]); first | done | rfl | (simp only [List.length_drop, List.length_take]; rfl)) ?_; (with_reducible refine (laws_eqShipS.calls kj7 _ _ t109 _ _ t117 true _ ?side1 ?side2 ?side3 ?side4 A23.out).mono ?_); (case side1 => repeat (first | exact (Kd.R_reads' HO_6.out).2.2 | (with_reducible refine Kd.C_alloc ?_ _) | (with_reducible refine Kd.C_drewN ?_ _) | (with_reducible refine Kd.C_drew ?_))); (case side2 => exact (Kd.R_reads' HO_6.out).2.1); (case side3 => repeat (first | exact (Kd.R_reads' HO119.out).2.2 | (with_reducible refine Kd.C_alloc ?_ _) | (with_reducible refine Kd.C_drewN ?_ _) | (with_reducible refine Kd.C_drew ?_))); (case side4 => exact (Kd.R_reads' HO119.out).2.1); rintro e w29 ⟨rfl, hb⟩; refine ⟨_, rfl, ?_⟩; have n0_ := Aside0.mk (Kd.R_below (by (with_reducible repeat (first | apply Kd.R_alloc | apply Kd.R_drewN | apply Kd.R_drew)); exact HO_4.out) hb); have n1_ := Aside0.mk (Kd.R_below (by (with_reducible repeat (first | apply Kd.R_alloc | apply Kd.R_drewN | apply Kd.R_drew)); exact HO_6.out) hb); have n2_ := Aside0.mk (Kd.R_below (by (with_reducible repeat (first | apply Kd.R_alloc | apply Kd.R_drewN | apply Kd.R_drew)); exact HO_7.out) hb); have n3_ := Aside0.mk (Kd.R_below (by (with_reducible repeat (first | apply Kd.R_alloc | apply Kd.R_drewN | apply Kd.R_drew)); exact HO119.out) hb); have n4_ := Aside0.mk (below_step (by repeat (first | (with_reducible first | exact HB.out | apply below_alloc | apply pw_below_drewN | apply below_drew1) | exact HB.out)) hb); clear HO_4; clear HO_6; clear HO_7; clear HO119; clear HB; have HO_4 := n0_; have HO_6 := n1_; have HO_7 := n2_; have HO119 := n3_; have HB := n4_; clear n0_ n1_ n2_ n3_ n4_; (try clear hb); (try clear hb2); (try clear hk); (try clear hi)) | ((with_reducible refine gate_callee (f := 32) rfl ?_); refine goesL_ (some 48) rfl rfl Try.func32 (by kernel_rfl) rfl #[.slice Ao13 t109.length co13, .int .i64 1] rfl (by (try simp only [List.map_toArray, List.map_cons, List.map_nil]); first | done | rfl | (simp only [List.length_drop, List.length_take]; rfl)) ?_; (with_reducible refine (laws_markShipS.calls kj7 (fun k_ => some k_ = (.slice Ao13 t109.length co13 : Value).ownBlock) (.slice Ao13 t109.length co13) t109 1 t121 t122 w _ ?side1 ?side2 A25.out).mono ?_); (case side1 => repeat (first | (with_reducible first | exact HB.out | apply below_alloc | apply pw_below_drewN | apply below_drew1) | exact HB.out)); (case side2 => exact Kd.R_tight rfl HO_6.out); rintro e w30 ⟨rfl, hy0, hb, hkp⟩; refine ⟨_, rfl, ?_⟩; have n0_ := Aside0.mk (Kd.R_mono (ok' := fun k_ => some k_ ≠ (v114 : Value).ownBlock) (Kd.R_keptB ((Kd.R_apart' HO_4.out (Kd.R_typed HO_6.out) (by decide))) hkp (fun k_ hk_ hs_ => (hk_.2) hs_)) (fun k_ hk_ => hk_.1.1)); have n1_ := Aside0.mk (Kd.R_reok rfl hy0 (fun k_ e_ => HO_6.out.1 k_ e_)); have n2_ := Aside0.mk (Kd.R_mono (ok' := fun k_ => some k_ ≠ (v107 : Value).ownBlock) (Kd.R_keptB ((Kd.R_apart' HO_7.out (Kd.R_typed HO_6.out) (by decide))) hkp (fun k_ hk_ hs_ => (hk_.2) hs_)) (fun k_ hk_ => hk_.1.1)); have n3_ := Aside0.mk (Kd.R_mono (ok' := fun k_ => some k_ ≠ (.slice Ao13 t109.length co13 : Value).ownBlock) (Kd.R_keptB (HO119.out) hkp (fun k_ hk_ hs_ => (hk_.2) hs_)) (fun k_ hk_ => hk_.1.2)); have n4_ := Aside0.mk (hb); clear HO_4; clear HO_6; clear HO_7; clear HO119; clear HB; have HO_4 := n0_; have HO_6 := n1_; have HO_7 := n2_; have HO119 := n3_; have HB := n4_; clear n0_ n1_ n2_ n3_ n4_; (try clear hb); (try clear hkp); (try clear hy0)))
            (try simp only [Act.put, List.setIfInBounds_toArray, List.set_cons_zero, List.set_cons_succ])
            go_cut [61] (fun v61 wc => ∃ (kq : Nat) (x61_25 : Bool), v61 = .bool x61_25 ∧ Aside0 (laws_FnExactUnreached.j1 kq l0 t105 t106 t112 x61_25 = some r) ∧ Aside0 (kq ≤ kj7) ∧ Aside0 (Kd.R (Kd.int .i64) 2 wc w.heap.size (fun k_ => some k_ ≠ (v114 : Value).ownBlock) v107 t105) ∧ Aside0 (Kd.R (Kd.int .i64) 2 wc w.heap.size (fun k_ => some k_ ≠ (v107 : Value).ownBlock) v114 t112) ∧ Aside0 (Below w.heap.size w wc))
            case first =>
              have H := HC26.out
              clear HC26
              by_cases c31 : t121 < 0
              · rw [if_pos c31] at H
                have c31b0 : decide (t121 < 0) = true := decide_eq_true c31
                clear c31
                (first | rw [c31b0] | (simp only [i64_w, i32_w]; rw [c31b0]) | skip)
                have H' := Aside0.mk H
                clear H
                go_wp2
                go_meet
                case rel => exact ⟨_, (true), (by first | rfl | (simp only [IntKind.wrap_i64, wrap64]; done) | (simp; done) | (simp [*]; done)), H', ⟨by have := HJ7.out; first | omega | exact Nat.le_refl _⟩, ⟨by (with_reducible repeat (first | apply Kd.R_alloc | apply Kd.R_drewN | apply Kd.R_drew)); exact HO_4.out⟩, ⟨by (with_reducible repeat (first | apply Kd.R_alloc | apply Kd.R_drewN | apply Kd.R_drew)); exact HO_7.out⟩, ⟨by repeat (first | (with_reducible first | exact HB.out | apply below_alloc | apply pw_below_drewN | apply below_drew1) | exact HB.out)⟩⟩
              · rw [if_neg c31] at H
                have c31b0 : decide (t121 < 0) = false := decide_eq_false c31
                clear c31
                (first | rw [c31b0] | (simp only [i64_w, i32_w]; rw [c31b0]) | skip)
                replace H := Option.bind_eq_some_iff.mp H
                obtain ⟨t123, A320, H⟩ := H
                replace H : (if t123 = true then (laws_FnExactUnreached.j1 kj7 l0 t105 t106 t112 (t113 != t106)) else (laws_FnExactUnreached.j1 kj7 l0 t105 t106 t112 true)) = some r := H
                have A32 := Aside0.mk A320
                clear A320
                by_cases c33 : t123 = true
                · subst c33
                  have H1 : (laws_FnExactUnreached.j1 kj7 l0 t105 t106 t112 (t113 != t106)) = some r := by rw [if_pos rfl] at H; exact H
                  clear H
                  have H := H1
                  clear H1
                  have H' := Aside0.mk H
                  clear H
                  obtain ⟨Ao34, co34, eo34⟩ := Kd.R_slice HO_7.out
                  subst eo34
                  obtain ⟨Ao35, co35, eo35⟩ := Kd.R_slice HO_4.out
                  subst eo35
                  go_wp2_with (first | (go_at_call 36; (with_reducible refine (laws_eqInt64S.calls kj7 _ _ t112 _ _ t105 true _ ?side1 ?side2 ?side3 ?side4 A32.out).mono ?_); (case side1 => repeat (first | exact (Kd.R_reads' HO_7.out).2.2 | (with_reducible refine Kd.C_alloc ?_ _) | (with_reducible refine Kd.C_drewN ?_ _) | (with_reducible refine Kd.C_drew ?_))); (case side2 => exact (Kd.R_reads' HO_7.out).2.1); (case side3 => repeat (first | exact (Kd.R_reads' HO_4.out).2.2 | (with_reducible refine Kd.C_alloc ?_ _) | (with_reducible refine Kd.C_drewN ?_ _) | (with_reducible refine Kd.C_drew ?_))); (case side4 => exact (Kd.R_reads' HO_4.out).2.1); rintro e w' ⟨rfl, ⟨nd, rfl⟩⟩))
                  go_meet
                  case rel => exact ⟨_, ((t113 != t106)), (by first | rfl | (simp only [IntKind.wrap_i64, wrap64]; done) | (simp; done) | (simp [*]; done)), H', ⟨by have := HJ7.out; first | omega | exact Nat.le_refl _⟩, ⟨by (with_reducible repeat (first | apply Kd.R_alloc | apply Kd.R_drewN | apply Kd.R_drew)); exact HO_4.out⟩, ⟨by (with_reducible repeat (first | apply Kd.R_alloc | apply Kd.R_drewN | apply Kd.R_drew)); exact HO_7.out⟩, ⟨by repeat (first | (with_reducible first | exact HB.out | apply below_alloc | apply pw_below_drewN | apply below_drew1) | exact HB.out)⟩⟩
                · replace c33 := Bool.eq_false_iff.mpr c33
                  subst c33
                  have H1 : (laws_FnExactUnreached.j1 kj7 l0 t105 t106 t112 true) = some r := by rw [if_neg (show ¬ (false = true) by decide)] at H; exact H
                  clear H
                  have H := H1
                  clear H1
                  have H' := Aside0.mk H
                  clear H
                  obtain ⟨Ao36, co36, eo36⟩ := Kd.R_slice HO_7.out
                  subst eo36
                  obtain ⟨Ao37, co37, eo37⟩ := Kd.R_slice HO_4.out
                  subst eo37
                  go_wp2_with (first | (go_at_call 36; (with_reducible refine (laws_eqInt64S.calls kj7 _ _ t112 _ _ t105 false _ ?side1 ?side2 ?side3 ?side4 A32.out).mono ?_); (case side1 => repeat (first | exact (Kd.R_reads' HO_7.out).2.2 | (with_reducible refine Kd.C_alloc ?_ _) | (with_reducible refine Kd.C_drewN ?_ _) | (with_reducible refine Kd.C_drew ?_))); (case side2 => exact (Kd.R_reads' HO_7.out).2.1); (case side3 => repeat (first | exact (Kd.R_reads' HO_4.out).2.2 | (with_reducible refine Kd.C_alloc ?_ _) | (with_reducible refine Kd.C_drewN ?_ _) | (with_reducible refine Kd.C_drew ?_))); (case side4 => exact (Kd.R_reads' HO_4.out).2.1); rintro e w' ⟨rfl, ⟨nd, rfl⟩⟩))
                  go_meet
                  case rel => exact ⟨_, (true), (by first | rfl | (simp only [IntKind.wrap_i64, wrap64]; done) | (simp; done) | (simp [*]; done)), H', ⟨by have := HJ7.out; first | omega | exact Nat.le_refl _⟩, ⟨by (with_reducible repeat (first | apply Kd.R_alloc | apply Kd.R_drewN | apply Kd.R_drew)); exact HO_4.out⟩, ⟨by (with_reducible repeat (first | apply Kd.R_alloc | apply Kd.R_drewN | apply Kd.R_drew)); exact HO_7.out⟩, ⟨by repeat (first | (with_reducible first | exact HB.out | apply below_alloc | apply pw_below_drewN | apply below_drew1) | exact HB.out)⟩⟩
            case rest =>
              clear HC26
              try clear c1
              try clear c2
              try clear p2
              try clear c3
              try clear c3b0
              try clear c8
              try clear c16
              try clear c18
              try clear c20
              try clear c21
              try clear c24
              try clear c31
              try clear c31b0
              try clear c32
              try clear c33
              try clear c34
              try clear c35
              try clear c36
              try clear p2
              obtain ⟨kq, x61_25, rfl, HA, HJ25, HO_4, HO_7, HB⟩ := hcut
              cases kq with
              | zero => exact absurd HA.out (by simp [laws_FnExactUnreached.j1])
              | succ kj25 =>
                have H := HA.out
                clear HA
                simp only [laws_FnExactUnreached.j1] at H
                by_cases c38 : x61_25 = true
                · subst c38
                  have H1 : (some false) = some r := by rw [if_pos rfl] at H; exact H
                  clear H
                  have H := H1
                  clear H1
                  obtain rfl := Option.some.inj H
                  go_wp2
                  go_ret
                  exact ⟨by first | rfl | (simp [errW_none, errW_some, IntKind.wrap_i64, wrap64]; done) | (simp [errW_none, errW_some] <;> rfl) | (simp [*, errW_none, errW_some] <;> rfl), by repeat (first | (with_reducible first | exact HB.out | apply below_alloc | apply pw_below_drewN | apply below_drew1) | exact HB.out)⟩
                · replace c38 := Bool.eq_false_iff.mpr c38
                  subst c38
                  have H1 : ((laws_markInt64S.f kj25 t112 1).bind fun bt124 => ((laws_heldInt64S.f kj25 bt124.2 1).bind fun t126 => (if t126 < 0 then (some false) else (if t126 = bt124.1 then ((laws_toShipS.f kj25 l0).bind fun t127 => ((impl_Unreached.f kj25 t127).bind fun bt130 => ((laws_eqInt64S.f kj25 bt130.1 t105).bind fun t134 => (if t134 = true then (laws_FnExactUnreached.j2 kj25 bt124.2 bt124.1 (bt130.2 != t106)) else (laws_FnExactUnreached.j2 kj25 bt124.2 bt124.1 true))))) else (some false))))) = some r := by rw [if_neg (show ¬ (false = true) by decide)] at H; exact H
                  clear H
                  have H := H1
                  clear H1
                  replace H := Option.bind_eq_some_iff.mp H
                  obtain ⟨⟨t124, t125⟩, A390, H⟩ := H
                  replace H : ((laws_heldInt64S.f kj25 t125 1).bind fun t126 => (if t126 < 0 then (some false) else (if t126 = t124 then ((laws_toShipS.f kj25 l0).bind fun t127 => ((impl_Unreached.f kj25 t127).bind fun bt130 => ((laws_eqInt64S.f kj25 bt130.1 t105).bind fun t134 => (if t134 = true then (laws_FnExactUnreached.j2 kj25 t125 t124 (bt130.2 != t106)) else (laws_FnExactUnreached.j2 kj25 t125 t124 true))))) else (some false)))) = some r := H
                  have A39 := Aside0.mk A390
                  clear A390
                  replace H := Option.bind_eq_some_iff.mp H
                  obtain ⟨t126, A400, H⟩ := H
                  replace H : (if t126 < 0 then (some false) else (if t126 = t124 then ((laws_toShipS.f kj25 l0).bind fun t127 => ((impl_Unreached.f kj25 t127).bind fun bt130 => ((laws_eqInt64S.f kj25 bt130.1 t105).bind fun t134 => (if t134 = true then (laws_FnExactUnreached.j2 kj25 t125 t124 (bt130.2 != t106)) else (laws_FnExactUnreached.j2 kj25 t125 t124 true))))) else (some false))) = some r := H
                  have A40 := Aside0.mk A400
                  clear A400
                  by_cases c41 : t126 < 0
                  · rw [if_pos c41] at H
                    have c41b0 : decide (t126 < 0) = true := decide_eq_true c41
                    clear c41
                    obtain rfl := Option.some.inj H
                    obtain ⟨Ao42, co42, eo42⟩ := Kd.R_slice HO_7.out
                    subst eo42
                    go_wp2_with (first | ((with_reducible refine gate_callee (f := 37) rfl ?_); refine goesL_ (some 64) rfl rfl Try.func37 (by kernel_rfl) rfl #[.slice Ao42 t112.length co42, .int .i64 1] rfl (by (try simp only [List.map_toArray, List.map_cons, List.map_nil]); first | done | rfl | (simp only [List.length_drop, List.length_take]; rfl)) ?_; (with_reducible refine (laws_markInt64S.calls kj25 (fun k_ => some k_ = (.slice Ao42 t112.length co42 : Value).ownBlock) (.slice Ao42 t112.length co42) t112 1 t124 t125 w _ ?side1 ?side2 A39.out).mono ?_); (case side1 => repeat (first | (with_reducible first | exact HB.out | apply below_alloc | apply pw_below_drewN | apply below_drew1) | exact HB.out)); (case side2 => exact Kd.R_tight rfl HO_7.out); rintro e w43 ⟨rfl, hy0, hb, hkp⟩; refine ⟨_, rfl, ?_⟩; have n0_ := Aside0.mk (Kd.R_mono (ok' := fun k_ => some k_ ≠ (.slice Ao42 t112.length co42 : Value).ownBlock) (Kd.R_keptB (HO_4.out) hkp (fun k_ hk_ hs_ => (hk_) hs_)) (fun k_ hk_ => hk_.1)); have n1_ := Aside0.mk (Kd.R_reok rfl hy0 (fun k_ e_ => HO_7.out.1 k_ e_)); have n2_ := Aside0.mk (hb); clear HO_4; clear HO_7; clear HB; have HO_4 := n0_; have HO_7 := n1_; have HB := n2_; clear n0_ n1_ n2_; (try clear hb); (try clear hkp); (try clear hy0)) | ((with_reducible refine gate_callee (f := 38) rfl ?_); refine goesL_ (some 67) rfl rfl Try.func38 (by kernel_rfl) rfl #[.slice Ao42 t125.length co42, .int .i64 1] rfl (by (try simp only [List.map_toArray, List.map_cons, List.map_nil]); first | done | (rw [show t125.length = t112.length from (Kd.R_reads' HO_7.out).1.symm] <;> rfl) | rfl | (simp only [List.length_drop, List.length_take]; rfl)) ?_; (with_reducible refine (laws_heldInt64S.calls kj25 _ _ t125 1 t126 _ ?side1 ?side2 A40.out).mono ?_); (case side1 => repeat (first | exact (Kd.R_reads' HO_7.out).2.2 | (with_reducible refine Kd.C_alloc ?_ _) | (with_reducible refine Kd.C_drewN ?_ _) | (with_reducible refine Kd.C_drew ?_))); (case side2 => rw [show t125.length = t112.length from (Kd.R_reads' HO_7.out).1.symm]; exact (Kd.R_reads' HO_7.out).2.1); rintro e w' ⟨rfl, ⟨nd, rfl⟩⟩; refine ⟨_, rfl, ?_⟩))
                    go_ret
                    exact ⟨by first | rfl | (simp [errW_none, errW_some, IntKind.wrap_i64, wrap64]; done) | (simp [errW_none, errW_some] <;> rfl) | (simp [*, errW_none, errW_some] <;> rfl), by repeat (first | (with_reducible first | exact HB.out | apply below_alloc | apply pw_below_drewN | apply below_drew1) | exact HB.out)⟩
                  · rw [if_neg c41] at H
                    have c41b0 : decide (t126 < 0) = false := decide_eq_false c41
                    clear c41
                    by_cases c44 : t126 = t124
                    · rw [if_pos c44] at H
                      have c44b0 : (t126 == t124) = true := beq_iff_eq.mpr c44
                      have c44b1 : (t126 != t124) = false := bne_eq_false_iff_eq.mpr c44
                      clear c44
                      replace H := Option.bind_eq_some_iff.mp H
                      obtain ⟨t127, A450, H⟩ := H
                      replace H : ((impl_Unreached.f kj25 t127).bind fun bt130 => ((laws_eqInt64S.f kj25 bt130.1 t105).bind fun t134 => (if t134 = true then (laws_FnExactUnreached.j2 kj25 t125 t124 (bt130.2 != t106)) else (laws_FnExactUnreached.j2 kj25 t125 t124 true)))) = some r := H
                      have A45 := Aside0.mk A450
                      clear A450
                      replace H := Option.bind_eq_some_iff.mp H
                      obtain ⟨⟨t130, t131⟩, A460, H⟩ := H
                      replace H : ((laws_eqInt64S.f kj25 t130 t105).bind fun t134 => (if t134 = true then (laws_FnExactUnreached.j2 kj25 t125 t124 (t131 != t106)) else (laws_FnExactUnreached.j2 kj25 t125 t124 true))) = some r := H
                      have A46 := Aside0.mk A460
                      clear A460
                      have HC47 := Aside0.mk H
                      clear H
                      obtain ⟨Ao48, co48, eo48⟩ := Kd.R_slice HO_7.out
                      subst eo48
                      go_upto_region 25 with (first | ((with_reducible refine gate_callee (f := 37) rfl ?_); refine goesL_ (some 64) rfl rfl Try.func37 (by kernel_rfl) rfl #[.slice Ao48 t112.length co48, .int .i64 1] rfl (by (try simp only [List.map_toArray, List.map_cons, List.map_nil]); first | done | rfl | (simp only [List.length_drop, List.length_take]; rfl)) ?_; (with_reducible refine (laws_markInt64S.calls kj25 (fun k_ => some k_ = (.slice Ao48 t112.length co48 : Value).ownBlock) (.slice Ao48 t112.length co48) t112 1 t124 t125 w _ ?side1 ?side2 A39.out).mono ?_); (case side1 => repeat (first | (with_reducible first | exact HB.out | apply below_alloc | apply pw_below_drewN | apply below_drew1) | exact HB.out)); (case side2 => exact Kd.R_tight rfl HO_7.out); rintro e w49 ⟨rfl, hy0, hb, hkp⟩; refine ⟨_, rfl, ?_⟩; have n0_ := Aside0.mk (Kd.R_mono (ok' := fun k_ => some k_ ≠ (.slice Ao48 t112.length co48 : Value).ownBlock) (Kd.R_keptB (HO_4.out) hkp (fun k_ hk_ hs_ => (hk_) hs_)) (fun k_ hk_ => hk_.1)); have n1_ := Aside0.mk (Kd.R_reok rfl hy0 (fun k_ e_ => HO_7.out.1 k_ e_)); have n2_ := Aside0.mk (hb); clear HO_4; clear HO_7; clear HB; have HO_4 := n0_; have HO_7 := n1_; have HB := n2_; clear n0_ n1_ n2_; (try clear hb); (try clear hkp); (try clear hy0)) | ((with_reducible refine gate_callee (f := 38) rfl ?_); refine goesL_ (some 67) rfl rfl Try.func38 (by kernel_rfl) rfl #[.slice Ao48 t125.length co48, .int .i64 1] rfl (by (try simp only [List.map_toArray, List.map_cons, List.map_nil]); first | done | (rw [show t125.length = t112.length from (Kd.R_reads' HO_7.out).1.symm] <;> rfl) | rfl | (simp only [List.length_drop, List.length_take]; rfl)) ?_; (with_reducible refine (laws_heldInt64S.calls kj25 _ _ t125 1 t126 _ ?side1 ?side2 A40.out).mono ?_); (case side1 => repeat (first | exact (Kd.R_reads' HO_7.out).2.2 | (with_reducible refine Kd.C_alloc ?_ _) | (with_reducible refine Kd.C_drewN ?_ _) | (with_reducible refine Kd.C_drew ?_))); (case side2 => rw [show t125.length = t112.length from (Kd.R_reads' HO_7.out).1.symm]; exact (Kd.R_reads' HO_7.out).2.1); rintro e w' ⟨rfl, ⟨nd, rfl⟩⟩; refine ⟨_, rfl, ?_⟩) | ((with_reducible refine gate_callee (f := 18) rfl ?_); refine goesL_ (some 75) rfl rfl Try.func18 (by kernel_rfl) rfl #[.slice A0 l0.length c0] rfl (by (try simp only [List.map_toArray, List.map_cons, List.map_nil]); first | done | rfl | (simp only [List.length_drop, List.length_take]; rfl)) ?_; (with_reducible refine (laws_toShipS.calls kj25 _ _ l0 t127 _ ?side1 ?side2 A45.out).mono ?_); (case side1 => repeat (first | exact (Kd.C_below HR0.out (by repeat (first | (with_reducible first | exact HB.out | apply below_alloc | apply pw_below_drewN | apply below_drew1) | exact HB.out))) | (with_reducible refine Kd.C_alloc ?_ _) | (with_reducible refine Kd.C_drewN ?_ _) | (with_reducible refine Kd.C_drew ?_))); (case side2 => exact HC0.out); rintro e w50 ⟨v128, rfl, ho0, hb⟩; refine ⟨_, rfl, ?_⟩; have n0_ := Aside0.mk (Kd.R_below (by (with_reducible repeat (first | apply Kd.R_alloc | apply Kd.R_drewN | apply Kd.R_drew)); exact HO_4.out) hb); have n1_ := Aside0.mk (Kd.R_below (by (with_reducible repeat (first | apply Kd.R_alloc | apply Kd.R_drewN | apply Kd.R_drew)); exact HO_7.out) hb); have n2_ := Aside0.mk (Kd.R_lower ho0 (below_size (by repeat (first | (with_reducible first | exact HB.out | apply below_alloc | apply pw_below_drewN | apply below_drew1) | exact HB.out)))); have n3_ := Aside0.mk (below_step (by repeat (first | (with_reducible first | exact HB.out | apply below_alloc | apply pw_below_drewN | apply below_drew1) | exact HB.out)) hb); clear HO_4; clear HO_7; clear HB; have HO_4 := n0_; have HO_7 := n1_; have HO129 := n2_; have HB := n3_; clear n0_ n1_ n2_ n3_; (try clear hb); (try clear hb2); (try clear hk); (try clear hi); (try clear ho0); obtain ⟨Ao51, co51, eo51⟩ := Kd.R_slice HO129.out; subst eo51) | ((with_reducible refine gate_callee (f := 35) rfl ?_); refine goesL_ (some 76) rfl rfl Try.func35 (by kernel_rfl) rfl #[.slice Ao51 t127.length co51] rfl (by (try simp only [List.map_toArray, List.map_cons, List.map_nil]); first | done | rfl | (simp only [List.length_drop, List.length_take]; rfl)) ?_; (with_reducible refine (impl_Unreached.calls kj25 _ _ t127 t130 t131 _ ?side1 ?side2 A46.out).mono ?_); (case side1 => repeat (first | exact (Kd.R_reads' HO129.out).2.2 | (with_reducible refine Kd.C_alloc ?_ _) | (with_reducible refine Kd.C_drewN ?_ _) | (with_reducible refine Kd.C_drew ?_))); (case side2 => exact (Kd.R_reads' HO129.out).2.1); rintro e w52 ⟨v132, rfl, ho0, hb⟩; refine ⟨_, rfl, ?_⟩; have n0_ := Aside0.mk (Kd.R_elder' (by (with_reducible repeat (first | apply Kd.R_alloc | apply Kd.R_drewN | apply Kd.R_drew)); exact HO_4.out) (Kd.R_base ho0) hb); have n1_ := Aside0.mk (Kd.R_elder' (by (with_reducible repeat (first | apply Kd.R_alloc | apply Kd.R_drewN | apply Kd.R_drew)); exact HO_7.out) (Kd.R_base ho0) hb); have n2_ := Aside0.mk (Kd.R_below (by (with_reducible repeat (first | apply Kd.R_alloc | apply Kd.R_drewN | apply Kd.R_drew)); exact HO129.out) hb); have n3_ := Aside0.mk (Kd.R_lower (Kd.R_new' (Kd.R_new' ho0 (Kd.R_lt (by (with_reducible repeat (first | apply Kd.R_alloc | apply Kd.R_drewN | apply Kd.R_drew)); exact HO_4.out))) (Kd.R_lt (by (with_reducible repeat (first | apply Kd.R_alloc | apply Kd.R_drewN | apply Kd.R_drew)); exact HO_7.out))) (below_size (by repeat (first | (with_reducible first | exact HB.out | apply below_alloc | apply pw_below_drewN | apply below_drew1) | exact HB.out)))); have n4_ := Aside0.mk (below_step (by repeat (first | (with_reducible first | exact HB.out | apply below_alloc | apply pw_below_drewN | apply below_drew1) | exact HB.out)) hb); clear HO_4; clear HO_7; clear HO129; clear HB; have HO_4 := n0_; have HO_7 := n1_; have HO129 := n2_; have HO133 := n3_; have HB := n4_; clear n0_ n1_ n2_ n3_ n4_; (try clear hb); (try clear hb2); (try clear hk); (try clear hi); (try clear ho0)))
                      (try simp only [Act.put, List.setIfInBounds_toArray, List.set_cons_zero, List.set_cons_succ])
                      go_cut [87] (fun v87 wc => ∃ (kq : Nat) (x87_46 : Bool), v87 = .bool x87_46 ∧ Aside0 (laws_FnExactUnreached.j2 kq t125 t124 x87_46 = some r) ∧ Aside0 (kq ≤ kj25) ∧ Aside0 (Kd.R (Kd.int .i64) 2 wc w.heap.size (fun _ => True) (.slice Ao48 t112.length co48) t125) ∧ Aside0 (Below w.heap.size w wc))
                      case first =>
                        have H := HC47.out
                        clear HC47
                        replace H := Option.bind_eq_some_iff.mp H
                        obtain ⟨t134, A530, H⟩ := H
                        replace H : (if t134 = true then (laws_FnExactUnreached.j2 kj25 t125 t124 (t131 != t106)) else (laws_FnExactUnreached.j2 kj25 t125 t124 true)) = some r := H
                        have A53 := Aside0.mk A530
                        clear A530
                        by_cases c54 : t134 = true
                        · subst c54
                          have H1 : (laws_FnExactUnreached.j2 kj25 t125 t124 (t131 != t106)) = some r := by rw [if_pos rfl] at H; exact H
                          clear H
                          have H := H1
                          clear H1
                          have H' := Aside0.mk H
                          clear H
                          obtain ⟨Ao55, co55, eo55⟩ := Kd.R_slice HO133.out
                          subst eo55
                          obtain ⟨Ao56, co56, eo56⟩ := Kd.R_slice HO_4.out
                          subst eo56
                          go_wp2_with (first | ((with_reducible refine gate_callee (f := 36) rfl ?_); refine goesL_ (some 81) rfl rfl Try.func36 (by kernel_rfl) rfl #[.slice Ao55 t130.length co55, .slice Ao56 t105.length co56] rfl (by (try simp only [List.map_toArray, List.map_cons, List.map_nil]); first | done | rfl | (simp only [List.length_drop, List.length_take]; rfl)) ?_; (with_reducible refine (laws_eqInt64S.calls kj25 _ _ t130 _ _ t105 true _ ?side1 ?side2 ?side3 ?side4 A53.out).mono ?_); (case side1 => repeat (first | exact (Kd.R_reads' HO133.out).2.2 | (with_reducible refine Kd.C_alloc ?_ _) | (with_reducible refine Kd.C_drewN ?_ _) | (with_reducible refine Kd.C_drew ?_))); (case side2 => exact (Kd.R_reads' HO133.out).2.1); (case side3 => repeat (first | exact (Kd.R_reads' HO_4.out).2.2 | (with_reducible refine Kd.C_alloc ?_ _) | (with_reducible refine Kd.C_drewN ?_ _) | (with_reducible refine Kd.C_drew ?_))); (case side4 => exact (Kd.R_reads' HO_4.out).2.1); rintro e w' ⟨rfl, ⟨nd, rfl⟩⟩; refine ⟨_, rfl, ?_⟩))
                          go_meet
                          case rel => exact ⟨_, ((t131 != t106)), (by first | rfl | (simp only [IntKind.wrap_i64, wrap64]; done) | (simp; done) | (simp [*]; done)), H', ⟨by have := HJ7.out; have := HJ25.out; first | omega | exact Nat.le_refl _⟩, ⟨by (with_reducible repeat (first | apply Kd.R_alloc | apply Kd.R_drewN | apply Kd.R_drew)); exact Kd.R_mono HO_7.out (fun _ hk => trivial)⟩, ⟨by repeat (first | (with_reducible first | exact HB.out | apply below_alloc | apply pw_below_drewN | apply below_drew1) | exact HB.out)⟩⟩
                        · replace c54 := Bool.eq_false_iff.mpr c54
                          subst c54
                          have H1 : (laws_FnExactUnreached.j2 kj25 t125 t124 true) = some r := by rw [if_neg (show ¬ (false = true) by decide)] at H; exact H
                          clear H
                          have H := H1
                          clear H1
                          have H' := Aside0.mk H
                          clear H
                          obtain ⟨Ao57, co57, eo57⟩ := Kd.R_slice HO133.out
                          subst eo57
                          obtain ⟨Ao58, co58, eo58⟩ := Kd.R_slice HO_4.out
                          subst eo58
                          go_wp2_with (first | ((with_reducible refine gate_callee (f := 36) rfl ?_); refine goesL_ (some 81) rfl rfl Try.func36 (by kernel_rfl) rfl #[.slice Ao57 t130.length co57, .slice Ao58 t105.length co58] rfl (by (try simp only [List.map_toArray, List.map_cons, List.map_nil]); first | done | rfl | (simp only [List.length_drop, List.length_take]; rfl)) ?_; (with_reducible refine (laws_eqInt64S.calls kj25 _ _ t130 _ _ t105 false _ ?side1 ?side2 ?side3 ?side4 A53.out).mono ?_); (case side1 => repeat (first | exact (Kd.R_reads' HO133.out).2.2 | (with_reducible refine Kd.C_alloc ?_ _) | (with_reducible refine Kd.C_drewN ?_ _) | (with_reducible refine Kd.C_drew ?_))); (case side2 => exact (Kd.R_reads' HO133.out).2.1); (case side3 => repeat (first | exact (Kd.R_reads' HO_4.out).2.2 | (with_reducible refine Kd.C_alloc ?_ _) | (with_reducible refine Kd.C_drewN ?_ _) | (with_reducible refine Kd.C_drew ?_))); (case side4 => exact (Kd.R_reads' HO_4.out).2.1); rintro e w' ⟨rfl, ⟨nd, rfl⟩⟩; refine ⟨_, rfl, ?_⟩))
                          go_meet
                          case rel => exact ⟨_, (true), (by first | rfl | (simp only [IntKind.wrap_i64, wrap64]; done) | (simp; done) | (simp [*]; done)), H', ⟨by have := HJ7.out; have := HJ25.out; first | omega | exact Nat.le_refl _⟩, ⟨by (with_reducible repeat (first | apply Kd.R_alloc | apply Kd.R_drewN | apply Kd.R_drew)); exact Kd.R_mono HO_7.out (fun _ hk => trivial)⟩, ⟨by repeat (first | (with_reducible first | exact HB.out | apply below_alloc | apply pw_below_drewN | apply below_drew1) | exact HB.out)⟩⟩
                      case rest =>
                        clear HC47
                        try clear c1
                        try clear c2
                        try clear p2
                        try clear c3
                        try clear c3b0
                        try clear c4
                        try clear c5
                        try clear c8
                        try clear c16
                        try clear c18
                        try clear c20
                        try clear c21
                        try clear c24
                        try clear c31
                        try clear c31b0
                        try clear c32
                        try clear c33
                        try clear c34
                        try clear c35
                        try clear c36
                        try clear c37
                        try clear c38
                        try clear c41
                        try clear c41b0
                        try clear c44
                        try clear c44b0
                        try clear c44b1
                        try clear c54
                        try clear p2
                        obtain ⟨kq, x87_46, rfl, HA, HJ46, HO_7, HB⟩ := hcut
                        have hl7_46 := (Kd.R_reads' HO_7.out).1
                        rw [hl7_46] at HO_7
                        (try simp only [hl7_46])
                        cases kq with
                        | zero => exact absurd HA.out (by simp [laws_FnExactUnreached.j2])
                        | succ kj46 =>
                          have H := HA.out
                          clear HA
                          simp only [laws_FnExactUnreached.j2] at H
                          by_cases c59 : x87_46 = true
                          · subst c59
                            have H1 : (some false) = some r := by rw [if_pos rfl] at H; exact H
                            clear H
                            have H := H1
                            clear H1
                            obtain rfl := Option.some.inj H
                            go_wp2
                            go_ret
                            exact ⟨by first | rfl | (simp [errW_none, errW_some, IntKind.wrap_i64, wrap64]; done) | (simp [errW_none, errW_some] <;> rfl) | (simp [*, errW_none, errW_some] <;> rfl), by repeat (first | (with_reducible first | exact HB.out | apply below_alloc | apply pw_below_drewN | apply below_drew1) | exact HB.out)⟩
                          · replace c59 := Bool.eq_false_iff.mpr c59
                            subst c59
                            have H1 : ((laws_heldInt64S.f kj46 t125 1).bind fun t135 => (if t135 < 0 then (some false) else (if t135 = t124 then (some true) else (some false)))) = some r := by rw [if_neg (show ¬ (false = true) by decide)] at H; exact H
                            clear H
                            have H := H1
                            clear H1
                            replace H := Option.bind_eq_some_iff.mp H
                            obtain ⟨t135, A600, H⟩ := H
                            replace H : (if t135 < 0 then (some false) else (if t135 = t124 then (some true) else (some false))) = some r := H
                            have A60 := Aside0.mk A600
                            clear A600
                            by_cases c61 : t135 < 0
                            · rw [if_pos c61] at H
                              have c61b0 : decide (t135 < 0) = true := decide_eq_true c61
                              clear c61
                              obtain rfl := Option.some.inj H
                              go_wp2_with (first | ((with_reducible refine gate_callee (f := 38) rfl ?_); refine goesL_ (some 90) rfl rfl Try.func38 (by kernel_rfl) rfl #[.slice Ao48 t125.length co48, .int .i64 1] rfl (by (try simp only [List.map_toArray, List.map_cons, List.map_nil]); first | done | rfl | (simp only [List.length_drop, List.length_take]; rfl)) ?_; (with_reducible refine (laws_heldInt64S.calls kj46 _ _ t125 1 t135 _ ?side1 ?side2 A60.out).mono ?_); (case side1 => repeat (first | exact (Kd.R_reads' HO_7.out).2.2 | (with_reducible refine Kd.C_alloc ?_ _) | (with_reducible refine Kd.C_drewN ?_ _) | (with_reducible refine Kd.C_drew ?_))); (case side2 => exact (Kd.R_reads' HO_7.out).2.1); rintro e w' ⟨rfl, ⟨nd, rfl⟩⟩; refine ⟨_, rfl, ?_⟩))
                              go_ret
                              exact ⟨by first | rfl | (simp [errW_none, errW_some, IntKind.wrap_i64, wrap64]; done) | (simp [errW_none, errW_some] <;> rfl) | (simp [*, errW_none, errW_some] <;> rfl), by repeat (first | (with_reducible first | exact HB.out | apply below_alloc | apply pw_below_drewN | apply below_drew1) | exact HB.out)⟩
                            · rw [if_neg c61] at H
                              have c61b0 : decide (t135 < 0) = false := decide_eq_false c61
                              clear c61
                              by_cases c62 : t135 = t124
                              · rw [if_pos c62] at H
                                have c62b0 : (t135 == t124) = true := beq_iff_eq.mpr c62
                                have c62b1 : (t135 != t124) = false := bne_eq_false_iff_eq.mpr c62
                                clear c62
                                obtain rfl := Option.some.inj H
                                go_wp2_with (first | ((with_reducible refine gate_callee (f := 38) rfl ?_); refine goesL_ (some 90) rfl rfl Try.func38 (by kernel_rfl) rfl #[.slice Ao48 t125.length co48, .int .i64 1] rfl (by (try simp only [List.map_toArray, List.map_cons, List.map_nil]); first | done | rfl | (simp only [List.length_drop, List.length_take]; rfl)) ?_; (with_reducible refine (laws_heldInt64S.calls kj46 _ _ t125 1 t135 _ ?side1 ?side2 A60.out).mono ?_); (case side1 => repeat (first | exact (Kd.R_reads' HO_7.out).2.2 | (with_reducible refine Kd.C_alloc ?_ _) | (with_reducible refine Kd.C_drewN ?_ _) | (with_reducible refine Kd.C_drew ?_))); (case side2 => exact (Kd.R_reads' HO_7.out).2.1); rintro e w' ⟨rfl, ⟨nd, rfl⟩⟩; refine ⟨_, rfl, ?_⟩))
                                go_ret
                                exact ⟨by first | rfl | (simp [errW_none, errW_some, IntKind.wrap_i64, wrap64]; done) | (simp [errW_none, errW_some] <;> rfl) | (simp [*, errW_none, errW_some] <;> rfl), by repeat (first | (with_reducible first | exact HB.out | apply below_alloc | apply pw_below_drewN | apply below_drew1) | exact HB.out)⟩
                              · rw [if_neg c62] at H
                                have c62b0 : (t135 == t124) = false := beq_eq_false_iff_ne.mpr c62
                                have c62b1 : (t135 != t124) = true := bne_iff_ne.mpr c62
                                obtain rfl := Option.some.inj H
                                go_wp2_with (first | ((with_reducible refine gate_callee (f := 38) rfl ?_); refine goesL_ (some 90) rfl rfl Try.func38 (by kernel_rfl) rfl #[.slice Ao48 t125.length co48, .int .i64 1] rfl (by (try simp only [List.map_toArray, List.map_cons, List.map_nil]); first | done | rfl | (simp only [List.length_drop, List.length_take]; rfl)) ?_; (with_reducible refine (laws_heldInt64S.calls kj46 _ _ t125 1 t135 _ ?side1 ?side2 A60.out).mono ?_); (case side1 => repeat (first | exact (Kd.R_reads' HO_7.out).2.2 | (with_reducible refine Kd.C_alloc ?_ _) | (with_reducible refine Kd.C_drewN ?_ _) | (with_reducible refine Kd.C_drew ?_))); (case side2 => exact (Kd.R_reads' HO_7.out).2.1); rintro e w' ⟨rfl, ⟨nd, rfl⟩⟩; refine ⟨_, rfl, ?_⟩))
                                go_ret
                                exact ⟨by first | rfl | (simp [errW_none, errW_some, IntKind.wrap_i64, wrap64]; done) | (simp [errW_none, errW_some] <;> rfl) | (simp [*, errW_none, errW_some] <;> rfl), by repeat (first | (with_reducible first | exact HB.out | apply below_alloc | apply pw_below_drewN | apply below_drew1) | exact HB.out)⟩
                    · rw [if_neg c44] at H
                      have c44b0 : (t126 == t124) = false := beq_eq_false_iff_ne.mpr c44
                      have c44b1 : (t126 != t124) = true := bne_iff_ne.mpr c44
                      obtain rfl := Option.some.inj H
                      obtain ⟨Ao63, co63, eo63⟩ := Kd.R_slice HO_7.out
                      subst eo63
                      go_wp2_with (first | ((with_reducible refine gate_callee (f := 37) rfl ?_); refine goesL_ (some 64) rfl rfl Try.func37 (by kernel_rfl) rfl #[.slice Ao63 t112.length co63, .int .i64 1] rfl (by (try simp only [List.map_toArray, List.map_cons, List.map_nil]); first | done | rfl | (simp only [List.length_drop, List.length_take]; rfl)) ?_; (with_reducible refine (laws_markInt64S.calls kj25 (fun k_ => some k_ = (.slice Ao63 t112.length co63 : Value).ownBlock) (.slice Ao63 t112.length co63) t112 1 t124 t125 w _ ?side1 ?side2 A39.out).mono ?_); (case side1 => repeat (first | (with_reducible first | exact HB.out | apply below_alloc | apply pw_below_drewN | apply below_drew1) | exact HB.out)); (case side2 => exact Kd.R_tight rfl HO_7.out); rintro e w64 ⟨rfl, hy0, hb, hkp⟩; refine ⟨_, rfl, ?_⟩; have n0_ := Aside0.mk (Kd.R_mono (ok' := fun k_ => some k_ ≠ (.slice Ao63 t112.length co63 : Value).ownBlock) (Kd.R_keptB (HO_4.out) hkp (fun k_ hk_ hs_ => (hk_) hs_)) (fun k_ hk_ => hk_.1)); have n1_ := Aside0.mk (Kd.R_reok rfl hy0 (fun k_ e_ => HO_7.out.1 k_ e_)); have n2_ := Aside0.mk (hb); clear HO_4; clear HO_7; clear HB; have HO_4 := n0_; have HO_7 := n1_; have HB := n2_; clear n0_ n1_ n2_; (try clear hb); (try clear hkp); (try clear hy0)) | ((with_reducible refine gate_callee (f := 38) rfl ?_); refine goesL_ (some 67) rfl rfl Try.func38 (by kernel_rfl) rfl #[.slice Ao63 t125.length co63, .int .i64 1] rfl (by (try simp only [List.map_toArray, List.map_cons, List.map_nil]); first | done | (rw [show t125.length = t112.length from (Kd.R_reads' HO_7.out).1.symm] <;> rfl) | rfl | (simp only [List.length_drop, List.length_take]; rfl)) ?_; (with_reducible refine (laws_heldInt64S.calls kj25 _ _ t125 1 t126 _ ?side1 ?side2 A40.out).mono ?_); (case side1 => repeat (first | exact (Kd.R_reads' HO_7.out).2.2 | (with_reducible refine Kd.C_alloc ?_ _) | (with_reducible refine Kd.C_drewN ?_ _) | (with_reducible refine Kd.C_drew ?_))); (case side2 => rw [show t125.length = t112.length from (Kd.R_reads' HO_7.out).1.symm]; exact (Kd.R_reads' HO_7.out).2.1); rintro e w' ⟨rfl, ⟨nd, rfl⟩⟩; refine ⟨_, rfl, ?_⟩))
                      go_ret
                      exact ⟨by first | rfl | (simp [errW_none, errW_some, IntKind.wrap_i64, wrap64]; done) | (simp [errW_none, errW_some] <;> rfl) | (simp [*, errW_none, errW_some] <;> rfl), by repeat (first | (with_reducible first | exact HB.out | apply below_alloc | apply pw_below_drewN | apply below_drew1) | exact HB.out)⟩
          · replace c24 := Bool.eq_false_iff.mpr c24
            subst c24
            have H1 : (some false) = some r := by rw [if_neg (show ¬ (false = true) by decide)] at H; exact H
            clear H
            have H := H1
            clear H1
            obtain rfl := Option.some.inj H
            go_wp2_with (first | ((with_reducible refine gate_callee (f := 18) rfl ?_); refine goesL_ (some 43) rfl rfl Try.func18 (by kernel_rfl) rfl #[.slice A0 l0.length c0] rfl (by (try simp only [List.map_toArray, List.map_cons, List.map_nil]); first | done | rfl | (simp only [List.length_drop, List.length_take]; rfl)) ?_; (with_reducible refine (laws_toShipS.calls kj7 _ _ l0 t117 _ ?side1 ?side2 A22.out).mono ?_); (case side1 => repeat (first | exact (Kd.C_below HR0.out HB.out) | (with_reducible refine Kd.C_alloc ?_ _) | (with_reducible refine Kd.C_drewN ?_ _) | (with_reducible refine Kd.C_drew ?_))); (case side2 => exact HC0.out); rintro e w65 ⟨v118, rfl, ho0, hb⟩; refine ⟨_, rfl, ?_⟩; have n0_ := Aside0.mk (Kd.R_below (by (with_reducible repeat (first | apply Kd.R_alloc | apply Kd.R_drewN | apply Kd.R_drew)); exact HO_4.out) hb); have n1_ := Aside0.mk (Kd.R_elder' (by (with_reducible repeat (first | apply Kd.R_alloc | apply Kd.R_drewN | apply Kd.R_drew)); exact HO_6.out) (Kd.R_base ho0) hb); have n2_ := Aside0.mk (Kd.R_below (by (with_reducible repeat (first | apply Kd.R_alloc | apply Kd.R_drewN | apply Kd.R_drew)); exact HO_7.out) hb); have n3_ := Aside0.mk (Kd.R_lower (Kd.R_new' ho0 (Kd.R_lt (by (with_reducible repeat (first | apply Kd.R_alloc | apply Kd.R_drewN | apply Kd.R_drew)); exact HO_6.out))) (below_size (by repeat (first | (with_reducible first | exact HB.out | apply below_alloc | apply pw_below_drewN | apply below_drew1) | exact HB.out)))); have n4_ := Aside0.mk (below_step (by repeat (first | (with_reducible first | exact HB.out | apply below_alloc | apply pw_below_drewN | apply below_drew1) | exact HB.out)) hb); clear HO_4; clear HO_6; clear HO_7; clear HB; have HO_4 := n0_; have HO_6 := n1_; have HO_7 := n2_; have HO119 := n3_; have HB := n4_; clear n0_ n1_ n2_ n3_ n4_; (try clear hb); (try clear hb2); (try clear hk); (try clear hi); (try clear ho0); obtain ⟨Ao66, co66, eo66⟩ := Kd.R_slice HO119.out; subst eo66) | ((with_reducible refine gate_callee (f := 20) rfl ?_); refine goesL_ (some 44) rfl rfl Try.func20 (by kernel_rfl) rfl #[.slice Ao13 t109.length co13, .slice Ao66 t117.length co66] rfl (by (try simp only [List.map_toArray, List.map_cons, List.map_nil]); first | done | rfl | (simp only [List.length_drop, List.length_take]; rfl)) ?_; (with_reducible refine (laws_eqShipS.calls kj7 _ _ t109 _ _ t117 false _ ?side1 ?side2 ?side3 ?side4 A23.out).mono ?_); (case side1 => repeat (first | exact (Kd.R_reads' HO_6.out).2.2 | (with_reducible refine Kd.C_alloc ?_ _) | (with_reducible refine Kd.C_drewN ?_ _) | (with_reducible refine Kd.C_drew ?_))); (case side2 => exact (Kd.R_reads' HO_6.out).2.1); (case side3 => repeat (first | exact (Kd.R_reads' HO119.out).2.2 | (with_reducible refine Kd.C_alloc ?_ _) | (with_reducible refine Kd.C_drewN ?_ _) | (with_reducible refine Kd.C_drew ?_))); (case side4 => exact (Kd.R_reads' HO119.out).2.1); rintro e w67 ⟨rfl, hb⟩; refine ⟨_, rfl, ?_⟩; have n0_ := Aside0.mk (Kd.R_below (by (with_reducible repeat (first | apply Kd.R_alloc | apply Kd.R_drewN | apply Kd.R_drew)); exact HO_4.out) hb); have n1_ := Aside0.mk (Kd.R_below (by (with_reducible repeat (first | apply Kd.R_alloc | apply Kd.R_drewN | apply Kd.R_drew)); exact HO_6.out) hb); have n2_ := Aside0.mk (Kd.R_below (by (with_reducible repeat (first | apply Kd.R_alloc | apply Kd.R_drewN | apply Kd.R_drew)); exact HO_7.out) hb); have n3_ := Aside0.mk (Kd.R_below (by (with_reducible repeat (first | apply Kd.R_alloc | apply Kd.R_drewN | apply Kd.R_drew)); exact HO119.out) hb); have n4_ := Aside0.mk (below_step (by repeat (first | (with_reducible first | exact HB.out | apply below_alloc | apply pw_below_drewN | apply below_drew1) | exact HB.out)) hb); clear HO_4; clear HO_6; clear HO_7; clear HO119; clear HB; have HO_4 := n0_; have HO_6 := n1_; have HO_7 := n2_; have HO119 := n3_; have HB := n4_; clear n0_ n1_ n2_ n3_ n4_; (try clear hb); (try clear hb2); (try clear hk); (try clear hi)))
            go_ret
            exact ⟨by first | rfl | (simp [errW_none, errW_some, IntKind.wrap_i64, wrap64]; done) | (simp [errW_none, errW_some] <;> rfl) | (simp [*, errW_none, errW_some] <;> rfl), by repeat (first | (with_reducible first | exact HB.out | apply below_alloc | apply pw_below_drewN | apply below_drew1) | exact HB.out)⟩

end Go.Proofs.Ytclmedjighnkjaa.G
end

section
namespace Go.Proofs.Ytclmedjighnkjaa.G
open Go.RowKit Go.Proofs.YtclmedjighnkjaaW.PrintWords Go.Proofs.YtclmedjighnkjaaW.PrintLast Go.Proofs.YtclmedjighnkjaaW.PrintMore
attribute [local go_sem] max2_int min2_int max_two min_two max_three min_three max_four min_four
set_option linter.unusedVariables false
set_option linter.unusedSimpArgs false

/-! Values that are read as data are values of a kind. -/
open Go.ChangeShapes Go.WideShapes Go.Deep in
/-- A value of type t that reads as data is a value of kind d, and keeps to Wf. -/
structure Opens {α : Type} (P : Program) (t : TypeId) (d : Kd α) (Wf : α → Prop) : Prop where
  sz : P.cellsOf t = d.sz
  op : ∀ {H : Type} {enc : TypeId × Value → H} {w : World} {base : Nat} {spare : Nat → Bool} {held : Bool} {fuel : Nat} {cs : List Value} {x : DataW H × List MemPlace}, DataW.trod enc P w base spare held fuel t cs = some x → ∃ a : α, d.K w a cs ∧ Wf a
theorem opens_int {P : Program} {t : TypeId} {k : IntKind} (ht : P.underlying t = some (.int k)) (hC : P.cellsOf t = 1) : Opens P t (Kd.int k) (fun n => (Lit.int k n).wf = true) where
  sz := hC
  op := fun h => by
    obtain ⟨n, rfl, _, hw⟩ := DataW.trod_int ht h
    exact ⟨n, rfl, hw⟩
theorem opens_bool {P : Program} {t : TypeId} (ht : P.underlying t = some .bool) (hC : P.cellsOf t = 1) : Opens P t Kd.bool (fun _ => True) where
  sz := hC
  op := fun h => by
    obtain ⟨n, rfl, _⟩ := DataW.trod_bool ht h
    exact ⟨n, rfl, trivial⟩
theorem opens_string {P : Program} {t : TypeId} (ht : P.underlying t = some .string) (hC : P.cellsOf t = 1) : Opens P t Kd.string (fun s => s.size ≤ maxLen) where
  sz := hC
  op := fun h => by
    obtain ⟨n, rfl, _, hw⟩ := DataW.trod_string ht h
    exact ⟨n, rfl, hw⟩
theorem list_of {α : Type} {Q : Nat → α → Prop} : ∀ n, (∀ i, i < n → ∃ y, Q i y) → ∃ l : List α, l.length = n ∧ ∀ i y, l[i]? = some y → Q i y
  | 0, _ => ⟨[], rfl, fun i y h => by simp at h⟩
  | n + 1, h => by
    obtain ⟨l, hl, hq⟩ := list_of n (fun i hi => h i (by omega))
    obtain ⟨y, hy⟩ := h n (by omega)
    refine ⟨l ++ [y], by simp [hl], fun i z hz => ?_⟩
    rcases Nat.lt_or_ge i l.length with hi | hi
    · rw [List.getElem?_append_left hi] at hz
      exact hq i z hz
    · rw [List.getElem?_append_right hi] at hz
      have : i - l.length = 0 := by
        rcases Nat.eq_zero_or_pos (i - l.length) with h0 | h0
        · exact h0
        · rw [List.getElem?_eq_none (by simp; omega)] at hz
          cases hz
      rw [this] at hz
      have e : y = z := by simpa using hz
      subst e
      have : i = n := by omega
      subst this
      exact hy
theorem opens_slice {α : Type} {P : Program} {t e : TypeId} {d : Kd α} {Wf : α → Prop} (ht : P.underlying t = some (.slice e)) (hC : P.cellsOf t = 1) (he : Opens P e d Wf) : Opens P t (Kd.slice e d) (fun l => ∀ x ∈ l, Wf x) where
  sz := hC
  op := fun {H enc w base spare held fuel cs x} h => by
    rcases Go.Deep.open_slice ht h with ⟨rfl, _⟩ | ⟨a, len, cap, m, n, D, Pl, rfl, hb, hl, hm, hmm, _, hi⟩
    · exact ⟨[], ⟨none, 0, rfl, Nat.le_refl _, rfl, by simp, fun h => absurd h (by simp)⟩, by simp⟩
    · have hlen : len ≤ m := by rw [hmm]; split <;> omega
      obtain ⟨l, hll, hq⟩ := list_of (Q := fun i y => (∃ c, c.length = d.sz ∧ d.K w y c ∧ ∀ j u, c[j]? = some u → w.cell? (a.add (i * d.sz + j)) = some u) ∧ Wf y) len (fun i him => by
        obtain ⟨cs', hc, ht'⟩ := hi i (by omega)
        obtain ⟨y, hK, hW⟩ := he.op ht'
        obtain ⟨_, hcl, hat⟩ := World.cells?_some hc
        refine ⟨y, ⟨cs', d.K_len hK, hK, fun j u hu => ?_⟩, hW⟩
        have hj : j < cs'.length := (List.getElem?_eq_some_iff.1 hu).1
        have h1 := hat j (by rw [he.sz, ← d.K_len hK]; exact hj)
        rw [← he.sz, ← Go.Deep.add_add, h1, hu])
      refine ⟨l, ⟨some a, cap, by rw [hll], by rw [hll]; exact hl, rfl, by rw [hll]; have := hm; unfold maxLen at this; omega, fun _ => ⟨a, rfl, fun j p hj => (hq j p hj).1⟩⟩, fun y hy => ?_⟩
      obtain ⟨j, hj, rfl⟩ := List.mem_iff_getElem.1 hy
      exact (hq j _ (List.getElem?_eq_getElem hj)).2
/-- Where field i begins, counted in cells. -/
def offs (P : Program) : List TypeId → Nat → Nat
  | [], _ => 0
  | _ :: _, 0 => 0
  | t :: ts, i + 1 => P.cellsOf t + offs P ts i
/-- Fields one behind the other. -/
def OpensF {α : Type} (P : Program) (ts : List TypeId) (d : Kd α) (Wf : α → Prop) : Prop :=
  ∀ {H : Type} {enc : TypeId × Value → H} {w : World} {base : Nat} {spare : Nat → Bool} {held : Bool} {n : Nat} {cs : List Value}, cs.length = d.sz → (∀ i t, ts[i]? = some t → ∃ x, DataW.trod enc P w base spare held n t ((cs.drop (offs P ts i)).take (P.cellsOf t)) = some x) → ∃ a : α, d.K w a cs ∧ Wf a
theorem opensF_one {α : Type} {P : Program} {t : TypeId} {d : Kd α} {Wf : α → Prop} (h : Opens P t d Wf) : OpensF P [t] d Wf := fun {H enc w base spare held n cs} hl hf => by
  obtain ⟨x, hx⟩ := hf 0 t rfl
  simp only [offs, List.drop_zero] at hx
  rw [List.take_of_length_le (by rw [hl, h.sz]; exact Nat.le_refl _)] at hx
  exact h.op hx
theorem opensF_cons {α β : Type} {P : Program} {t : TypeId} {ts : List TypeId} {d : Kd α} {d' : Kd β} {Wf : α → Prop} {Wf' : β → Prop} (h : Opens P t d Wf) (h' : OpensF P ts d' Wf') : OpensF P (t :: ts) (Kd.pair d d') (fun x => Wf x.1 ∧ Wf' x.2) := fun {H enc w base spare held n cs} hl hf => by
  have hl' : cs.length = d.sz + d'.sz := hl
  obtain ⟨x, hx⟩ := hf 0 t rfl
  simp only [offs, List.drop_zero] at hx
  obtain ⟨a, hK, hW⟩ := h.op hx
  obtain ⟨b, hK', hW'⟩ := h' (enc := enc) (w := w) (base := base) (spare := spare) (held := held) (n := n) (cs := cs.drop d.sz) (by rw [List.length_drop, hl']; omega) (fun i t' ht' => by
    obtain ⟨y, hy⟩ := hf (i + 1) t' (by simpa using ht')
    refine ⟨y, ?_⟩
    rw [List.drop_drop]
    simpa only [offs, h.sz] using hy)
  refine ⟨(a, b), ⟨_, _, (List.take_append_drop d.sz cs).symm, ?_, hK'⟩, hW, hW'⟩
  rw [← h.sz]
  exact hK
theorem opens_struct {α β : Type} {P : Program} {t : TypeId} {fs : Array Field} {d : Kd α} {Wf : α → Prop} (f : β → α) (g : α → β) (hfg : ∀ a, f (g a) = a) (ht : P.underlying t = some (.struct fs)) (hC : P.cellsOf t = d.sz)
    (ho : ((List.range fs.size).all fun i => decide ((fs[i]?.map Field.offset) = some (offs P (fs.toList.map Field.type) i))) = true) (h : OpensF P (fs.toList.map Field.type) d Wf) : Opens P t (Kd.iso d f) (fun x => Wf (f x)) where
  sz := hC
  op := fun {H enc w base spare held fuel cs x} hx => by
    obtain ⟨xs, n, _, _, hlen, hxl, hf⟩ := DataW.trod_struct ht hx
    obtain ⟨a, hK, hW⟩ := h (enc := enc) (w := w) (base := base) (spare := spare) (held := held) (n := n) (cs := cs) (by rw [hlen, hC]) (fun i t' ht' => by
      have hi : i < fs.size := by
        have := (List.getElem?_eq_some_iff.1 ht').1
        simpa using this
      have e : fs[i]? = some fs[i] := Array.getElem?_eq_getElem hi
      have et : fs[i].type = t' := by
        rw [List.getElem?_map] at ht'
        have : fs.toList[i]? = some fs[i] := by simp [hi]
        rw [this] at ht'
        simpa using ht'
      have eo := of_decide_eq_true (List.all_eq_true.1 ho i (List.mem_range.2 hi))
      rw [e] at eo
      have eo' : fs[i].offset = offs P (fs.toList.map Field.type) i := by simpa using eo
      have h1 := hf i fs[i] e
      rw [et, eo'] at h1
      exact ⟨_, h1.trans (List.getElem?_eq_getElem (show i < xs.length by omega))⟩)
    exact ⟨g a, by show d.K w (f (g a)) cs; rw [hfg]; exact hK, by show Wf (f (g a)); rw [hfg]; exact hW⟩

theorem op58 : Opens Try.prog 58 (Kd.int .i8) (fun x : Int => (Lit.int .i8 x).wf = true) := opens_int (k := .i8) Try.underlying58 (by kernel_rfl)
theorem op62 : Opens Try.prog 62 k62 (fun x : S62 => (Lit.int .i8 x.f0).wf = true ∧ (Lit.int .i8 x.f1).wf = true ∧ (Lit.int .i8 x.f2).wf = true) := opens_struct (fun x : S62 => (x.f0, x.f1, x.f2)) (fun a => ⟨a.1, a.2.1, a.2.2⟩) (fun _ => rfl) Try.underlying62 (by kernel_rfl) (by kernel_rfl) (opensF_cons op58 (opensF_cons op58 (opensF_one op58)))
theorem op22 : Opens Try.prog 22 (Kd.slice 62 k62) (fun x : List (S62) => (∀ x_ ∈ x, (Lit.int .i8 x_.f0).wf = true ∧ (Lit.int .i8 x_.f1).wf = true ∧ (Lit.int .i8 x_.f2).wf = true)) := opens_slice Try.underlying22 (by kernel_rfl) op62
theorem op2 : Opens Try.prog 2 (Kd.int .i64) (fun x : Int => (Lit.int .i64 x).wf = true) := opens_int (k := .i64) Try.underlying2 (by kernel_rfl)
theorem op71 : Opens Try.prog 71 k71 (fun x : S71 => (Lit.int .i8 x.f0).wf = true ∧ (Lit.int .i64 x.f1).wf = true ∧ (Lit.int .i64 x.f2).wf = true ∧ (Lit.int .i64 x.f3).wf = true) := opens_struct (fun x : S71 => (x.f0, x.f1, x.f2, x.f3)) (fun a => ⟨a.1, a.2.1, a.2.2.1, a.2.2.2⟩) (fun _ => rfl) Try.underlying71 (by kernel_rfl) (by kernel_rfl) (opensF_cons op58 (opensF_cons op2 (opensF_cons op2 (opensF_one op2))))
theorem op29 : Opens Try.prog 29 (Kd.slice 71 k71) (fun x : List (S71) => (∀ x_ ∈ x, (Lit.int .i8 x_.f0).wf = true ∧ (Lit.int .i64 x_.f1).wf = true ∧ (Lit.int .i64 x_.f2).wf = true ∧ (Lit.int .i64 x_.f3).wf = true)) := opens_slice Try.underlying29 (by kernel_rfl) op71
end Go.Proofs.Ytclmedjighnkjaa.G
end

section
namespace Go.Proofs.Ytclmedjighnkjaa.G.Pure
open Go.RowKit Go.Proofs.Ytclmedjighnkjaa.G Go.Proofs.YtclmedjighnkjaaW.PrintWords Go.Proofs.YtclmedjighnkjaaW.PrintLast Go.Proofs.YtclmedjighnkjaaW.PrintMore
set_option linter.unusedVariables false
set_option linter.unusedSimpArgs false
/-! Plain lemmas on numbers, lists and loops with rounds. -/
theorem w64 {n : Int} (h0 : -9223372036854775808 ≤ n) (h1 : n ≤ 9223372036854775807) : wrap64 n = n := by
  unfold wrap64
  omega
theorem i8b {n : Int} (h : (Lit.int .i8 n).wf = true) : -128 ≤ n ∧ n ≤ 127 := by
  simp [Lit.wf, IntKind.min, IntKind.max, IntKind.signed, IntKind.bits] at h
  omega
theorem i64b {n : Int} (h : (Lit.int .i64 n).wf = true) : -9223372036854775808 ≤ n ∧ n ≤ 9223372036854775807 := by
  simp [Lit.wf, IntKind.min, IntKind.max, IntKind.signed, IntKind.bits] at h
  omega
theorem i8w {n : Int} (h0 : -128 ≤ n) (h1 : n ≤ 127) : IntKind.i8.wrap n = n := by
  simp only [IntKind.wrap, IntKind.signed, IntKind.bits]
  simp
  omega
/-- A loop with an invariant: what it comes to. -/
theorem loop_inv {σ γ : Type} (L : Nat → σ → Option γ) (n : Nat) (I : Nat → σ → Prop) (R : γ → Prop)
    (hs : ∀ k i s, i < n → I i s → (∃ s', I (i + 1) s' ∧ L (k + 1) s = L k s') ∨ (∃ r, R r ∧ L (k + 1) s = some r))
    (he : ∀ k s, I n s → ∃ r, R r ∧ L (k + 1) s = some r) : ∀ k s, I 0 s → n < k → ∃ r, R r ∧ L k s = some r := by
  have go : ∀ d i k s, i + d = n → I i s → d < k → ∃ r, R r ∧ L k s = some r := by
    intro d
    induction d with
    | zero =>
      intro i k s hi hI hk
      obtain ⟨k, rfl⟩ : ∃ m, k = m + 1 := ⟨k - 1, by omega⟩
      obtain rfl : i = n := by omega
      exact he k s hI
    | succ d ih =>
      intro i k s hi hI hk
      obtain ⟨k, rfl⟩ : ∃ m, k = m + 1 := ⟨k - 1, by omega⟩
      rcases hs k i s (by omega) hI with ⟨s', hI', h⟩ | h
      · rw [h]
        exact ih (i + 1) k s' (by omega) hI' (by omega)
      · exact h
  intro k s hI hk
  exact go n 0 k s (by omega) hI hk
theorem bind_if {α β : Type} {c : Prop} [Decidable c] {a b : Option α} {f : α → Option β} : (if c then a else b).bind f = if c then a.bind f else b.bind f := by
  split <;> rfl
theorem take_set_succ {α : Type} {l : List α} {i : Nat} (h : i < l.length) (v : α) : (l.set i v).take (i + 1) = l.take i ++ [v] := by
  rw [List.take_succ_eq_append_getElem (by simpa using h)]
  simp [List.take_set_of_le]
theorem rd_nat {l : List Int} {i : Nat} (h : i < l.length) : rd l (i : Int) = l[i] := by
  simp [rd, List.getD_eq_getElem?_getD, List.getElem?_eq_getElem h]

end Go.Proofs.Ytclmedjighnkjaa.G.Pure
end

section
namespace Go.Proofs.Ytclmedjighnkjaa.G.Pure
open Go.RowKit Go.Proofs.Ytclmedjighnkjaa.G Go.Proofs.YtclmedjighnkjaaW.PrintWords Go.Proofs.YtclmedjighnkjaaW.PrintLast Go.Proofs.YtclmedjighnkjaaW.PrintMore
set_option linter.unusedVariables false
set_option linter.unusedSimpArgs false
/-! The laws' helpers over lists of numbers. -/
theorem eqInt64S_self (k : Nat) (a : List Int) (hl : a.length ≤ 1048576) (hk : a.length < k) : laws_eqInt64S.f k a a = some true := by
  unfold laws_eqInt64S.f
  rw [if_pos rfl]
  obtain ⟨r, hr, h⟩ := loop_inv (fun k (s : Int) => laws_eqInt64S.l0 k a a s) a.length (fun i s => s = (i : Int)) (fun r => r = true)
    (fun k i s hi h1 => by
      subst h1
      refine .inl ⟨((i + 1 : Nat) : Int), rfl, ?_⟩
      simp only [laws_eqInt64S.l0]
      rw [if_pos (by omega), if_pos (by omega), if_pos (by omega), if_pos trivial, w64 (by omega) (by omega)]
      rfl)
    (fun k s h1 => by
      subst h1
      refine ⟨true, rfl, ?_⟩
      simp only [laws_eqInt64S.l0]
      rw [if_neg (by omega)]) k 0 rfl hk
  subst hr
  exact h
/-- A result that is written over reads as it was written. -/
theorem markInt64S_held (k : Nat) (a : List Int) (hl : a.length ≤ 1048576) (hk : a.length < k) : ∃ l m, laws_markInt64S.f k a 1 = some (m, l) ∧ (∀ k', a.length < k' → laws_heldInt64S.f k' l 1 = some m) ∧ 0 ≤ m := by
  obtain ⟨r, ⟨h1, h2, h3⟩, h⟩ := loop_inv (fun k (s : List Int × Int × Int) => laws_markInt64S.l0 k s.1 s.2.1 s.2.2) a.length
    (fun i s => s.2.2 = (i : Int) ∧ s.2.1 = 1 + (i : Int) ∧ s.1.length = a.length ∧ ∀ j (h : j < s.1.length), j < i → s.1[j] = 1 + (j : Int))
    (fun r => r.1 = 1 + (a.length : Int) ∧ r.2.length = a.length ∧ ∀ j (h : j < r.2.length), r.2[j] = 1 + (j : Int))
    (fun k i s hi ⟨h1, h2, h3, h4⟩ => by
      obtain ⟨acc, m, x⟩ := s
      simp only at h1 h2 h3 h4
      subst h1 h2
      refine .inl ⟨(acc.set i (1 + (i : Int)), 1 + ((i + 1 : Nat) : Int), ((i + 1 : Nat) : Int)), ⟨rfl, rfl, by simpa using h3, fun j hj hji => ?_⟩, ?_⟩
      · simp only [List.getElem_set]
        split
        · rename_i e; subst e; rfl
        · simp only [List.length_set] at hj
          exact h4 j hj (by omega)
      · simp only [laws_markInt64S.l0]
        rw [if_pos (by omega), if_pos (by omega), w64 (n := 1 + (i : Int) + 1) (by omega) (by omega), w64 (n := (i : Int) + 1) (by omega) (by omega), Int.toNat_natCast]
        rw [show 1 + (i : Int) + 1 = 1 + ((i + 1 : Nat) : Int) by omega]
        rfl)
    (fun k s ⟨h1, h2, h3, h4⟩ => by
      obtain ⟨acc, m, x⟩ := s
      simp only at h1 h2 h3 h4
      subst h1 h2
      refine ⟨(1 + (a.length : Int), acc), ⟨rfl, h3, fun j hj => h4 j hj (by rw [← h3]; exact hj)⟩, ?_⟩
      simp only [laws_markInt64S.l0]
      rw [if_neg (by omega)]) k (a, 1, 0) ⟨rfl, rfl, rfl, fun j _ h => absurd h (Nat.not_lt_zero _)⟩ hk
  obtain ⟨m, l⟩ := r
  simp only at h1 h2 h3
  refine ⟨l, m, h, fun k' hk' => ?_, by omega⟩
  obtain ⟨r, hr, h'⟩ := loop_inv (fun k (s : Int × Int) => laws_heldInt64S.l0 k l s.1 s.2) l.length (fun i s => s.2 = (i : Int) ∧ s.1 = 1 + (i : Int)) (fun r => r = m)
    (fun k i s hi ⟨g1, g2⟩ => by
      obtain ⟨m', x⟩ := s
      simp only at g1 g2
      subst g1 g2
      refine .inl ⟨(1 + ((i + 1 : Nat) : Int), ((i + 1 : Nat) : Int)), ⟨rfl, rfl⟩, ?_⟩
      simp only [laws_heldInt64S.l0]
      rw [if_pos (by omega), if_pos (by omega), rd_nat hi, h3 i hi, if_pos rfl, w64 (n := 1 + (i : Int) + 1) (by omega) (by omega), w64 (n := (i : Int) + 1) (by omega) (by omega)]
      rw [show 1 + (i : Int) + 1 = 1 + ((i + 1 : Nat) : Int) by omega]
      rfl)
    (fun k s ⟨g1, g2⟩ => by
      obtain ⟨m', x⟩ := s
      simp only at g1 g2
      subst g1 g2
      refine ⟨m, rfl, ?_⟩
      simp only [laws_heldInt64S.l0]
      rw [if_neg (by omega), h1, h2]) k' (1, 0) ⟨rfl, rfl⟩ (by omega)
  subst hr
  exact h'

end Go.Proofs.Ytclmedjighnkjaa.G.Pure
end

section
namespace Go.Proofs.Ytclmedjighnkjaa.G.Pure
open Go.RowKit Go.Proofs.Ytclmedjighnkjaa.G Go.Proofs.YtclmedjighnkjaaW.PrintWords Go.Proofs.YtclmedjighnkjaaW.PrintLast Go.Proofs.YtclmedjighnkjaaW.PrintMore
set_option linter.unusedVariables false
set_option linter.unusedSimpArgs false
/-! What the laws' own helpers come to over ships. -/
def shipOf (x : S62) : S60 := ⟨x.f0, x.f1, x.f2⟩
theorem szShipS_eq (l : List (S62)) (a : Int) (h0 : 0 ≤ a) (h1 : a ≤ 1048576) (hl : l.length ≤ 9223372036854775807) : laws_szShipS.f l a = some (if a - l.length < 0 then -1 else a - l.length) := by
  unfold laws_szShipS.f
  rw [w64 (by omega) (by omega)]
  split <;> rfl
theorem rd_laws_Ship {l : List (S62)} {i : Nat} (h : i < l.length) : rd_T62 l (i : Int) = l[i] := by
  simp [rd_T62, List.getD_eq_getElem?_getD, List.getElem?_eq_getElem h]
theorem rd_impl_Ship {l : List (S60)} {i : Nat} (h : i < l.length) : rd_T60 l (i : Int) = l[i] := by
  simp [rd_T60, List.getD_eq_getElem?_getD, List.getElem?_eq_getElem h]
theorem toShipS_eq (k : Nat) (l : List (S62)) (hl : l.length ≤ 1048576) (hk : l.length < k) : laws_toShipS.f k l = some (l.map shipOf) := by
  unfold laws_toShipS.f
  rw [if_pos (by omega), if_pos (by omega)]
  obtain ⟨r, hr, h⟩ := loop_inv (fun k (s : List (S60) × Int) => laws_toShipS.l0 k l s.1 s.2) l.length (fun i s => s.2 = (i : Int) ∧ s.1.length = l.length ∧ s.1.take i = (l.map shipOf).take i) (fun r => r = l.map shipOf)
    (fun k i s hi ⟨h1, h2, h3⟩ => by
      obtain ⟨acc, x⟩ := s
      simp only at h1 h2 h3
      subst h1
      refine .inl ⟨(acc.set i (shipOf l[i]), ((i + 1 : Nat) : Int)), ⟨rfl, by simpa using h2, ?_⟩, ?_⟩
      · rw [take_set_succ (by omega), h3, List.take_succ_eq_append_getElem (by simpa using hi)]
        simp
      · simp only [laws_toShipS.l0]
        rw [if_pos (by omega), if_pos (by omega), rd_laws_Ship hi]
        simp only [laws_toShip.f, Option.bind_some]
        rw [if_pos (by omega), w64 (by omega) (by omega)]
        rfl)
    (fun k s ⟨h1, h2, h3⟩ => by
      obtain ⟨acc, x⟩ := s
      simp only at h1 h2 h3
      subst h1
      refine ⟨acc, ?_, ?_⟩
      · rw [List.take_of_length_le (by omega), List.take_of_length_le (by simp)] at h3
        exact h3
      · simp only [laws_toShipS.l0]
        rw [if_neg (by omega)]) k (List.replicate l.length z60, 0) ⟨rfl, by simp, by simp⟩ hk
  subst hr
  simpa using h
theorem eqShip_self (a : S60) : laws_eqShip.f a.f0 a.f1 a.f2 a.f0 a.f1 a.f2 = some true := by
  simp [laws_eqShip.f]
theorem eqShipS_self (k : Nat) (a : List (S60)) (hl : a.length ≤ 1048576) (hk : a.length < k) : laws_eqShipS.f k a a = some true := by
  unfold laws_eqShipS.f
  rw [if_pos rfl]
  obtain ⟨r, hr, h⟩ := loop_inv (fun k (s : Int) => laws_eqShipS.l0 k a a s) a.length (fun i s => s = (i : Int)) (fun r => r = true)
    (fun k i s hi h1 => by
      subst h1
      refine .inl ⟨((i + 1 : Nat) : Int), rfl, ?_⟩
      simp only [laws_eqShipS.l0]
      rw [if_pos (by omega), if_pos (by omega), if_pos (by omega), eqShip_self]
      simp only [Option.bind_some, if_true]
      rw [w64 (by omega) (by omega)]
      rfl)
    (fun k s h1 => by
      subst h1
      refine ⟨true, rfl, ?_⟩
      simp only [laws_eqShipS.l0]
      rw [if_neg (by omega)]) k 0 rfl hk
  subst hr
  exact h
/-- Writing over what came in: the number behind it is positive. -/
theorem markShipS_pos (k : Nat) (a : List (S60)) (hl : a.length ≤ 1048576) (hk : a.length < k) : ∃ r, laws_markShipS.f k a 1 = some r ∧ 0 ≤ r.1 := by
  unfold laws_markShipS.f
  obtain ⟨r, hr, h⟩ := loop_inv (fun k (s : List (S60) × Int × Int) => laws_markShipS.l0 k s.1 s.2.1 s.2.2) a.length (fun i s => s.2.2 = (i : Int) ∧ s.2.1 = 1 + 3 * (i : Int) ∧ s.1.length = a.length) (fun r => 0 ≤ r.1)
    (fun k i s hi ⟨h1, h2, h3⟩ => by
      obtain ⟨acc, m, x⟩ := s
      simp only at h1 h2 h3
      subst h1 h2
      refine .inl ⟨(?acc, 1 + 3 * ((i + 1 : Nat) : Int), ((i + 1 : Nat) : Int)), ⟨rfl, rfl, ?len⟩, ?eq⟩
      case eq =>
        simp only [laws_markShipS.l0]
        rw [if_pos (by omega), if_pos (by omega)]
        simp only [Option.bind_some]
        rw [w64 (n := (i : Int) + 1) (by omega) (by omega), w64 (n := 1 + 3 * (i : Int) + 1) (by omega) (by omega), w64 (n := 1 + 3 * (i : Int) + 1 + 1) (by omega) (by omega), w64 (n := 1 + 3 * (i : Int) + 1 + 1 + 1) (by omega) (by omega)]
        rw [show 1 + 3 * (i : Int) + 1 + 1 + 1 = 1 + 3 * ((i + 1 : Nat) : Int) by omega]
        rfl
      case len => simp [h3])
    (fun k s ⟨h1, h2, h3⟩ => by
      obtain ⟨acc, m, x⟩ := s
      simp only at h1 h2 h3
      subst h1 h2
      refine ⟨(1 + 3 * (a.length : Int), acc), by show 0 ≤ 1 + 3 * (a.length : Int); omega, ?_⟩
      simp only [laws_markShipS.l0]
      rw [if_neg (by omega)]) k (a, 1, 0) ⟨rfl, rfl, rfl⟩ hk
  exact ⟨r, h, hr⟩

end Go.Proofs.Ytclmedjighnkjaa.G.Pure
end

section
namespace Go.Proofs.Ytclmedjighnkjaa.G.Pure
open Go.RowKit Go.Proofs.Ytclmedjighnkjaa.G Go.Proofs.YtclmedjighnkjaaW.PrintWords Go.Proofs.YtclmedjighnkjaaW.PrintLast Go.Proofs.YtclmedjighnkjaaW.PrintMore
set_option linter.unusedVariables false
set_option linter.unusedSimpArgs false
/-! What all laws over lines begin with. -/
theorem szShipS_big {l : List (S62)} (hl : l.length ≤ 9223372036854775807) (h : ¬ l.length ≤ 1048576) : laws_szShipS.f l 1048576 = some (-1) := by
  rw [szShipS_eq _ _ (by omega) (by omega) hl, if_pos (by omega)]
theorem szShipS_small {l : List (S62)} (h : l.length ≤ 1048576) : ∃ n, laws_szShipS.f l 1048576 = some n ∧ ¬ n < 0 ∧ n = 1048576 - (l.length : Int) := by
  refine ⟨1048576 - l.length, ?_, by omega, rfl⟩
  rw [szShipS_eq _ _ (by omega) (by omega) (by omega), if_neg (by omega)]

end Go.Proofs.Ytclmedjighnkjaa.G.Pure
end

section
namespace Go.Proofs.Ytclmedjighnkjaa.G.Pure
open Go.RowKit Go.Proofs.Ytclmedjighnkjaa.G Go.Proofs.YtclmedjighnkjaaW.PrintWords Go.Proofs.YtclmedjighnkjaaW.PrintLast Go.Proofs.YtclmedjighnkjaaW.PrintMore
set_option linter.unusedVariables false
set_option linter.unusedSimpArgs false
/-! The times of a line: what both programs come to. -/
abbrev Sp := S60
abbrev Tm := S69
/-- From whom a ship reads: the first one, of those that fly earliest, among the ships a, a + 1, .., a + n - 1. -/
def scan (pre : List Tm) (a : Nat) : Nat → Int × Int
  | 0 => (-1, -1)
  | n + 1 => match scan pre a n with
    | (f, s) => match pre[a + n]? with
      | some t => if 0 ≤ t.f3 ∧ (f < 0 ∨ t.f3 < s) then (((a + n : Nat) : Int), t.f3) else (f, s)
      | none => (f, s)
/-- The times of a ship with so many ships ahead. -/
def dueL (pre : List Tm) (x : Sp) (read : Int) : Tm :=
  if pre.length = 0 then ⟨-1, 0, 0, x.f2⟩ else
    match scan pre (pre.length - x.f0.toNat) (pre.length - (pre.length - x.f0.toNat)) with
    | (f, s) => if 0 ≤ f then ⟨f, s, s + read, s + read + x.f2⟩ else ⟨-1, -1, -1, -1⟩
def timesGo (ship more : Int) : List Sp → List Tm → List Tm
  | [], acc => acc
  | x :: xs, acc => timesGo ship more xs (acc ++ [dueL acc x (x.f1 + if (acc.length : Int) = ship then more else 0)])
def timesL (ship more : Int) (l : List Sp) : List Tm := timesGo ship more l []
/-- What is known of times. -/
structure TimesOK (ts : List Tm) : Prop where
  first : ∀ t, ts[0]? = some t → t.f0 = -1 ∧ t.f1 = 0 ∧ t.f2 = 0 ∧ 0 ≤ t.f3
  bound : ∀ (i : Nat) t, ts[i]? = some t → t.f3 ≤ 200 * ((i : Int) + 1) ∧ t.f2 ≤ t.f3 ∧ t.f1 ≤ t.f2
  later : ∀ (i : Nat) t, ts[i]? = some t → 0 < i → (t = ⟨-1, -1, -1, -1⟩) ∨ (0 ≤ t.f0 ∧ t.f0 < (i : Int) ∧ 0 ≤ t.f1 ∧ ∃ u, ts[t.f0.toNat]? = some u ∧ u.f3 = t.f1)
theorem TimesOK.nil : TimesOK [] := ⟨fun t h => by simp at h, fun i t h => by simp at h, fun i t h => by simp at h⟩
theorem scan_spec (pre : List Tm) (hok : TimesOK pre) (a n : Nat) (h : a + n ≤ pre.length) :
    (scan pre a n = (-1, -1) ∨ (0 ≤ (scan pre a n).1 ∧ (scan pre a n).1 < ((a + n : Nat) : Int) ∧ 0 ≤ (scan pre a n).2 ∧ (scan pre a n).2 ≤ 200 * ((a + n : Nat) : Int) ∧ ∃ u, pre[(scan pre a n).1.toNat]? = some u ∧ u.f3 = (scan pre a n).2)) := by
  induction n with
  | zero => exact .inl rfl
  | succ n ih =>
    have hi : a + n < pre.length := by omega
    have e : pre[a + n]? = some pre[a + n] := List.getElem?_eq_getElem hi
    have hb := hok.bound _ _ e
    obtain ih := ih (by omega)
    rcases hs : scan pre a n with ⟨f, s⟩
    rw [hs] at ih
    simp only [scan, hs, e]
    split
    · right
      exact ⟨by simp only; omega, by simp only; omega, by simp only; omega, by simp only; omega, pre[a + n], by show pre[((a + n : Nat) : Int).toNat]? = _; rw [Int.toNat_natCast]; exact e, rfl⟩
    · rcases ih with ih | ih
      · exact .inl ih
      · right
        exact ⟨ih.1, by omega, ih.2.2.1, by omega, ih.2.2.2.2⟩
/-- A ship as it may stand in a line: what it needs to read may be longer by up to 60. -/
def shipIn (x : Sp) : Prop := 0 ≤ x.f0 ∧ x.f0 ≤ 6 ∧ 0 ≤ x.f1 ∧ x.f1 ≤ 120 ∧ 0 ≤ x.f2 ∧ x.f2 ≤ 60
theorem due_ok {pre : List Tm} (hok : TimesOK pre) {x : Sp} {read : Int} (h2 : 0 ≤ x.f2 ∧ x.f2 ≤ 60) (hr : 0 ≤ read ∧ read ≤ 120) : TimesOK (pre ++ [dueL pre x read]) := by
  have hs := scan_spec pre hok (pre.length - x.f0.toNat) (pre.length - (pre.length - x.f0.toNat)) (by omega)
  rw [show pre.length - x.f0.toNat + (pre.length - (pre.length - x.f0.toNat)) = pre.length by omega] at hs
  unfold dueL
  rcases hsc : scan pre (pre.length - x.f0.toNat) (pre.length - (pre.length - x.f0.toNat)) with ⟨f, s⟩
  rw [hsc] at hs
  simp only at hs
  refine ⟨fun t ht => ?_, fun i t ht => ?_, fun i t ht hi => ?_⟩
  · rcases Nat.eq_zero_or_pos pre.length with h0 | h0
    · rw [List.getElem?_append_right (by omega), if_pos h0] at ht
      simp [h0] at ht
      subst ht
      exact ⟨rfl, rfl, rfl, h2.1⟩
    · rw [List.getElem?_append_left h0] at ht
      exact hok.first t ht
  · rcases Nat.lt_or_ge i pre.length with hi | hi
    · rw [List.getElem?_append_left hi] at ht
      exact hok.bound i t ht
    · rw [List.getElem?_append_right hi] at ht
      have h0 : i - pre.length = 0 := by
        rcases Nat.eq_zero_or_pos (i - pre.length) with h | h
        · exact h
        · rw [List.getElem?_eq_none (by simp; omega)] at ht
          cases ht
      rw [h0] at ht
      simp only [List.getElem?_cons_zero, Option.some.injEq] at ht
      split at ht
      · subst ht
        simp only
        omega
      · split at ht
        · subst ht
          rcases hs with hs | hs
          · simp only [Prod.mk.injEq] at hs
            omega
          · simp only
            omega
        · subst ht
          simp only
          omega
  · rcases Nat.lt_or_ge i pre.length with hl | hl
    · rw [List.getElem?_append_left hl] at ht
      rcases hok.later i t ht hi with h | ⟨h1, h2, h3, u, hu, h4⟩
      · exact .inl h
      · refine .inr ⟨h1, h2, h3, u, ?_, h4⟩
        rw [List.getElem?_append_left (by omega)]
        exact hu
    · rw [List.getElem?_append_right hl] at ht
      have h0 : i - pre.length = 0 := by
        rcases Nat.eq_zero_or_pos (i - pre.length) with h | h
        · exact h
        · rw [List.getElem?_eq_none (by simp; omega)] at ht
          cases ht
      rw [h0] at ht
      simp only [List.getElem?_cons_zero, Option.some.injEq] at ht
      rw [if_neg (by omega)] at ht
      split at ht
      · rcases hs with hs | ⟨h1, h2, h3, h4, u, hu, h5⟩
        · simp only [Prod.mk.injEq] at hs
          omega
        · subst ht
          refine .inr ⟨h1, by simp only; omega, h3, u, ?_, h5⟩
          simp only
          rw [List.getElem?_append_left (by omega)]
          exact hu
      · exact .inl ht.symm
theorem timesGo_len (ship more : Int) : ∀ (l : List Sp) (acc : List Tm), (timesGo ship more l acc).length = acc.length + l.length
  | [], acc => by simp [timesGo]
  | x :: xs, acc => by
    simp only [timesGo]
    rw [timesGo_len ship more xs]
    simp
    omega
theorem timesL_len (ship more : Int) (l : List Sp) : (timesL ship more l).length = l.length := by
  simp [timesL, timesGo_len]
theorem timesGo_ok (ship more : Int) : ∀ (l : List Sp) (acc : List Tm), TimesOK acc → (∀ x ∈ l, 0 ≤ x.f2 ∧ x.f2 ≤ 60) → (∀ i x, l[i]? = some x → 0 ≤ x.f1 + (if ((acc.length + i : Nat) : Int) = ship then more else 0) ∧ x.f1 + (if ((acc.length + i : Nat) : Int) = ship then more else 0) ≤ 120) → TimesOK (timesGo ship more l acc)
  | [], acc, h, _, _ => h
  | x :: xs, acc, h, h2, hr => by
    simp only [timesGo]
    have h0 := hr 0 x rfl
    refine timesGo_ok ship more xs _ (due_ok h (h2 x (by simp)) (by simpa using h0)) (fun y hy => h2 y (by simp [hy])) (fun i y hy => ?_)
    have := hr (i + 1) y (by simpa using hy)
    simp only [List.length_append, List.length_singleton]
    rw [show acc.length + 1 + i = acc.length + (i + 1) by omega]
    exact this

end Go.Proofs.Ytclmedjighnkjaa.G.Pure
end

section
namespace Go.Proofs.Ytclmedjighnkjaa.G.Pure
open Go.RowKit Go.Proofs.Ytclmedjighnkjaa.G Go.Proofs.YtclmedjighnkjaaW.PrintWords Go.Proofs.YtclmedjighnkjaaW.PrintLast Go.Proofs.YtclmedjighnkjaaW.PrintMore
set_option linter.unusedVariables false
set_option linter.unusedSimpArgs false
/-! The reference's times. -/
theorem rd_impl_Times {l : List Tm} {i : Nat} (h : i < l.length) : rd_T69 l (i : Int) = l[i] := by
  simp [rd_T69, List.getD_eq_getElem?_getD, List.getElem?_eq_getElem h]
def tup (t : Tm) : Int × Int × Int × Int := (t.f0, t.f1, t.f2, t.f3)
theorem due_eq (k : Nat) (line : List Sp) (pre : List Tm) (i : Nat) (read : Int) (hi : i < line.length) (hp : pre.length = i) (h20 : i < 20) (hok : TimesOK pre) (hx : shipIn line[i]) (hr : 0 ≤ read ∧ read ≤ 120) (hk : 8 < k) :
    spec_l06Due.f k line pre (i : Int) read = some (tup (dueL pre line[i] read)) := by
  obtain ⟨s0, s1, s2, s3, s4, s5⟩ := hx
  unfold spec_l06Due.f
  rw [if_pos (by omega), if_pos (by omega), rd_impl_Ship hi]
  rw [w64 (n := (line[i]).f2) (by omega) (by omega), w64 (n := (line[i]).f0) (by omega) (by omega)]
  by_cases h0 : (i : Int) = 0
  · rw [if_pos h0]
    simp [dueL, tup, hp, show i = 0 by omega]
  · rw [if_neg h0, w64 (by omega) (by omega)]
    have hsc := fun n (hn : (i - (line[i]).f0.toNat) + n ≤ pre.length) => scan_spec pre hok (i - (line[i]).f0.toNat) n hn
    generalize line[i] = x at *
    obtain ⟨r, hr', h⟩ := loop_inv (fun k (s : Int × Int × Int) => spec_l06Due.l0 k pre (i : Int) read x.f2 s.1 s.2.1 s.2.2 (-1) (-1)) x.f0.toNat
      (fun j s => s.1 = (i : Int) - x.f0 + j ∧ (s.2.1, s.2.2) = scan pre (i - x.f0.toNat) ((i + j - x.f0.toNat) - (i - x.f0.toNat)))
      (fun r => r = tup (dueL pre x read))
      (fun k j s hj ⟨h1, h2⟩ => by
        obtain ⟨p, f, s⟩ := s
        simp only at h1 h2
        subst h1
        refine .inl ?_
        by_cases hneg : 0 ≤ (i : Int) - x.f0 + j
        · obtain ⟨q, hq⟩ : ∃ q : Nat, (i : Int) - x.f0 + j = (q : Int) := ⟨((i : Int) - x.f0 + j).toNat, by omega⟩
          have hql : q < pre.length := by omega
          have hb := hok.bound q _ (List.getElem?_eq_getElem hql)
          have hn : i - x.f0.toNat + (i + j - x.f0.toNat - (i - x.f0.toNat)) = q := by omega
          have hn2 : i + (j + 1) - x.f0.toNat - (i - x.f0.toNat) = (i + j - x.f0.toNat - (i - x.f0.toNat)) + 1 := by omega
          refine ⟨((q : Int) + 1, (scan pre (i - x.f0.toNat) (i + (j + 1) - x.f0.toNat - (i - x.f0.toNat))).1, (scan pre (i - x.f0.toNat) (i + (j + 1) - x.f0.toNat - (i - x.f0.toNat))).2), ⟨by simp only; omega, rfl⟩, ?_⟩
          rw [hn2]
          simp only [scan, ← h2, hn, List.getElem?_eq_getElem hql]
          rw [hq]
          simp only [spec_l06Due.l0]
          rw [if_pos (by omega), if_pos (by omega), if_pos (by omega), if_pos (by omega), rd_impl_Times hql, w64 (n := (q : Int) + 1) (by omega) (by omega), i8w (n := (q : Int)) (by omega) (by omega)]
          by_cases c1 : 0 ≤ pre[q].f3
          · rw [if_pos (by omega)]
            by_cases c2 : f < 0
            · rw [if_pos c2, if_pos ⟨c1, .inl c2⟩]
            · rw [if_neg c2]
              by_cases c3 : pre[q].f3 < s
              · rw [if_pos c3, if_pos ⟨c1, .inr c3⟩]
              · rw [if_neg c3, if_neg (fun h => h.2.elim c2 c3)]
          · rw [if_neg (by omega), if_neg (fun h => c1 h.1)]
        · have hn : i + j - x.f0.toNat - (i - x.f0.toNat) = 0 := by omega
          have hn2 : i + (j + 1) - x.f0.toNat - (i - x.f0.toNat) = 0 := by omega
          refine ⟨((i : Int) - x.f0 + j + 1, f, s), ⟨by simp only; omega, ?_⟩, ?_⟩
          · rw [hn2]; rw [hn] at h2; exact h2
          · simp only [spec_l06Due.l0]
            rw [if_pos (by omega), if_neg (by omega), w64 (by omega) (by omega)])
      (fun k s ⟨h1, h2⟩ => by
        obtain ⟨p, f, s⟩ := s
        simp only at h1 h2
        have hp' : p = (i : Int) := by omega
        subst hp'
        have hn : i + x.f0.toNat - x.f0.toNat - (i - x.f0.toNat) = pre.length - (pre.length - x.f0.toNat) := by omega
        refine ⟨_, rfl, ?_⟩
        have hs := hsc (pre.length - (pre.length - x.f0.toNat)) (by omega)
        rw [hn] at h2
        rw [← h2] at hs
        simp only [spec_l06Due.l0]
        rw [if_neg (by omega)]
        unfold dueL
        rw [if_neg (show ¬ pre.length = 0 by omega), show pre.length - x.f0.toNat = i - x.f0.toNat by omega]
        rw [show pre.length - x.f0.toNat = i - x.f0.toNat by omega] at h2
        rw [← h2]
        simp only
        by_cases c : 0 ≤ f
        · rw [if_pos (by omega), if_pos c]
          rcases hs with hs | hs
          · simp only [Prod.mk.injEq] at hs
            omega
          · simp only at hs
            rw [w64 (n := s + read) (by omega) (by omega), w64 (by omega) (by omega)]
            rfl
        · rw [if_neg (by omega), if_neg c]
          rcases hs with hs | hs
          · simp only [Prod.mk.injEq] at hs
            rw [hs.1, hs.2]
            rfl
          · simp only at hs
            omega) k ((i : Int) - x.f0, -1, -1) ⟨by simp, by
        rw [show i + 0 - x.f0.toNat - (i - x.f0.toNat) = 0 by omega]
        rfl⟩ (by omega)
    subst hr'
    exact h
theorem specTimes_eq (k : Nat) (line : List Sp) (ship more : Int) (hl : line.length ≤ 20) (hx : ∀ x ∈ line, shipIn x) (hr : ∀ (i : Nat) (x : Sp), line[i]? = some x → 0 ≤ x.f1 + (if (i : Int) = ship then more else 0) ∧ x.f1 + (if (i : Int) = ship then more else 0) ≤ 120) (hm : 0 ≤ more ∧ more ≤ 60) (hk : 40 < k) :
    spec_l06Times.f k line ship more = some (timesL ship more line) := by
  unfold spec_l06Times.f
  have go : ∀ (rest : List Sp) (k : Nat) (acc : List Tm), line.drop acc.length = rest → TimesOK acc → acc.length ≤ line.length → rest.length + 10 < k → spec_l06Times.l0 k line ship more acc (acc.length : Int) = some (timesGo ship more rest acc) := by
    intro rest
    induction rest with
    | nil =>
      intro k acc hd hok hle hk
      obtain ⟨k, rfl⟩ : ∃ m, k = m + 1 := ⟨k - 1, by omega⟩
      have := List.drop_eq_nil_iff.1 hd
      simp only [spec_l06Times.l0]
      rw [if_neg (by omega)]
      rfl
    | cons x xs ih =>
      intro k acc hd hok hle hk
      simp only [List.length_cons] at hk
      obtain ⟨k, rfl⟩ : ∃ m, k = m + 1 := ⟨k - 1, by omega⟩
      have hlt : acc.length < line.length := by
        have := congrArg List.length hd
        simp at this
        omega
      have hx0 : line[acc.length] = x := by
        have h1 := List.drop_eq_getElem_cons hlt
        rw [hd] at h1
        exact (List.cons.inj h1).1.symm
      have hxs : line.drop (acc.length + 1) = xs := by
        have h1 := List.drop_eq_getElem_cons hlt
        rw [hd] at h1
        exact (List.cons.inj h1).2.symm
      have hmem : x ∈ line := hx0 ▸ List.getElem_mem hlt
      obtain ⟨s0, s1, s2, s3, s4, s5⟩ := hx x hmem
      have hr' := hr acc.length x (by rw [List.getElem?_eq_getElem hlt, hx0])
      simp only [spec_l06Times.l0]
      rw [if_pos (by omega), if_pos (by omega), rd_impl_Ship hlt, hx0]
      rw [w64 (n := x.f1) (by omega) (by omega), w64 (n := (acc.length : Int) + 1) (by omega) (by omega)]
      have step : ∀ read, read = x.f1 + (if (acc.length : Int) = ship then more else 0) → 
          ((spec_l06Due.f k line acc (acc.length : Int) read).bind fun bt => (if acc.length < 4398046511104 then (spec_l06Times.l0 k line ship more (acc ++ [(⟨bt.1, bt.2.1, bt.2.2.1, bt.2.2.2⟩ : Tm)]) ((acc.length : Int) + 1)) else none)) = some (timesGo ship more (x :: xs) acc) := by
        intro read hread
        rw [due_eq k line acc acc.length read hlt rfl (by omega) hok (by rw [hx0]; exact hx x hmem) (by rw [hread]; exact hr') (by omega)]
        simp only [Option.bind_some]
        rw [if_pos (by omega), hx0]
        have h2 := ih k (acc ++ [dueL acc x read]) (by simpa using hxs) (due_ok hok ⟨s4, s5⟩ (by rw [hread]; exact hr')) (by simp; omega) (by omega)
        rw [show ((acc ++ [dueL acc x read]).length : Int) = (acc.length : Int) + 1 by simp] at h2
        simp only [tup, timesGo]
        rw [← hread]
        exact h2
      by_cases c : (acc.length : Int) = ship
      · rw [if_pos c]
        rw [if_pos c] at hr'
        rw [w64 (n := x.f1 + more) (by omega) (by omega)]
        exact step _ (by rw [if_pos c])
      · rw [if_neg c]
        exact step _ (by rw [if_neg c, Int.add_zero])
  exact go line k [] rfl TimesOK.nil (by simp) (by omega)

end Go.Proofs.Ytclmedjighnkjaa.G.Pure
end

section
namespace Go.Proofs.Ytclmedjighnkjaa.G.Pure
open Go.RowKit Go.Proofs.Ytclmedjighnkjaa.G Go.Proofs.YtclmedjighnkjaaW.PrintWords Go.Proofs.YtclmedjighnkjaaW.PrintLast Go.Proofs.YtclmedjighnkjaaW.PrintMore
set_option linter.unusedVariables false
set_option linter.unusedSimpArgs false
/-! The program's times. -/
theorem implInner (k : Nat) (acc : List Tm) (line : List Sp) (x : Sp) (i a : Nat) (len x12 : Int) (hi : acc.length = i) (h20 : i < 20) (h1i : 0 < i) (hok : TimesOK acc) (hx : shipIn x) (ha : a ≤ i) :
    ∀ d n, a + n + d = i → impl_times.l1 (k + d + 1) acc (i : Int) ((a + n : Nat) : Int) line len x12 x.f0 x.f1 x.f2 (scan acc a n).1 (scan acc a n).2 (-1) (-1) =
      impl_times.l1 (k + 1) acc (i : Int) (i : Int) line len x12 x.f0 x.f1 x.f2 (scan acc a (i - a)).1 (scan acc a (i - a)).2 (-1) (-1) := by
  intro d
  induction d with
  | zero =>
    intro n hn
    rw [show i - a = n by omega, show a + n = i by omega]
  | succ d ih =>
    intro n hn
    have hql : a + n < acc.length := by omega
    have hb := hok.bound (a + n) _ (List.getElem?_eq_getElem hql)
    have hsc := scan_spec acc hok a n (by omega)
    rw [← ih (n + 1) (by omega)]
    rw [show k + (d + 1) + 1 = (k + d + 1) + 1 by omega]
    conv => lhs; unfold impl_times.l1
    rw [if_pos (by omega), if_pos (by omega), if_pos (by omega), rd_impl_Times hql, w64 (n := ((a + n : Nat) : Int) + 1) (by omega) (by omega), i8w (n := ((a + n : Nat) : Int)) (by omega) (by omega)]
    rw [show ((a + (n + 1) : Nat) : Int) = ((a + n : Nat) : Int) + 1 by omega]
    have hs1 : scan acc a (n + 1) = if 0 ≤ acc[a + n].f3 ∧ ((scan acc a n).1 < 0 ∨ acc[a + n].f3 < (scan acc a n).2) then (((a + n : Nat) : Int), acc[a + n].f3) else scan acc a n := by
      rcases hs : scan acc a n with ⟨f, s⟩
      simp only [scan, hs, List.getElem?_eq_getElem hql]
    rw [hs1]
    have hneg : (scan acc a n).1 < 0 ↔ (scan acc a n).2 < 0 := by
      rcases hsc with h | h
      · rw [h]
      · omega
    by_cases c1 : 0 ≤ acc[a + n].f3
    · rw [if_pos (by omega)]
      by_cases c2 : (scan acc a n).2 < 0
      · rw [if_pos c2, if_pos ⟨c1, .inl (hneg.2 c2)⟩]
      · rw [if_neg c2]
        by_cases c3 : acc[a + n].f3 < (scan acc a n).2
        · rw [if_pos c3, if_pos ⟨c1, .inr c3⟩]
        · rw [if_neg c3, if_neg (fun h => h.2.elim (fun h => c2 (hneg.1 h)) c3)]
    · rw [if_neg (by omega), if_neg (fun h => c1 h.1)]
theorem implRound (k : Nat) (acc : List Tm) (line : List Sp) (x : Sp) (hlt : acc.length < line.length) (h20 : line.length ≤ 20) (hx0 : line[acc.length] = x) (hok : TimesOK acc) (hx : shipIn x) :
    impl_times.l0 (k + (acc.length - (acc.length - x.f0.toNat)) + 3) acc line (line.length : Int) (acc.length : Int) = impl_times.l0 k (acc ++ [dueL acc x x.f1]) line (line.length : Int) ((acc.length : Int) + 1) := by
  obtain ⟨s0, s1, s2, s3, s4, s5⟩ := hx
  have hxx : shipIn x := ⟨s0, s1, s2, s3, s4, s5⟩
  rcases Nat.eq_zero_or_pos acc.length with h0 | h0
  · rw [show k + (acc.length - (acc.length - x.f0.toNat)) + 3 = k + 3 by omega]
    conv => lhs; unfold impl_times.l0
    rw [if_pos (by omega), if_pos (by omega), if_pos (by omega), if_pos (by omega), rd_impl_Ship hlt, hx0]
    conv => lhs; unfold impl_times.j1
    rw [w64 (n := x.f0) (by omega) (by omega), w64 (by omega) (by omega)]
    rw [show mx ((acc.length : Int) - x.f0) 0 = (acc.length : Int) by unfold mx; split <;> omega]
    conv => lhs; unfold impl_times.l1
    rw [if_neg (by omega), if_pos (by omega), if_pos (by omega), if_pos (by omega), w64 (n := x.f2) (by omega) (by omega), w64 (n := x.f2) (by omega) (by omega), w64 (n := (acc.length : Int) + 1) (by omega) (by omega)]
    simp [dueL, h0]
  · obtain ⟨a, ha⟩ : ∃ a, a = acc.length - x.f0.toNat := ⟨_, rfl⟩
    rw [← ha]
    conv => lhs; unfold impl_times.l0
    rw [if_pos (by omega), if_pos (by omega), if_pos (by omega), if_neg (by omega), rd_impl_Ship hlt, hx0]
    conv => lhs; unfold impl_times.j1
    rw [w64 (n := x.f0) (by omega) (by omega), w64 (n := (acc.length : Int) - x.f0) (by omega) (by omega)]
    rw [show mx ((acc.length : Int) - x.f0) 0 = ((a + 0 : Nat) : Int) by unfold mx; split <;> omega]
    have h1 := implInner k acc line x acc.length a (line.length : Int) (acc.length : Int) rfl (by omega) h0 hok hxx (by omega) (acc.length - a) 0 (by omega)
    simp only [scan] at h1
    rw [h1]
    have hsc := scan_spec acc hok a (acc.length - a) (by omega)
    have hd : dueL acc x x.f1 = if 0 ≤ (scan acc a (acc.length - a)).1 then ⟨(scan acc a (acc.length - a)).1, (scan acc a (acc.length - a)).2, (scan acc a (acc.length - a)).2 + x.f1, (scan acc a (acc.length - a)).2 + x.f1 + x.f2⟩ else ⟨-1, -1, -1, -1⟩ := by
      unfold dueL
      rw [if_neg (show ¬ acc.length = 0 by omega), ← ha]
    rw [hd]
    rcases hsc with h | h
    · rw [h]
      conv => lhs; unfold impl_times.l1
      simp only
      rw [if_neg (by omega), if_neg (by omega), if_pos (by omega), if_neg (by omega), w64 (by omega) (by omega)]
    · conv => lhs; unfold impl_times.l1
      rw [if_neg (by omega), if_pos (by omega), if_neg (by omega), if_pos (by omega), if_pos h.1]
      rw [w64 (n := x.f1) (by omega) (by omega), w64 (n := x.f2) (by omega) (by omega), w64 (n := (scan acc a (acc.length - a)).2 + x.f1) (by omega) (by omega), w64 (n := (scan acc a (acc.length - a)).2 + x.f1 + x.f2) (by omega) (by omega), w64 (n := (acc.length : Int) + 1) (by omega) (by omega)]
theorem timesGo_plain (xs : List Sp) (acc : List Tm) : ∀ x, timesGo (-1) 0 (x :: xs) acc = timesGo (-1) 0 xs (acc ++ [dueL acc x x.f1]) := by
  intro x
  simp only [timesGo]
  rw [if_neg (by omega), Int.add_zero]
theorem implTimes_eq (k : Nat) (line : List Sp) (hl : line.length ≤ 20) (hx : ∀ x ∈ line, shipIn x) (hk : 200 < k) : impl_times.f k line = some (timesL (-1) 0 line) := by
  have go : ∀ (rest : List Sp) (k : Nat) (acc : List Tm), line.drop acc.length = rest → TimesOK acc → acc.length ≤ line.length → 9 * rest.length < k → impl_times.l0 k acc line (line.length : Int) (acc.length : Int) = some (timesGo (-1) 0 rest acc) := by
    intro rest
    induction rest with
    | nil =>
      intro k acc hd hok hle hk
      obtain ⟨k, rfl⟩ : ∃ m, k = m + 1 := ⟨k - 1, by omega⟩
      have := List.drop_eq_nil_iff.1 hd
      unfold impl_times.l0
      rw [if_neg (by omega)]
      rfl
    | cons x xs ih =>
      intro k acc hd hok hle hk
      simp only [List.length_cons] at hk
      have hlt : acc.length < line.length := by
        have := congrArg List.length hd
        simp at this
        omega
      have hx0 : line[acc.length] = x := by
        have h1 := List.drop_eq_getElem_cons hlt
        rw [hd] at h1
        exact (List.cons.inj h1).1.symm
      have hxs : line.drop (acc.length + 1) = xs := by
        have h1 := List.drop_eq_getElem_cons hlt
        rw [hd] at h1
        exact (List.cons.inj h1).2.symm
      have hmem : x ∈ line := hx0 ▸ List.getElem_mem hlt
      have hxx := hx x hmem
      obtain ⟨s0, s1, s2, s3, s4, s5⟩ := hxx
      obtain ⟨m, rfl, hm⟩ : ∃ m, k = m + (acc.length - (acc.length - x.f0.toNat)) + 3 ∧ 9 * xs.length < m := ⟨k - (acc.length - (acc.length - x.f0.toNat)) - 3, by omega, by omega⟩
      rw [implRound m acc line x hlt hl hx0 hok (hx x hmem), timesGo_plain]
      have h2 := ih m (acc ++ [dueL acc x x.f1]) (by simpa using hxs) (due_ok hok ⟨s4, s5⟩ ⟨s2, s3⟩) (by simp; omega) hm
      rw [show ((acc ++ [dueL acc x x.f1]).length : Int) = (acc.length : Int) + 1 by simp] at h2
      exact h2
  unfold impl_times.f
  exact go line k [] rfl TimesOK.nil (by simp) (by omega)

end Go.Proofs.Ytclmedjighnkjaa.G.Pure
end

section
namespace Go.Proofs.Ytclmedjighnkjaa.G.Pure
open Go.RowKit Go.Proofs.Ytclmedjighnkjaa.G Go.Proofs.YtclmedjighnkjaaW.PrintWords Go.Proofs.YtclmedjighnkjaaW.PrintLast Go.Proofs.YtclmedjighnkjaaW.PrintMore
set_option linter.unusedVariables false
set_option linter.unusedSimpArgs false
/-! Valid lines. -/
def wfShip (x : Sp) : Prop := (Lit.int .i8 x.f0).wf = true ∧ (Lit.int .i8 x.f1).wf = true ∧ (Lit.int .i8 x.f2).wf = true
def validB (l : List Sp) : Bool := decide (1 ≤ (l.length : Int)) && decide ((l.length : Int) ≤ 20) && !l.any shipBad
theorem implValid_eq (l : List Sp) : impl_ValidLine.f l = some (validB l) := rfl
theorem shipBad_wf {x : Sp} (h : wfShip x) : shipBad x = !(decide (0 ≤ x.f0) && decide (x.f0 ≤ 6) && (decide (0 ≤ x.f1) && decide (x.f1 ≤ 60)) && (decide (0 ≤ x.f2) && decide (x.f2 ≤ 60))) := by
  obtain ⟨h0, h1, h2⟩ := h
  have b0 := i8b h0
  have b1 := i8b h1
  have b2 := i8b h2
  unfold shipBad
  rw [w64 (n := x.f0) (by omega) (by omega), w64 (n := x.f1) (by omega) (by omega), w64 (n := x.f2) (by omega) (by omega)]
structure ValidL (l : List Sp) : Prop where
  pos : 1 ≤ l.length
  most : l.length ≤ 20
  ships : ∀ x ∈ l, 0 ≤ x.f0 ∧ x.f0 ≤ 6 ∧ 0 ≤ x.f1 ∧ x.f1 ≤ 60 ∧ 0 ≤ x.f2 ∧ x.f2 ≤ 60
theorem ValidL.in_ {l : List Sp} (h : ValidL l) : ∀ x ∈ l, shipIn x := fun x hx => by
  have := h.ships x hx
  unfold shipIn
  omega
theorem validB_iff {l : List Sp} (hw : ∀ x ∈ l, wfShip x) : validB l = true ↔ ValidL l := by
  constructor
  · intro h
    unfold validB at h
    simp only [Bool.and_eq_true, decide_eq_true_eq, Bool.not_eq_true', List.any_eq_false] at h
    obtain ⟨⟨h1, h2⟩, h3⟩ := h
    refine ⟨by omega, by omega, fun x hx => ?_⟩
    have h4 := h3 x hx
    rw [shipBad_wf (hw x hx)] at h4
    simp at h4
    omega
  · intro h
    unfold validB
    simp only [Bool.and_eq_true, decide_eq_true_eq, Bool.not_eq_true', List.any_eq_false]
    refine ⟨⟨by have := h.pos; omega, by have := h.most; omega⟩, fun x hx => ?_⟩
    rw [shipBad_wf (hw x hx)]
    have := h.ships x hx
    simp
    omega
theorem in_eq (n lo hi : Int) : spec_l00In.f n lo hi = some (decide (lo ≤ n) && decide (n ≤ hi)) := by
  unfold spec_l00In.f
  split
  · simp [*]
  · simp [*]
theorem specOk_eq (k : Nat) (l : List Sp) (hw : ∀ x ∈ l, wfShip x) (hl : l.length ≤ 1048576) (hk : l.length < k) : spec_l06Ok.f k l = some (validB l) := by
  unfold spec_l06Ok.f validB
  rw [in_eq]
  simp only [Option.bind_some]
  by_cases h0 : (decide (1 ≤ (l.length : Int)) && decide ((l.length : Int) ≤ 20)) = true
  · rw [if_pos h0, h0, Bool.true_and]
    obtain ⟨r, hr, h⟩ := loop_inv (fun k (s : Int) => spec_l06Ok.l0 k l s) l.length (fun i s => s = (i : Int) ∧ ∀ j (h : j < l.length), j < i → shipBad l[j] = false) (fun r => r = !l.any shipBad)
      (fun k i s hi ⟨h1, h2⟩ => by
        subst h1
        have hb := hw l[i] (List.getElem_mem hi)
        have hbad := shipBad_wf hb
        obtain ⟨b0, b1, b2⟩ := hb
        have b0 := i8b b0
        have b1 := i8b b1
        have b2 := i8b b2
        cases hq : shipBad l[i] with
        | true =>
          refine .inr ⟨false, ?_, ?_⟩
          · have : l.any shipBad = true := List.any_eq_true.2 ⟨l[i], List.getElem_mem hi, hq⟩
            rw [this]; rfl
          · simp only [spec_l06Ok.l0]
            rw [if_pos (by omega), if_pos (by omega), rd_impl_Ship hi, in_eq, in_eq, in_eq]
            rw [w64 (n := (l[i]).f0) (by omega) (by omega), w64 (n := (l[i]).f1) (by omega) (by omega), w64 (n := (l[i]).f2) (by omega) (by omega)]
            rw [hq] at hbad
            simp only [Option.bind_some]
            generalize (decide (0 ≤ (l[i]).f0) && decide ((l[i]).f0 ≤ 6)) = c0 at *
            generalize (decide (0 ≤ (l[i]).f1) && decide ((l[i]).f1 ≤ 60)) = c1 at *
            generalize (decide (0 ≤ (l[i]).f2) && decide ((l[i]).f2 ≤ 60)) = c2 at *
            cases c0 <;> cases c1 <;> cases c2 <;> first | (exfalso; revert hbad; decide) | rfl
        | false =>
          refine .inl ⟨((i + 1 : Nat) : Int), ⟨rfl, fun j hj hji => ?_⟩, ?_⟩
          · by_cases e : j = i
            · subst e; exact hq
            · exact h2 j hj (by omega)
          · simp only [spec_l06Ok.l0]
            rw [if_pos (by omega), if_pos (by omega), rd_impl_Ship hi, in_eq, in_eq, in_eq]
            rw [w64 (n := (l[i]).f0) (by omega) (by omega), w64 (n := (l[i]).f1) (by omega) (by omega), w64 (n := (l[i]).f2) (by omega) (by omega), w64 (n := (i : Int) + 1) (by omega) (by omega)]
            rw [hq] at hbad
            simp only [Option.bind_some]
            generalize (decide (0 ≤ (l[i]).f0) && decide ((l[i]).f0 ≤ 6)) = c0 at *
            generalize (decide (0 ≤ (l[i]).f1) && decide ((l[i]).f1 ≤ 60)) = c1 at *
            generalize (decide (0 ≤ (l[i]).f2) && decide ((l[i]).f2 ≤ 60)) = c2 at *
            cases c0 <;> cases c1 <;> cases c2 <;> first | (exfalso; revert hbad; decide) | rfl)
      (fun k s ⟨h1, h2⟩ => by
        subst h1
        refine ⟨true, ?_, ?_⟩
        · have : l.any shipBad = false := by
            rw [List.any_eq_false]
            intro x hx
            obtain ⟨j, hj, rfl⟩ := List.mem_iff_getElem.1 hx
            simp [h2 j hj hj]
          rw [this]; rfl
        · simp only [spec_l06Ok.l0]
          rw [if_neg (by omega)]) k 0 ⟨rfl, fun j _ h => absurd h (Nat.not_lt_zero _)⟩ hk
    subst hr
    exact h
  · rw [if_neg h0]
    simp only [Bool.not_eq_true] at h0
    rw [h0, Bool.false_and]
theorem wf_map {l : List (S62)} (h : ∀ x ∈ l, (Lit.int .i8 x.f0).wf = true ∧ (Lit.int .i8 x.f1).wf = true ∧ (Lit.int .i8 x.f2).wf = true) : ∀ x ∈ l.map shipOf, wfShip x := by
  intro x hx
  obtain ⟨y, hy, rfl⟩ := List.mem_map.1 hx
  exact h y hy

end Go.Proofs.Ytclmedjighnkjaa.G.Pure
end

section
namespace Go.Proofs.Ytclmedjighnkjaa.G
open Go.RowKit Go.Proofs.YtclmedjighnkjaaW.PrintWords Go.Proofs.YtclmedjighnkjaaW.PrintLast Go.Proofs.YtclmedjighnkjaaW.PrintMore
attribute [local go_sem] max2_int min2_int max_two min_two max_three min_three max_four min_four
set_option linter.unusedVariables false
set_option linter.unusedSimpArgs false

/-! ### spec_TimesOf: function 43 -/
def spec_TimesOf.f (k : Nat) (l0 : List (S60)) : Option ((List (S69)) × Int) := (spec_l06Ok.f k l0).bind fun t101 => (if t101 = true then ((spec_l06Times.f k l0 (-1) 0).bind fun t102 => (some (t102, 0))) else (some ((([] : List (S69))), 1)))
set_option maxHeartbeats 8000000 in
set_option maxRecDepth 100000 in
theorem spec_TimesOf.calls (k : Nat) (A0 : Option Addr) (c0 : Nat) (l0 : List (S60)) (r1 : List (S69)) (r2 : Int) (w : World) (hr0 : Kd.C k60 w A0 l0.length l0) (hc0 : l0.length ≤ c0) (h : spec_TimesOf.f k l0 = some (r1, r2)) :
    Calls Try.prog 43 #[.slice A0 l0.length c0] w fun e w' => ∃ v0_ : Value, e = .returned (.tuple #[v0_, .int .i64 r2]) ∧ Kd.R k69 69 w' w.heap.size (fun _ => True) v0_ r1 ∧ Below w.heap.size w w' := by
  have HR0 := Aside0.mk hr0
  have HC0 := Aside0.mk hc0
  clear hr0 hc0
  have HB := Aside0.mk (Below.refl w.heap.size w)
  have H : ((spec_l06Ok.f k l0).bind fun t101 => (if t101 = true then ((spec_l06Times.f k l0 (-1) 0).bind fun t102 => (some (t102, 0))) else (some ((([] : List (S69))), 1)))) = some (r1, r2) := h
  clear h
  replace H := Option.bind_eq_some_iff.mp H
  obtain ⟨t101, A20, H⟩ := H
  replace H : (if t101 = true then ((spec_l06Times.f k l0 (-1) 0).bind fun t102 => (some (t102, 0))) else (some ((([] : List (S69))), 1))) = some (r1, r2) := H
  have A2 := Aside0.mk A20
  clear A20
  by_cases c3 : t101 = true
  · subst c3
    have H1 : ((spec_l06Times.f k l0 (-1) 0).bind fun t102 => (some (t102, 0))) = some (r1, r2) := by rw [if_pos rfl] at H; exact H
    clear H
    have H := H1
    clear H1
    replace H := Option.bind_eq_some_iff.mp H
    obtain ⟨t102, A40, H⟩ := H
    replace H : (some (t102, 0)) = some (r1, r2) := H
    have A4 := Aside0.mk A40
    clear A40
    simp only [Option.some.injEq, Prod.mk.injEq] at H
    obtain ⟨rfl, rfl⟩ := H
    go_enter Try.func43, Try.ntmps43
    go_wp2_with (first | ((with_reducible refine gate_callee (f := 55) rfl ?_); refine goesL_ (some 5) rfl rfl Try.func55 (by kernel_rfl) rfl #[.slice A0 l0.length c0] rfl (by (try simp only [List.map_toArray, List.map_cons, List.map_nil]); first | done | rfl | (simp only [List.length_drop, List.length_take]; rfl)) ?_; (with_reducible refine (spec_l06Ok.calls k _ _ l0 true _ ?side1 ?side2 A2.out).mono ?_); (case side1 => repeat (first | exact HR0.out | (with_reducible refine Kd.C_alloc ?_ _) | (with_reducible refine Kd.C_drewN ?_ _) | (with_reducible refine Kd.C_drew ?_))); (case side2 => exact HC0.out); rintro e w5 ⟨rfl, hb⟩; refine ⟨_, rfl, ?_⟩; have n0_ := Aside0.mk (below_step (by repeat (first | (with_reducible first | exact HB.out | apply below_alloc | apply pw_below_drewN | apply below_drew1) | exact HB.out)) hb); clear HB; have HB := n0_; clear n0_; (try clear hb); (try clear hb2); (try clear hk); (try clear hi)) | ((with_reducible refine gate_callee (f := 66) rfl ?_); refine goesL_ (some 9) rfl rfl Try.func66 (by kernel_rfl) rfl #[.slice A0 l0.length c0, .int .i64 (-1), .int .i64 0] rfl (by (try simp only [List.map_toArray, List.map_cons, List.map_nil]); first | done | rfl | (simp only [List.length_drop, List.length_take]; rfl)) ?_; (with_reducible refine (spec_l06Times.calls k _ _ l0 (-1) 0 t102 _ ?side1 ?side2 A4.out).mono ?_); (case side1 => repeat (first | exact (Kd.C_below HR0.out HB.out) | (with_reducible refine Kd.C_alloc ?_ _) | (with_reducible refine Kd.C_drewN ?_ _) | (with_reducible refine Kd.C_drew ?_))); (case side2 => exact HC0.out); rintro e w6 ⟨v103, rfl, ho0, hb⟩; refine ⟨_, rfl, ?_⟩; have n0_ := Aside0.mk (Kd.R_lower ho0 (below_size (by repeat (first | (with_reducible first | exact HB.out | apply below_alloc | apply pw_below_drewN | apply below_drew1) | exact HB.out)))); have n1_ := Aside0.mk (below_step (by repeat (first | (with_reducible first | exact HB.out | apply below_alloc | apply pw_below_drewN | apply below_drew1) | exact HB.out)) hb); clear HB; have HO104 := n0_; have HB := n1_; clear n0_ n1_; (try clear hb); (try clear hb2); (try clear hk); (try clear hi); (try clear ho0)))
    go_ret2
    exact ⟨_, by first | rfl | (simp [errW_none, errW_some, IntKind.wrap_i64, wrap64]; done) | (simp [errW_none, errW_some] <;> rfl) | (simp [*, errW_none, errW_some] <;> rfl), by (with_reducible repeat (first | apply Kd.R_alloc | apply Kd.R_drewN | apply Kd.R_drew)); exact HO104.out, by repeat (first | (with_reducible first | exact HB.out | apply below_alloc | apply pw_below_drewN | apply below_drew1) | exact HB.out)⟩
  · replace c3 := Bool.eq_false_iff.mpr c3
    subst c3
    have H1 : (some ((([] : List (S69))), 1)) = some (r1, r2) := by rw [if_neg (show ¬ (false = true) by decide)] at H; exact H
    clear H
    have H := H1
    clear H1
    obtain ⟨y105, hy105⟩ : ∃ y_ : List (S69), y_ = (([] : List (S69))) := ⟨_, rfl⟩
    replace H : (some (y105, 1)) = some (r1, r2) := by first | (rw [hy105]; with_reducible exact H) | (have H2_ := (Option.bind_some _ _).symm.trans H; rw [hy105]; with_reducible exact H2_) | (have H2_ := (Option.bind_some _ _).symm.trans H; with_reducible exact H2_) | with_reducible exact H | (rw [hy105]; exact H) | exact H
    have Ny105 := Aside0.mk hy105
    clear hy105
    simp only [Option.some.injEq, Prod.mk.injEq] at H
    obtain ⟨rfl, rfl⟩ := H
    go_enter Try.func43, Try.ntmps43
    go_wp2_with (first | ((with_reducible refine gate_callee (f := 55) rfl ?_); refine goesL_ (some 5) rfl rfl Try.func55 (by kernel_rfl) rfl #[.slice A0 l0.length c0] rfl (by (try simp only [List.map_toArray, List.map_cons, List.map_nil]); first | done | rfl | (simp only [List.length_drop, List.length_take]; rfl)) ?_; (with_reducible refine (spec_l06Ok.calls k _ _ l0 false _ ?side1 ?side2 A2.out).mono ?_); (case side1 => repeat (first | exact HR0.out | (with_reducible refine Kd.C_alloc ?_ _) | (with_reducible refine Kd.C_drewN ?_ _) | (with_reducible refine Kd.C_drew ?_))); (case side2 => exact HC0.out); rintro e w7 ⟨rfl, hb⟩; refine ⟨_, rfl, ?_⟩; have n0_ := Aside0.mk (below_step (by repeat (first | (with_reducible first | exact HB.out | apply below_alloc | apply pw_below_drewN | apply below_drew1) | exact HB.out)) hb); clear HB; have HB := n0_; clear n0_; (try clear hb); (try clear hb2); (try clear hk); (try clear hi)) | ((with_reducible refine gate_dst (N := 7) rfl ?_); refine Kd.R_lit k69 _ 69 ?hg (N := 7) ?hd (xs := ([] : List (S69))) (inner := []) (ok := fun _ => True) (okp := fun _ => True) ?hr ?hp (fun _ hk => hk) trivial (Below.refl _ _) (Nat.le_refl _) (by simp) ?_; (case hd => rfl); (case hg => rfl); (case hr => first | (go_simp; done) | (go_simp; rfl)); (case hp => exact (Reps.none _ _)); intro v106 w8 ho9 hb hg_ hnew_; clear hg_ hnew_; (first | rw [← Ny105.out] at ho9 | (simp only [Int.reduceToNat] at ho9; rw [← Ny105.out] at ho9)); have n0_ := Aside0.mk (Kd.R_lower ho9 (below_size (by repeat (first | (with_reducible first | exact HB.out | apply below_alloc | apply pw_below_drewN | apply below_drew1) | exact HB.out)))); have n1_ := Aside0.mk (below_step (by repeat (first | (with_reducible first | exact HB.out | apply below_alloc | apply pw_below_drewN | apply below_drew1) | exact HB.out)) hb); clear HB; have HO107 := n0_; have HB := n1_; clear n0_ n1_; clear hb ho9))
    go_ret2
    exact ⟨_, by first | rfl | (simp [errW_none, errW_some, IntKind.wrap_i64, wrap64]; done) | (simp [errW_none, errW_some] <;> rfl) | (simp [*, errW_none, errW_some] <;> rfl), by (with_reducible repeat (first | apply Kd.R_alloc | apply Kd.R_drewN | apply Kd.R_drew)); exact HO107.out, by repeat (first | (with_reducible first | exact HB.out | apply below_alloc | apply pw_below_drewN | apply below_drew1) | exact HB.out)⟩

end Go.Proofs.Ytclmedjighnkjaa.G
end

section
namespace Go.Proofs.Ytclmedjighnkjaa.G.Pure
open Go.RowKit Go.Proofs.Ytclmedjighnkjaa.G Go.Proofs.YtclmedjighnkjaaW.PrintWords Go.Proofs.YtclmedjighnkjaaW.PrintLast Go.Proofs.YtclmedjighnkjaaW.PrintMore
set_option linter.unusedVariables false
set_option linter.unusedSimpArgs false
/-! What TimesOf comes to. -/
theorem ValidL.specTimes {line : List Sp} (v : ValidL line) {k : Nat} (hk : 300 < k) : spec_l06Times.f k line (-1) 0 = some (timesL (-1) 0 line) :=
  specTimes_eq k line (-1) 0 v.most v.in_ (fun i x hx => by
    have := v.ships x (List.mem_of_getElem? hx)
    rw [if_neg (by omega)]
    omega) ⟨by omega, by omega⟩ (by omega)
theorem ValidL.implTimes {line : List Sp} (v : ValidL line) {k : Nat} (hk : 300 < k) : impl_times.f k line = some (timesL (-1) 0 line) :=
  implTimes_eq k line v.most v.in_ (by omega)
theorem ValidL.timesOK {line : List Sp} (v : ValidL line) : TimesOK (timesL (-1) 0 line) :=
  timesGo_ok (-1) 0 line [] TimesOK.nil (fun x hx => by have := v.ships x hx; omega) (fun i x hx => by
    have := v.ships x (List.mem_of_getElem? hx)
    rw [if_neg (by simp only [List.length_nil]; omega)]
    omega)
theorem TimesOK.sign {ts : List Tm} (h : TimesOK ts) {i : Nat} {t : Tm} (ht : ts[i]? = some t) : (t.f3 < 0 ↔ t.f2 < 0) ∧ (t.f3 < 0 ↔ t.f0 < 0 ∧ 0 < i) := by
  have hb := h.bound i t ht
  rcases Nat.eq_zero_or_pos i with h0 | h0
  · subst h0
    have := h.first t ht
    omega
  · rcases h.later i t ht h0 with rfl | h1
    · exact ⟨⟨fun _ => by decide, fun _ => by decide⟩, ⟨fun _ => ⟨by decide, h0⟩, fun _ => by decide⟩⟩
    · omega
def resTimesOf (line : List Sp) : List Tm × Int := if validB line = true then (timesL (-1) 0 line, 0) else ([], 1)
theorem resTimesOf_len {line : List Sp} (hw : ∀ x ∈ line, wfShip x) : (resTimesOf line).1.length ≤ 20 := by
  unfold resTimesOf
  split
  · rename_i h
    simp only [timesL_len]
    exact ((validB_iff hw).1 h).most
  · simp
theorem specTimesOf_eq {k : Nat} {line : List Sp} (hw : ∀ x ∈ line, wfShip x) (hl : line.length ≤ 1048576) (hk : 1099000 < k) : spec_TimesOf.f k line = some (resTimesOf line) := by
  unfold spec_TimesOf.f resTimesOf
  rw [specOk_eq k line hw hl (by omega)]
  simp only [Option.bind_some]
  split
  · rename_i h
    rw [((validB_iff hw).1 h).specTimes (by omega)]
    rfl
  · rfl
theorem implTimesOf_eq {k : Nat} {line : List Sp} (hw : ∀ x ∈ line, wfShip x) (hk : 1099000 < k) : impl_TimesOf.f k line = some (resTimesOf line) := by
  unfold impl_TimesOf.f resTimesOf
  rw [implValid_eq]
  simp only [Option.bind_some]
  split
  · rename_i h
    rw [((validB_iff hw).1 h).implTimes (by omega)]
    rfl
  · rfl

end Go.Proofs.Ytclmedjighnkjaa.G.Pure
end

section
namespace Go.Proofs.Ytclmedjighnkjaa.G.Pure
open Go.RowKit Go.Proofs.Ytclmedjighnkjaa.G Go.Proofs.YtclmedjighnkjaaW.PrintWords Go.Proofs.YtclmedjighnkjaaW.PrintLast Go.Proofs.YtclmedjighnkjaaW.PrintMore
set_option linter.unusedVariables false
set_option linter.unusedSimpArgs false
/-- The numbers, from 0 on, of those of which p holds. -/
def whereP {α : Type} (p : α → Bool) (l : List α) : List Int := ((List.range l.length).filter fun i => match l[i]? with | some x => p x | none => false).map fun i => ((i : Nat) : Int)
def whereTo {α : Type} (p : α → Bool) (l : List α) (n : Nat) : List Int := ((List.range n).filter fun i => match l[i]? with | some x => p x | none => false).map fun i => ((i : Nat) : Int)
theorem whereTo_succ {α : Type} (p : α → Bool) (l : List α) {n : Nat} (h : n < l.length) : whereTo p l (n + 1) = whereTo p l n ++ if p l[n] = true then [(n : Int)] else [] := by
  unfold whereTo
  rw [List.range_succ, List.filter_append, List.map_append]
  congr 1
  simp only [List.filter_cons, List.filter_nil, List.getElem?_eq_getElem h]
  split <;> rfl
theorem whereTo_len {α : Type} (p : α → Bool) (l : List α) (n : Nat) : (whereTo p l n).length ≤ n := by
  unfold whereTo
  rw [List.length_map]
  exact Nat.le_trans (List.length_filter_le _ _) (by simp)
theorem specUnr (k : Nat) (ts : List Tm) (hl : ts.length ≤ 1048576) (hk : ts.length < k) : spec_Unreached.l0 k ts [] 0 = some (whereTo (fun t => decide (t.f3 < 0)) ts ts.length, 0) := by
  obtain ⟨r, hr, h⟩ := loop_inv (fun k (s : List Int × Int) => spec_Unreached.l0 k ts s.1 s.2) ts.length (fun i s => s.2 = (i : Int) ∧ s.1 = whereTo (fun t => decide (t.f3 < 0)) ts i) (fun r => r = (whereTo (fun t => decide (t.f3 < 0)) ts ts.length, 0))
    (fun k i s hi ⟨h1, h2⟩ => by
      obtain ⟨c, x⟩ := s
      simp only at h1 h2
      subst h1 h2
      have hle := whereTo_len (fun t => decide (t.f3 < 0)) ts i
      refine .inl ⟨(whereTo (fun t => decide (t.f3 < 0)) ts (i + 1), ((i + 1 : Nat) : Int)), ⟨rfl, rfl⟩, ?_⟩
      rw [whereTo_succ _ _ hi]
      simp only [spec_Unreached.l0]
      rw [if_pos (by omega), if_pos (by omega), rd_impl_Times hi, w64 (n := (i : Int) + 1) (by omega) (by omega)]
      by_cases c1 : (ts[i]).f3 < 0
      · rw [if_pos c1, if_pos (by omega), if_pos (by simpa using c1)]
        rfl
      · rw [if_neg c1, if_neg (by simpa using c1), List.append_nil]
        rfl)
    (fun k s ⟨h1, h2⟩ => by
      obtain ⟨c, x⟩ := s
      simp only at h1 h2
      subst h1 h2
      refine ⟨_, rfl, ?_⟩
      simp only [spec_Unreached.l0]
      rw [if_neg (by omega)]) k ([], 0) ⟨rfl, rfl⟩ hk
  subst hr
  exact h
theorem implUnr (k : Nat) (ts : List Tm) (hl : ts.length ≤ 1048576) (hk : ts.length < k) : impl_Unreached.l0 k [] ts (ts.length : Int) 0 = some (whereTo (fun t => decide (t.f2 < 0)) ts ts.length, 0) := by
  obtain ⟨r, hr, h⟩ := loop_inv (fun k (s : List Int × Int) => impl_Unreached.l0 k s.1 ts (ts.length : Int) s.2) ts.length (fun i s => s.2 = (i : Int) ∧ s.1 = whereTo (fun t => decide (t.f2 < 0)) ts i) (fun r => r = (whereTo (fun t => decide (t.f2 < 0)) ts ts.length, 0))
    (fun k i s hi ⟨h1, h2⟩ => by
      obtain ⟨c, x⟩ := s
      simp only at h1 h2
      subst h1 h2
      have hle := whereTo_len (fun t => decide (t.f2 < 0)) ts i
      refine .inl ⟨(whereTo (fun t => decide (t.f2 < 0)) ts (i + 1), ((i + 1 : Nat) : Int)), ⟨rfl, rfl⟩, ?_⟩
      rw [whereTo_succ _ _ hi]
      simp only [impl_Unreached.l0]
      rw [if_pos (by omega), if_pos (by omega), if_pos (by omega), rd_impl_Times hi, w64 (n := (i : Int) + 1) (by omega) (by omega)]
      by_cases c1 : (ts[i]).f2 < 0
      · rw [if_pos c1, if_pos (by omega), if_pos (by simpa using c1)]
        rfl
      · rw [if_neg c1, if_neg (by simpa using c1), List.append_nil]
        rfl)
    (fun k s ⟨h1, h2⟩ => by
      obtain ⟨c, x⟩ := s
      simp only at h1 h2
      subst h1 h2
      refine ⟨_, rfl, ?_⟩
      simp only [impl_Unreached.l0]
      rw [if_neg (by omega)]) k ([], 0) ⟨rfl, rfl⟩ hk
  subst hr
  exact h
theorem whereTo_congr {α : Type} {p q : α → Bool} {l : List α} (h : ∀ (i : Nat) x, l[i]? = some x → p x = q x) (n : Nat) : whereTo p l n = whereTo q l n := by
  unfold whereTo
  congr 1
  apply List.filter_congr
  intro i _
  cases hx : l[i]? with
  | none => rfl
  | some x => exact h i x hx
def resUnreached (line : List Sp) : List Int × Int := if validB line = true then (whereTo (fun t => decide (t.f3 < 0)) (timesL (-1) 0 line) (timesL (-1) 0 line).length, 0) else ([], 1)
theorem resUnreached_len {line : List Sp} (hw : ∀ x ∈ line, wfShip x) : (resUnreached line).1.length ≤ 20 := by
  unfold resUnreached
  split
  · rename_i h
    have h1 := whereTo_len (fun t : Tm => decide (t.f3 < 0)) (timesL (-1) 0 line) (timesL (-1) 0 line).length
    have := ((validB_iff hw).1 h).most
    simp only [timesL_len] at h1 ⊢
    omega
  · simp
theorem specUnreached_eq {k : Nat} {line : List Sp} (hw : ∀ x ∈ line, wfShip x) (hl : line.length ≤ 1048576) (hk : 1099000 < k) : spec_Unreached.f k line = some (resUnreached line) := by
  unfold spec_Unreached.f resUnreached
  rw [specOk_eq k line hw hl (by omega)]
  simp only [Option.bind_some]
  split
  · rename_i h
    have v := (validB_iff hw).1 h
    have := v.most
    rw [v.specTimes (by omega)]
    simp only [Option.bind_some]
    rw [specUnr k _ (by rw [timesL_len]; omega) (by rw [timesL_len]; omega)]
  · rfl
theorem implUnreached_eq {k : Nat} {line : List Sp} (hw : ∀ x ∈ line, wfShip x) (hk : 1099000 < k) : impl_Unreached.f k line = some (resUnreached line) := by
  unfold impl_Unreached.f resUnreached
  rw [implTimesOf_eq hw hk]
  simp only [Option.bind_some, resTimesOf]
  split
  · rename_i h
    have v := (validB_iff hw).1 h
    have := v.most
    rw [if_pos rfl]
    simp only
    rw [implUnr k _ (by rw [timesL_len]; omega) (by rw [timesL_len]; omega)]
    rw [whereTo_congr (p := fun t : Tm => decide (t.f2 < 0)) (q := fun t : Tm => decide (t.f3 < 0)) (fun i t ht => by have := (v.timesOK.sign ht).1; simp [this])]
  · rfl
theorem FnExactUnreached (l0 : List (S62)) (h00 : l0.length ≤ 9223372036854775807) (h01 : (∀ x ∈ l0, (Lit.int .i8 x.f0).wf = true ∧ (Lit.int .i8 x.f1).wf = true ∧ (Lit.int .i8 x.f2).wf = true)) : ∃ k, laws_FnExactUnreached.f k l0 = some true := by
  by_cases hL : l0.length ≤ 1048576
  · obtain ⟨n, hn, hn0, hn1⟩ := szShipS_small hL
    obtain ⟨k, hk⟩ : ∃ k, 1100000 < k := ⟨_, Nat.lt_succ_self _⟩
    refine ⟨k + 3, ?_⟩
    have hw := wf_map h01
    have hL' : (l0.map shipOf).length ≤ 1048576 := by simpa using hL
    have hr := resUnreached_len hw
    have e1 := fun j => toShipS_eq (k + j) l0 hL (by omega)
    have q1 := fun j => eqShipS_self (k + j) (l0.map shipOf) hL' (by omega)
    have s1 := fun j => specUnreached_eq (k := k + j) hw hL' (by omega)
    have i1 := fun j => implUnreached_eq (k := k + j) hw (by omega)
    have t1 := fun j => eqInt64S_self (k + j) (resUnreached (l0.map shipOf)).1 (by omega) (by omega)
    obtain ⟨m, hm, hm0⟩ := markShipS_pos (k + 2) (l0.map shipOf) hL' (by omega)
    obtain ⟨l, m', ha, hb, hm1⟩ := markInt64S_held (k + 1) (resUnreached (l0.map shipOf)).1 (by omega) (by omega)
    have hb0 := hb k (by omega)
    have hb1 := hb (k + 1) (by omega)
    unfold laws_FnExactUnreached.f
    rw [hn]
    simp only [Option.bind_some]
    rw [if_neg hn0]
    simp [laws_FnExactUnreached.j0, laws_FnExactUnreached.j1, laws_FnExactUnreached.j2, e1, q1, s1, i1, t1, hm, ha, hb0, hb1, Int.not_lt.2 hm0, Int.not_lt.2 hm1, e1 0, i1 0, t1 0, q1 0]
  · refine ⟨0, ?_⟩
    unfold laws_FnExactUnreached.f
    rw [szShipS_big h00 hL]
    rfl

end Go.Proofs.Ytclmedjighnkjaa.G.Pure
end

section

end
