/- The law's functions, their contracts, and the plain lemmas: texts of this claim, laid together. -/
import Derived.Test.YtidkniacmcbgiaaMFnExactCheckStory0
import Derived.Test.YtidkniacmcbgiaaMFnExactCheckStory1
import Derived.Test.YtidkniacmcbgiaaMFnExactCheckStory2
section
namespace Go.Proofs.Ytidkniacmcbgiaa.G
open Go.RowKit Go.Proofs.YtidkniacmcbgiaaW.PrintWords Go.Proofs.YtidkniacmcbgiaaW.PrintLast Go.Proofs.YtidkniacmcbgiaaW.PrintMore
attribute [local go_sem] max2_int min2_int max_two min_two max_three min_three max_four min_four
set_option linter.unusedVariables false
set_option linter.unusedSimpArgs false

/-! ### spec_ShiftLog: function 28 -/
mutual
def spec_ShiftLog.j1 : Nat → List (S73) → Int → Bool → Option ((List (S73)) × Int)
  | 0, _, _, _ => none
  | k + 1, x0, x1, x6 => if x6 = true then (spec_ShiftLog.l1 k x0 x1 (([] : List (S73))) 0) else (some ((([] : List (S73))), 2))
def spec_ShiftLog.l1 : Nat → List (S73) → Int → List (S73) → Int → Option ((List (S73)) × Int)
  | 0, _, _, _, _ => none
  | k + 1, x0, x1, x8, x9 => if x9 < (x0.length : Int) then (if 0 ≤ x9 then (if x8.length < 5864062014805 then (spec_ShiftLog.l1 k x0 x1 (x8 ++ [(⟨wrap64 (((rd_T73 x0 x9).f0) + x1), (rd_T73 x0 x9).f1, (rd_T73 x0 x9).f2⟩ : S73)]) (wrap64 (x9 + 1))) else (none)) else (none)) else (some (x8, 0))
def spec_ShiftLog.l0 : Nat → List (S73) → Int → Bool → Int → Option ((List (S73)) × Int)
  | 0, _, _, _, _ => none
  | k + 1, x0, x1, x6, x7 => if x7 < (x0.length : Int) then (if x6 = true then (if 0 ≤ x7 then ((spec_l07Time.f (wrap64 (((rd_T73 x0 x7).f0) + x1))).bind fun t107 => (spec_ShiftLog.l0 k x0 x1 t107 (wrap64 (x7 + 1)))) else (none)) else (spec_ShiftLog.j1 k x0 x1 x6)) else (spec_ShiftLog.j1 k x0 x1 x6)
end
def spec_ShiftLog.f (k : Nat) (l0 : List (S73)) (a1 : Int) : Option ((List (S73)) × Int) := (spec_l07Ok.f k l0).bind fun t101 => (if t101 = true then ((spec_l00In.f a1 (-100000) 100000).bind fun t105 => (spec_ShiftLog.l0 k l0 a1 t105 0)) else (some ((([] : List (S73))), 1)))
def spec_ShiftLog.T14 : Bool × List (List Nat × List Nat) := (true, [([], []), ([], []), ([], []), ([1, 2], [1, 2]), ([3], [3]), ([4], [4]), ([], []), ([5, 6], [5, 6]), ([], []), ([], []), ([8, 9], [8, 9]), ([10], [10]), ([11], [11]), ([], []), ([], []), ([13, 14], [13, 14]), ([15], [15]), ([16], [16]), ([7, 12, 17], [7, 12, 17]), ([18], [18]), ([0, 19], [0, 19]), ([20, 20, 0, 1, 2, 3, 4, 5, 6, 7, 8, 9, 10, 11, 12, 13, 14, 15, 16, 17, 18, 19, 20], [0, 20])])
def spec_ShiftLog.B14 : List Nat := [0, 0, 0, 6, 14, 30, 0, 126, 0, 0, 768, 1792, 3840, 0, 0, 24576, 57344, 122880, 262142, 524286, 1048575, 2097151]
theorem spec_ShiftLog.tab14 : rtab .any (opsOf Try.f28 14) = spec_ShiftLog.T14 := by kernel_rfl
theorem spec_ShiftLog.bits14 : waitsOk spec_ShiftLog.T14.2 spec_ShiftLog.B14 = true := by kernel_rfl
set_option maxHeartbeats 8000000 in
set_option maxRecDepth 100000 in
theorem spec_ShiftLog.calls (k : Nat) (A0 : Option Addr) (c0 : Nat) (l0 : List (S73)) (a1 : Int) (r1 : List (S73)) (r2 : Int) (w : World) (hr0 : Kd.C k73 w A0 l0.length l0) (hc0 : l0.length ≤ c0) (h : spec_ShiftLog.f k l0 a1 = some (r1, r2)) :
    Calls Try.prog 28 #[.slice A0 l0.length c0, .int .i64 a1] w fun e w' => ∃ v0_ : Value, e = .returned (.tuple #[v0_, .int .i64 r2]) ∧ Kd.R k73 73 w' w.heap.size (fun _ => True) v0_ r1 ∧ Below w.heap.size w w' := by
  have hu73 := Try.underlying73
  have HR0 := Aside0.mk hr0
  have HC0 := Aside0.mk hc0
  clear hr0 hc0
  have HB := Aside0.mk (Below.refl w.heap.size w)
  have H : ((spec_l07Ok.f k l0).bind fun t101 => (if t101 = true then ((spec_l00In.f a1 (-100000) 100000).bind fun t105 => (spec_ShiftLog.l0 k l0 a1 t105 0)) else (some ((([] : List (S73))), 1)))) = some (r1, r2) := h
  clear h
  replace H := Option.bind_eq_some_iff.mp H
  obtain ⟨t101, A30, H⟩ := H
  replace H : (if t101 = true then ((spec_l00In.f a1 (-100000) 100000).bind fun t105 => (spec_ShiftLog.l0 k l0 a1 t105 0)) else (some ((([] : List (S73))), 1))) = some (r1, r2) := H
  have A3 := Aside0.mk A30
  clear A30
  by_cases c4 : t101 = true
  · subst c4
    have H1 : ((spec_l00In.f a1 (-100000) 100000).bind fun t105 => (spec_ShiftLog.l0 k l0 a1 t105 0)) = some (r1, r2) := by rw [if_pos rfl] at H; exact H
    clear H
    have H := H1
    clear H1
    replace H := Option.bind_eq_some_iff.mp H
    obtain ⟨t105, A50, H⟩ := H
    replace H : (spec_ShiftLog.l0 k l0 a1 t105 0) = some (r1, r2) := H
    have A5 := Aside0.mk A50
    clear A50
    have HC6 := Aside0.mk H
    clear H
    go_enter Try.func28, Try.ntmps28
    go_upto_block 0 with (first | ((with_reducible refine gate_callee (f := 74) rfl ?_); refine goesL_ (some 11) rfl rfl Try.func74 (by kernel_rfl) rfl #[.slice A0 l0.length c0] rfl (by (try simp only [List.map_toArray, List.map_cons, List.map_nil]); first | done | rfl | (simp only [List.length_drop, List.length_take]; rfl)) ?_; (with_reducible refine (spec_l07Ok.calls k _ _ l0 true _ ?side1 ?side2 A3.out).mono ?_); (case side1 => repeat (first | exact HR0.out | (with_reducible refine Kd.C_alloc ?_ _) | (with_reducible refine Kd.C_drewN ?_ _) | (with_reducible refine Kd.C_drew ?_))); (case side2 => exact HC0.out); rintro e w7 ⟨rfl, hb⟩; refine ⟨_, rfl, ?_⟩; have n0_ := Aside0.mk (below_step (by repeat (first | (with_reducible first | exact HB.out | apply below_alloc | apply pw_below_drewN | apply below_drew1) | exact HB.out)) hb); clear HB; have HB := n0_; clear n0_; (try clear hb); (try clear hb2); (try clear hk); (try clear hi)) | ((with_reducible refine gate_callee (f := 77) rfl ?_); refine goesL_ (some 15) rfl rfl Try.func77 (by kernel_rfl) rfl #[.int .i64 a1, .int .i64 (-100000), .int .i64 100000] rfl (by (try simp only [List.map_toArray, List.map_cons, List.map_nil]); first | done | rfl | (simp only [List.length_drop, List.length_take]; rfl)) ?_; (with_reducible refine (spec_l00In.calls a1 (-100000) 100000 t105 _ A5.out).mono ?_); rintro e w' ⟨rfl, ⟨nd, rfl⟩⟩; refine ⟨_, rfl, ?_⟩))
    (try simp only [Act.put, List.setIfInBounds_toArray, List.set_cons_zero, List.set_cons_succ])
    go_cut [6] (fun v6 wc => ∃ (kq : Nat) (x6_5 : Bool), v6 = .bool x6_5 ∧ Aside0 (spec_ShiftLog.j1 kq l0 a1 x6_5 = some (r1, r2)) ∧ Aside0 (kq ≤ k) ∧ Aside0 (Below w.heap.size w wc))
    case first =>
      have H := HC6.out
      clear HC6
      have H' := Aside0.mk H
      clear H
      go_wp2
      go_loopg [6, 7] k (fun kq v6 v7 w' => ∃ (x6_1 : Bool) (x7_1 : Int), v6 = .bool x6_1 ∧ v7 = .int .i64 x7_1 ∧ Aside0 (spec_ShiftLog.l0 kq l0 a1 x6_1 x7_1 = some (r1, r2)) ∧ Aside0 (kq ≤ k) ∧ Aside0 (Below w.heap.size w w'))
      case atStart => exact ⟨(t105), (0), (by first | rfl | (simp only [IntKind.wrap_i64, wrap64]; done) | (simp; done) | (simp [*]; done)), (by first | rfl | (simp only [IntKind.wrap_i64, wrap64]; done) | (simp; done) | (simp [*]; done)), H', ⟨Nat.le_refl _⟩, ⟨by repeat (first | (with_reducible first | exact HB.out | apply below_alloc | apply pw_below_drewN | apply below_drew1) | exact HB.out)⟩⟩
      case round =>
        clear H'
        try clear c2
        try clear p2
        try clear c4
        try clear c7
        obtain ⟨x6_1, x7_1, rfl, rfl, HA, HK1, HB⟩ := hrel
        cases gk with
        | zero => exact absurd HA.out (by simp [spec_ShiftLog.l0])
        | succ k1 =>
          have H := HA.out
          clear HA
          simp only [spec_ShiftLog.l0] at H
          by_cases c8 : x7_1 < (l0.length : Int)
          · rw [if_pos c8] at H
            have c8b0 : decide (x7_1 < (l0.length : Int)) = true := decide_eq_true c8
            clear c8
            (first | rw [c8b0] | (simp only [i64_w, i32_w]; rw [c8b0]) | skip)
            by_cases c9 : x6_1 = true
            · subst c9
              have H1 : (if 0 ≤ x7_1 then ((spec_l07Time.f (wrap64 (((rd_T73 l0 x7_1).f0) + a1))).bind fun t107 => (spec_ShiftLog.l0 k1 l0 a1 t107 (wrap64 (x7_1 + 1)))) else (none)) = some (r1, r2) := by rw [if_pos rfl] at H; exact H
              clear H
              have H := H1
              clear H1
              by_cases c10 : 0 ≤ x7_1
              · rw [if_pos c10] at H
                have c10b0 : decide (0 ≤ x7_1) = true := decide_eq_true c10
                clear c10
                replace H := Option.bind_eq_some_iff.mp H
                obtain ⟨t107, A110, H⟩ := H
                replace H : (spec_ShiftLog.l0 k1 l0 a1 t107 (wrap64 (x7_1 + 1))) = some (r1, r2) := H
                have A11 := Aside0.mk A110
                clear A110
                have H' := Aside0.mk H
                clear H
                have p106 : 0 ≤ (x7_1 : Int) := of_decide_eq_true (by first | (with_reducible assumption) | assumption)
                have q106 : x7_1 < (l0.length : Int) := of_decide_eq_true (by first | (with_reducible assumption) | assumption)
                obtain ⟨ad106, e106, hx106_0, hx106_1, hx106_2⟩ := at_T73 HR0.out x7_1 p106 q106
                cases e106
                replace hx106_0 := (HB.out.cell (World.block_lt_of_cell? w _ hx106_0)).trans hx106_0
                replace hx106_1 := (HB.out.cell (World.block_lt_of_cell? w _ hx106_1)).trans hx106_1
                replace hx106_2 := (HB.out.cell (World.block_lt_of_cell? w _ hx106_2)).trans hx106_2
                replace p106 := eq_true p106
                replace q106 := eq_true q106
                go_wp2_with (first | ((with_reducible refine gate_callee (f := 78) rfl ?_); refine goesL_ (some 32) rfl rfl Try.func78 (by kernel_rfl) rfl #[.int .i64 (wrap64 (((rd_T73 l0 x7_1).f0) + a1))] rfl (by (try simp only [List.map_toArray, List.map_cons, List.map_nil]); first | done | rfl | (simp only [List.length_drop, List.length_take]; rfl)) ?_; (with_reducible refine (spec_l07Time.calls (wrap64 (((rd_T73 l0 x7_1).f0) + a1)) t107 _ A11.out).mono ?_); rintro e w' ⟨rfl, ⟨nd, rfl⟩⟩; refine ⟨_, rfl, ?_⟩))
                go_roundg k1
                case measure => have := HK1.out; omega
                case rel => exact ⟨(t107), (wrap64 (x7_1 + 1)), (by first | rfl | (simp only [IntKind.wrap_i64, wrap64]; done) | (simp; done) | (simp [*]; done)), (by first | rfl | (simp only [IntKind.wrap_i64, wrap64]; done) | (simp; done) | (simp [*]; done)), H', ⟨by have := HK1.out; omega⟩, ⟨by repeat (first | (with_reducible first | exact HB.out | apply below_alloc | apply pw_below_drewN | apply below_drew1) | exact HB.out)⟩⟩
              · rw [if_neg c10] at H
                exact absurd H (by simp)
            · replace c9 := Bool.eq_false_iff.mpr c9
              subst c9
              have H1 : (spec_ShiftLog.j1 k1 l0 a1 false) = some (r1, r2) := by rw [if_neg (show ¬ (false = true) by decide)] at H; exact H
              clear H
              have H := H1
              clear H1
              have H' := Aside0.mk H
              clear H
              go_wp2
              go_meet
              case rel => exact ⟨_, (false), (by first | rfl | (simp only [IntKind.wrap_i64, wrap64]; done) | (simp; done) | (simp [*]; done)), H', ⟨by have := HK1.out; first | omega | exact Nat.le_refl _⟩, ⟨by repeat (first | (with_reducible first | exact HB.out | apply below_alloc | apply pw_below_drewN | apply below_drew1) | exact HB.out)⟩⟩
          · rw [if_neg c8] at H
            have c8b0 : decide (x7_1 < (l0.length : Int)) = false := decide_eq_false c8
            clear c8
            (first | rw [c8b0] | (simp only [i64_w, i32_w]; rw [c8b0]) | skip)
            have H' := Aside0.mk H
            clear H
            go_wp2
            go_meet
            case rel => exact ⟨_, (x6_1), (by first | rfl | (simp only [IntKind.wrap_i64, wrap64]; done) | (simp; done) | (simp [*]; done)), H', ⟨by have := HK1.out; first | omega | exact Nat.le_refl _⟩, ⟨by repeat (first | (with_reducible first | exact HB.out | apply below_alloc | apply pw_below_drewN | apply below_drew1) | exact HB.out)⟩⟩
    case rest =>
      clear HC6
      try clear c1
      try clear p1
      try clear q1
      try clear hx1
      try clear c2
      try clear p2
      try clear c4
      try clear p6
      try clear c7
      try clear c8
      try clear c8b0
      try clear c9
      try clear c10
      try clear c10b0
      try clear p10
      try clear q10
      try clear hx10
      try clear hx106_0
      try clear hx106_1
      try clear hx106_2
      try clear p106
      try clear p2
      try clear q106
      obtain ⟨kq, x6_5, rfl, HA, HJ5, HB⟩ := hcut
      cases kq with
      | zero => exact absurd HA.out (by simp [spec_ShiftLog.j1])
      | succ kj5 =>
        have H := HA.out
        clear HA
        simp only [spec_ShiftLog.j1] at H
        by_cases c12 : x6_5 = true
        · subst c12
          have H1 : (spec_ShiftLog.l1 kj5 l0 a1 (([] : List (S73))) 0) = some (r1, r2) := by rw [if_pos rfl] at H; exact H
          clear H
          have H := H1
          clear H1
          obtain ⟨y111, hy111⟩ : ∃ y_ : List (S73), y_ = (([] : List (S73))) := ⟨_, rfl⟩
          replace H : (spec_ShiftLog.l1 kj5 l0 a1 y111 0) = some (r1, r2) := by first | (rw [hy111]; with_reducible exact H) | (have H2_ := (Option.bind_some _ _).symm.trans H; rw [hy111]; with_reducible exact H2_) | (have H2_ := (Option.bind_some _ _).symm.trans H; with_reducible exact H2_) | with_reducible exact H | (rw [hy111]; exact H) | exact H
          have Ny111 := Aside0.mk hy111
          clear hy111
          have H' := Aside0.mk H
          clear H
          go_wp2_with (first | ((with_reducible refine gate_dst (N := 36) rfl ?_); refine Kd.R_lit k73 _ 73 ?hg (N := 36) ?hd (xs := ([] : List (S73))) (inner := []) (ok := fun _ => True) (okp := fun _ => True) ?hr ?hp (fun _ hk => hk) trivial (Below.refl _ _) (Nat.le_refl _) (by simp) ?_; (case hd => rfl); (case hg => rfl); (case hr => first | (go_simp; done) | (go_simp; rfl)); (case hp => exact (Reps.none _ _)); intro v112 w13 ho14 hb hg_ hnew_; clear hg_ hnew_; (first | rw [← Ny111.out] at ho14 | (simp only [Int.reduceToNat] at ho14; rw [← Ny111.out] at ho14)); have n0_ := Aside0.mk (Kd.R_lower ho14 (below_size (by repeat (first | (with_reducible first | exact HB.out | apply below_alloc | apply pw_below_drewN | apply below_drew1) | exact HB.out)))); have n1_ := Aside0.mk (below_step (by repeat (first | (with_reducible first | exact HB.out | apply below_alloc | apply pw_below_drewN | apply below_drew1) | exact HB.out)) hb); clear HB; have HO113 := n0_; have HB := n1_; clear n0_ n1_; clear hb ho14))
          go_loopg [8, 9] kj5 (fun kq v8 v9 w' => ∃ (x8_2 : List (S73)) (x9_2 : Int), v9 = .int .i64 x9_2 ∧ Aside0 (spec_ShiftLog.l1 kq l0 a1 x8_2 x9_2 = some (r1, r2)) ∧ Aside0 (kq ≤ kj5) ∧ Aside0 (Kd.R k73 73 w' w.heap.size (fun _ => True) v8 x8_2) ∧ Aside0 (Below w.heap.size w w'))
          case atStart => exact ⟨(y111), (0), (by first | rfl | (simp only [IntKind.wrap_i64, wrap64]; done) | (simp; done) | (simp [*]; done)), H', ⟨Nat.le_refl _⟩, ⟨by (with_reducible repeat (first | apply Kd.R_alloc | apply Kd.R_drewN | apply Kd.R_drew)); exact HO113.out⟩, ⟨by repeat (first | (with_reducible first | exact HB.out | apply below_alloc | apply pw_below_drewN | apply below_drew1) | exact HB.out)⟩⟩
          case round =>
            clear H'
            try clear c1
            try clear p1
            try clear q1
            try clear hx1
            try clear c2
            try clear p2
            try clear c4
            try clear p6
            try clear c7
            try clear c8
            try clear c8b0
            try clear c9
            try clear c10
            try clear c10b0
            try clear p10
            try clear q10
            try clear hx10
            try clear c12
            try clear hx106_0
            try clear hx106_1
            try clear hx106_2
            try clear p1
            try clear p10
            try clear p106
            try clear p2
            try clear p6
            try clear q1
            try clear q10
            try clear q106
            obtain ⟨x8_2, x9_2, rfl, HA, HK2, HO_8, HB⟩ := hrel
            cases gk with
            | zero => exact absurd HA.out (by simp [spec_ShiftLog.l1])
            | succ k2 =>
              have H := HA.out
              clear HA
              simp only [spec_ShiftLog.l1] at H
              by_cases c15 : x9_2 < (l0.length : Int)
              · rw [if_pos c15] at H
                have c15b0 : decide (x9_2 < (l0.length : Int)) = true := decide_eq_true c15
                clear c15
                by_cases c16 : 0 ≤ x9_2
                · rw [if_pos c16] at H
                  have c16b0 : decide (0 ≤ x9_2) = true := decide_eq_true c16
                  clear c16
                  by_cases c17 : x8_2.length < 5864062014805
                  · rw [if_pos c17] at H
                    have LMc17 := Aside0.mk c17
                    clear c17
                    obtain ⟨y117, hy117⟩ : ∃ y_ : List (S73), y_ = (x8_2 ++ [(⟨wrap64 (((rd_T73 l0 x9_2).f0) + a1), (rd_T73 l0 x9_2).f1, (rd_T73 l0 x9_2).f2⟩ : S73)]) := ⟨_, rfl⟩
                    replace H : (spec_ShiftLog.l1 k2 l0 a1 y117 (wrap64 (x9_2 + 1))) = some (r1, r2) := by first | (rw [hy117]; with_reducible exact H) | (have H2_ := (Option.bind_some _ _).symm.trans H; rw [hy117]; with_reducible exact H2_) | (have H2_ := (Option.bind_some _ _).symm.trans H; with_reducible exact H2_) | with_reducible exact H | (rw [hy117]; exact H) | exact H
                    have Ny117 := Aside0.mk hy117
                    clear hy117
                    have H' := Aside0.mk H
                    clear H
                    try go_wp2
                    have n0_ := Aside0.mk (Kd.R_drew HO_8.out)
                    have n1_ := Aside0.mk (below_drew1 HB.out)
                    clear HO_8
                    clear HB
                    have HO_8 := n0_
                    have HB := n1_
                    clear n0_ n1_
                    have p114 : 0 ≤ (x9_2 : Int) := of_decide_eq_true (by first | (with_reducible assumption) | assumption)
                    have q114 : x9_2 < (l0.length : Int) := of_decide_eq_true (by first | (with_reducible assumption) | assumption)
                    obtain ⟨ad114, e114, hx114_0, hx114_1, hx114_2⟩ := at_T73 HR0.out x9_2 p114 q114
                    have hw114_2 := hx114_2
                    have hw114_1 := hx114_1
                    have hw114_0 := hx114_0
                    cases e114
                    replace hx114_0 := (HB.out.cell (World.block_lt_of_cell? w _ hx114_0)).trans hx114_0
                    replace hx114_1 := (HB.out.cell (World.block_lt_of_cell? w _ hx114_1)).trans hx114_1
                    replace hx114_2 := (HB.out.cell (World.block_lt_of_cell? w _ hx114_2)).trans hx114_2
                    replace p114 := eq_true p114
                    replace q114 := eq_true q114
                    have p115 : 0 ≤ (x9_2 : Int) := of_decide_eq_true (by first | (with_reducible assumption) | assumption)
                    have q115 : x9_2 < (l0.length : Int) := of_decide_eq_true (by first | (with_reducible assumption) | assumption)
                    obtain ⟨ad115, e115, hx115_0, hx115_1, hx115_2⟩ := at_T73 HR0.out x9_2 p115 q115
                    have hw115_2 := hx115_2
                    have hw115_1 := hx115_1
                    have hw115_0 := hx115_0
                    obtain rfl : ad114 = ad115 := (by injection e115)
                    replace hx115_0 := (HB.out.cell (World.block_lt_of_cell? w _ hx115_0)).trans hx115_0
                    replace hx115_1 := (HB.out.cell (World.block_lt_of_cell? w _ hx115_1)).trans hx115_1
                    replace hx115_2 := (HB.out.cell (World.block_lt_of_cell? w _ hx115_2)).trans hx115_2
                    replace p115 := eq_true p115
                    replace q115 := eq_true q115
                    have p116 : 0 ≤ (x9_2 : Int) := of_decide_eq_true (by first | (with_reducible assumption) | assumption)
                    have q116 : x9_2 < (l0.length : Int) := of_decide_eq_true (by first | (with_reducible assumption) | assumption)
                    obtain ⟨ad116, e116, hx116_0, hx116_1, hx116_2⟩ := at_T73 HR0.out x9_2 p116 q116
                    have hw116_2 := hx116_2
                    have hw116_1 := hx116_1
                    have hw116_0 := hx116_0
                    obtain rfl : ad114 = ad116 := (by injection e116)
                    replace hx116_0 := (HB.out.cell (World.block_lt_of_cell? w _ hx116_0)).trans hx116_0
                    replace hx116_1 := (HB.out.cell (World.block_lt_of_cell? w _ hx116_1)).trans hx116_1
                    replace hx116_2 := (HB.out.cell (World.block_lt_of_cell? w _ hx116_2)).trans hx116_2
                    replace p116 := eq_true p116
                    replace q116 := eq_true q116
                    refine start_ (n := 22) (S := fun w' => w'.cell? (ad114.add ((x9_2).toNat * 3)) = some (.int .i64 ((rd_T73 l0 x9_2).f0)) ∧ w'.cell? ⟨(ad114.add ((x9_2).toNat * 3)).block, (ad114.add ((x9_2).toNat * 3)).off + 1, none⟩ = some (.int .i64 ((rd_T73 l0 x9_2).f1)) ∧ w'.cell? ⟨(ad114.add ((x9_2).toNat * 3)).block, (ad114.add ((x9_2).toNat * 3)).off + 2, none⟩ = some (.bool ((rd_T73 l0 x9_2).f2)) ∧ w'.cell? (ad114.add ((x9_2).toNat * 3)) = some (.int .i64 ((rd_T73 l0 x9_2).f0)) ∧ w'.cell? ⟨(ad114.add ((x9_2).toNat * 3)).block, (ad114.add ((x9_2).toNat * 3)).off + 1, none⟩ = some (.int .i64 ((rd_T73 l0 x9_2).f1)) ∧ w'.cell? ⟨(ad114.add ((x9_2).toNat * 3)).block, (ad114.add ((x9_2).toNat * 3)).off + 2, none⟩ = some (.bool ((rd_T73 l0 x9_2).f2)) ∧ w'.cell? (ad114.add ((x9_2).toNat * 3)) = some (.int .i64 ((rd_T73 l0 x9_2).f0)) ∧ w'.cell? ⟨(ad114.add ((x9_2).toNat * 3)).block, (ad114.add ((x9_2).toNat * 3)).off + 1, none⟩ = some (.int .i64 ((rd_T73 l0 x9_2).f1)) ∧ w'.cell? ⟨(ad114.add ((x9_2).toNat * 3)).block, (ad114.add ((x9_2).toNat * 3)).off + 2, none⟩ = some (.bool ((rd_T73 l0 x9_2).f2))) (ds := []) #[false, false, false, false, false, false, false, false, false, false, false, false, false, false, false, false, false, false, false, false, false, false] (by kernel_rfl) rfl rfl ⟨((HB.out.cell (World.block_lt_of_cell? w _ hw114_0)).trans hw114_0), ((HB.out.cell (World.block_lt_of_cell? w _ hw114_1)).trans hw114_1), ((HB.out.cell (World.block_lt_of_cell? w _ hw114_2)).trans hw114_2), ((HB.out.cell (World.block_lt_of_cell? w _ hw115_0)).trans hw115_0), ((HB.out.cell (World.block_lt_of_cell? w _ hw115_1)).trans hw115_1), ((HB.out.cell (World.block_lt_of_cell? w _ hw115_2)).trans hw115_2), ((HB.out.cell (World.block_lt_of_cell? w _ hw116_0)).trans hw116_0), ((HB.out.cell (World.block_lt_of_cell? w _ hw116_1)).trans hw116_1), ((HB.out.cell (World.block_lt_of_cell? w _ hw116_2)).trans hw116_2)⟩ (fun hHeld => ?_); refine with_tabW spec_ShiftLog.tab14 spec_ShiftLog.bits14 (fun HT_ HW_ => ?_)
                    generalize wr.drew = w18 at HO_8 HB hx114_0 hx114_1 hx114_2 hx115_0 hx115_1 hx115_2 hx116_0 hx116_1 hx116_2 hHeld ⊢
                    refine pure_ (i := 0) (N := some 43) (v := ?_) (a' := ?_) #[true, false, false, false, false, false, false, false, false, false, false, false, false, false, false, false, false, false, false, false, false, false] rfl rfl (any_of HT_.out (by kernel_rfl)) (fun _ _ _ h => h) (Or.inl ⟨by rfl, ?_⟩) ?_ ?_
                    rotate_left
                    · intro w'
                      go_simp
                      with_reducible rfl
                    rotate_left
                    · simp only [Act.put, List.setIfInBounds_toArray, List.set_cons_zero, List.set_cons_succ, i64_w, i32_w]
                      rfl
                    refine pure_ (i := 1) (N := some 44) (v := ?_) (a' := ?_) #[true, true, false, false, false, false, false, false, false, false, false, false, false, false, false, false, false, false, false, false, false, false] rfl rfl (any_of HT_.out (by kernel_rfl)) (fun _ _ _ h => h) (Or.inl ⟨by rfl, ?_⟩) ?_ ?_
                    rotate_left
                    · intro w'
                      go_simp
                      with_reducible rfl
                    rotate_left
                    · simp only [Act.put, List.setIfInBounds_toArray, List.set_cons_zero, List.set_cons_succ, i64_w, i32_w]
                      rfl
                    refine pure_ (i := 2) (N := some 45) (v := ?_) (a' := ?_) #[true, true, true, false, false, false, false, false, false, false, false, false, false, false, false, false, false, false, false, false, false, false] rfl rfl (any_of HT_.out (by kernel_rfl)) (fun _ _ _ h => h) (Or.inl ⟨by rfl, ?_⟩) ?_ ?_
                    rotate_left
                    · intro w'
                      go_simp
                      with_reducible rfl
                    rotate_left
                    · simp only [Act.put, List.setIfInBounds_toArray, List.set_cons_zero, List.set_cons_succ, i64_w, i32_w]
                      rfl
                    refine pure_ (i := 3) (N := some 46) (v := ?_) (a' := ?_) #[true, true, true, true, false, false, false, false, false, false, false, false, false, false, false, false, false, false, false, false, false, false] rfl rfl (any_of HT_.out (by kernel_rfl)) (fun _ _ _ h => h) (Or.inl ⟨by rfl, ?_⟩) ?_ ?_
                    rotate_left
                    · intro w'
                      go_simp
                      with_reducible rfl
                    rotate_left
                    · simp only [Act.put, List.setIfInBounds_toArray, List.set_cons_zero, List.set_cons_succ, i64_w, i32_w]
                      rfl
                    refine pure_ (i := 4) (N := some 47) (v := ?_) (a' := ?_) #[true, true, true, true, true, false, false, false, false, false, false, false, false, false, false, false, false, false, false, false, false, false] rfl rfl (any_of HT_.out (by kernel_rfl)) (fun _ _ _ h => h) (Or.inl ⟨by rfl, ?_⟩) ?_ ?_
                    rotate_left
                    · intro w'
                      go_simp
                      with_reducible rfl
                    rotate_left
                    · simp only [Act.put, List.setIfInBounds_toArray, List.set_cons_zero, List.set_cons_succ, i64_w, i32_w]
                      rfl
                    refine pure_ (i := 6) (N := some 49) (v := ?_) (a' := ?_) #[true, true, true, true, true, false, true, false, false, false, false, false, false, false, false, false, false, false, false, false, false, false] rfl rfl (any_of HT_.out (by kernel_rfl)) (fun _ _ _ h => h) (Or.inl ⟨by rfl, ?_⟩) ?_ ?_
                    rotate_left
                    · intro w'
                      go_simp
                      with_reducible rfl
                    rotate_left
                    · simp only [Act.put, List.setIfInBounds_toArray, List.set_cons_zero, List.set_cons_succ, i64_w, i32_w]
                      rfl
                    refine pure_ (i := 8) (N := some 51) (v := ?_) (a' := ?_) #[true, true, true, true, true, false, true, false, true, false, false, false, false, false, false, false, false, false, false, false, false, false] rfl rfl (any_of HT_.out (by kernel_rfl)) (fun _ _ _ h => h) (Or.inl ⟨by rfl, ?_⟩) ?_ ?_
                    rotate_left
                    · intro w'
                      go_simp
                      with_reducible rfl
                    rotate_left
                    · simp only [Act.put, List.setIfInBounds_toArray, List.set_cons_zero, List.set_cons_succ, i64_w, i32_w]
                      rfl
                    refine pure_ (i := 9) (N := some 52) (v := ?_) (a' := ?_) #[true, true, true, true, true, false, true, false, true, true, false, false, false, false, false, false, false, false, false, false, false, false] rfl rfl (any_of HT_.out (by kernel_rfl)) (fun _ _ _ h => h) (Or.inl ⟨by rfl, ?_⟩) ?_ ?_
                    rotate_left
                    · intro w'
                      go_simp
                      with_reducible rfl
                    rotate_left
                    · simp only [Act.put, List.setIfInBounds_toArray, List.set_cons_zero, List.set_cons_succ, i64_w, i32_w]
                      rfl
                    refine pure_ (i := 10) (N := some 53) (v := ?_) (a' := ?_) #[true, true, true, true, true, false, true, false, true, true, true, false, false, false, false, false, false, false, false, false, false, false] rfl rfl (any_of HT_.out (by kernel_rfl)) (fun _ _ _ h => h) (Or.inl ⟨by rfl, ?_⟩) ?_ ?_
                    rotate_left
                    · intro w'
                      go_simp
                      with_reducible rfl
                    rotate_left
                    · simp only [Act.put, List.setIfInBounds_toArray, List.set_cons_zero, List.set_cons_succ, i64_w, i32_w]
                      rfl
                    refine pure_ (i := 11) (N := some 54) (v := ?_) (a' := ?_) #[true, true, true, true, true, false, true, false, true, true, true, true, false, false, false, false, false, false, false, false, false, false] rfl rfl (any_of HT_.out (by kernel_rfl)) (fun _ _ _ h => h) (Or.inl ⟨by rfl, ?_⟩) ?_ ?_
                    rotate_left
                    · intro w'
                      go_simp
                      with_reducible rfl
                    rotate_left
                    · simp only [Act.put, List.setIfInBounds_toArray, List.set_cons_zero, List.set_cons_succ, i64_w, i32_w]
                      rfl
                    refine pure_ (i := 13) (N := some 56) (v := ?_) (a' := ?_) #[true, true, true, true, true, false, true, false, true, true, true, true, false, true, false, false, false, false, false, false, false, false] rfl rfl (any_of HT_.out (by kernel_rfl)) (fun _ _ _ h => h) (Or.inl ⟨by rfl, ?_⟩) ?_ ?_
                    rotate_left
                    · intro w'
                      go_simp
                      with_reducible rfl
                    rotate_left
                    · simp only [Act.put, List.setIfInBounds_toArray, List.set_cons_zero, List.set_cons_succ, i64_w, i32_w]
                      rfl
                    refine pure_ (i := 14) (N := some 57) (v := ?_) (a' := ?_) #[true, true, true, true, true, false, true, false, true, true, true, true, false, true, true, false, false, false, false, false, false, false] rfl rfl (any_of HT_.out (by kernel_rfl)) (fun _ _ _ h => h) (Or.inl ⟨by rfl, ?_⟩) ?_ ?_
                    rotate_left
                    · intro w'
                      go_simp
                      with_reducible rfl
                    rotate_left
                    · simp only [Act.put, List.setIfInBounds_toArray, List.set_cons_zero, List.set_cons_succ, i64_w, i32_w]
                      rfl
                    refine pure_ (i := 15) (N := some 58) (v := ?_) (a' := ?_) #[true, true, true, true, true, false, true, false, true, true, true, true, false, true, true, true, false, false, false, false, false, false] rfl rfl (any_of HT_.out (by kernel_rfl)) (fun _ _ _ h => h) (Or.inl ⟨by rfl, ?_⟩) ?_ ?_
                    rotate_left
                    · intro w'
                      go_simp
                      with_reducible rfl
                    rotate_left
                    · simp only [Act.put, List.setIfInBounds_toArray, List.set_cons_zero, List.set_cons_succ, i64_w, i32_w]
                      rfl
                    refine pure_ (i := 16) (N := some 59) (v := ?_) (a' := ?_) #[true, true, true, true, true, false, true, false, true, true, true, true, false, true, true, true, true, false, false, false, false, false] rfl rfl (any_of HT_.out (by kernel_rfl)) (fun _ _ _ h => h) (Or.inl ⟨by rfl, ?_⟩) ?_ ?_
                    rotate_left
                    · intro w'
                      go_simp
                      with_reducible rfl
                    rotate_left
                    · simp only [Act.put, List.setIfInBounds_toArray, List.set_cons_zero, List.set_cons_succ, i64_w, i32_w]
                      rfl
                    refine take_ (i := 5) (N := some 48) (v := ?_) (a' := ?_) #[true, true, true, true, true, true, true, false, true, true, true, true, false, true, true, true, true, false, false, false, false, false] rfl rfl (take_ofW HT_.out HW_.out (by kernel_rfl)) (fun _ _ _ h => h) (Or.inl ⟨by rfl, ?_⟩) hHeld ?_ ?_
                    rotate_left
                    · rintro w' ⟨s0, s1, s2, s3, s4, s5, s6, s7, s8⟩
                      go_simp
                      with_reducible rfl
                    rotate_left
                    · simp only [Act.put, List.setIfInBounds_toArray, List.set_cons_zero, List.set_cons_succ, i64_w, i32_w]
                      rfl
                    refine pure_ (i := 7) (N := some 50) (v := ?_) (a' := ?_) #[true, true, true, true, true, true, true, true, true, true, true, true, false, true, true, true, true, false, false, false, false, false] rfl rfl (any_of HT_.out (by kernel_rfl)) (fun _ _ _ h => h) (Or.inl ⟨by rfl, ?_⟩) ?_ ?_
                    rotate_left
                    · intro w'
                      go_simp
                      with_reducible rfl
                    rotate_left
                    · simp only [Act.put, List.setIfInBounds_toArray, List.set_cons_zero, List.set_cons_succ, i64_w, i32_w]
                      rfl
                    refine take_ (i := 12) (N := some 55) (v := ?_) (a' := ?_) #[true, true, true, true, true, true, true, true, true, true, true, true, true, true, true, true, true, false, false, false, false, false] rfl rfl (take_ofW HT_.out HW_.out (by kernel_rfl)) (fun _ _ _ h => h) (Or.inl ⟨by rfl, ?_⟩) hHeld ?_ ?_
                    rotate_left
                    · rintro w' ⟨s0, s1, s2, s3, s4, s5, s6, s7, s8⟩
                      go_simp
                      with_reducible rfl
                    rotate_left
                    · simp only [Act.put, List.setIfInBounds_toArray, List.set_cons_zero, List.set_cons_succ, i64_w, i32_w]
                      rfl
                    refine take_ (i := 17) (N := some 60) (v := ?_) (a' := ?_) #[true, true, true, true, true, true, true, true, true, true, true, true, true, true, true, true, true, true, false, false, false, false] rfl rfl (take_ofW HT_.out HW_.out (by kernel_rfl)) (fun _ _ _ h => h) (Or.inl ⟨by rfl, ?_⟩) hHeld ?_ ?_
                    rotate_left
                    · rintro w' ⟨s0, s1, s2, s3, s4, s5, s6, s7, s8⟩
                      go_simp
                      with_reducible rfl
                    rotate_left
                    · simp only [Act.put, List.setIfInBounds_toArray, List.set_cons_zero, List.set_cons_succ, i64_w, i32_w]
                      rfl
                    refine pure_ (i := 18) (N := some 61) (v := ?_) (a' := ?_) #[true, true, true, true, true, true, true, true, true, true, true, true, true, true, true, true, true, true, true, false, false, false] rfl rfl (any_of HT_.out (by kernel_rfl)) (fun _ _ _ h => h) (Or.inl ⟨by rfl, ?_⟩) ?_ ?_
                    rotate_left
                    · intro w'
                      go_simp
                      with_reducible rfl
                    rotate_left
                    · simp only [Act.put, List.setIfInBounds_toArray, List.set_cons_zero, List.set_cons_succ, i64_w, i32_w]
                      rfl
                    refine one_ (i := 19) (N := some 62) #[true, true, true, true, true, true, true, true, true, true, true, true, true, true, true, true, true, true, true, true, false, false] rfl rfl (one_of HT_.out (by kernel_rfl)) (by decide) (fun K hK => ?_)
                    refine value_ (w1 := ?_) (v := ?_) (by rfl) rfl ?_ ?_
                    rotate_left 2
                    · go_simp
                      constructor
                      · rfl
                      · rfl
                    refine hK.out _ _ ⟨(World.cell?_alloc_lt _ _ _ (World.block_lt_of_cell? _ _ (((HB.out.cell (World.block_lt_of_cell? w _ hw114_0)).trans hw114_0)))).trans (((HB.out.cell (World.block_lt_of_cell? w _ hw114_0)).trans hw114_0)), (World.cell?_alloc_lt _ _ _ (World.block_lt_of_cell? _ _ (((HB.out.cell (World.block_lt_of_cell? w _ hw114_1)).trans hw114_1)))).trans (((HB.out.cell (World.block_lt_of_cell? w _ hw114_1)).trans hw114_1)), (World.cell?_alloc_lt _ _ _ (World.block_lt_of_cell? _ _ (((HB.out.cell (World.block_lt_of_cell? w _ hw114_2)).trans hw114_2)))).trans (((HB.out.cell (World.block_lt_of_cell? w _ hw114_2)).trans hw114_2)), (World.cell?_alloc_lt _ _ _ (World.block_lt_of_cell? _ _ (((HB.out.cell (World.block_lt_of_cell? w _ hw115_0)).trans hw115_0)))).trans (((HB.out.cell (World.block_lt_of_cell? w _ hw115_0)).trans hw115_0)), (World.cell?_alloc_lt _ _ _ (World.block_lt_of_cell? _ _ (((HB.out.cell (World.block_lt_of_cell? w _ hw115_1)).trans hw115_1)))).trans (((HB.out.cell (World.block_lt_of_cell? w _ hw115_1)).trans hw115_1)), (World.cell?_alloc_lt _ _ _ (World.block_lt_of_cell? _ _ (((HB.out.cell (World.block_lt_of_cell? w _ hw115_2)).trans hw115_2)))).trans (((HB.out.cell (World.block_lt_of_cell? w _ hw115_2)).trans hw115_2)), (World.cell?_alloc_lt _ _ _ (World.block_lt_of_cell? _ _ (((HB.out.cell (World.block_lt_of_cell? w _ hw116_0)).trans hw116_0)))).trans (((HB.out.cell (World.block_lt_of_cell? w _ hw116_0)).trans hw116_0)), (World.cell?_alloc_lt _ _ _ (World.block_lt_of_cell? _ _ (((HB.out.cell (World.block_lt_of_cell? w _ hw116_1)).trans hw116_1)))).trans (((HB.out.cell (World.block_lt_of_cell? w _ hw116_1)).trans hw116_1)), (World.cell?_alloc_lt _ _ _ (World.block_lt_of_cell? _ _ (((HB.out.cell (World.block_lt_of_cell? w _ hw116_2)).trans hw116_2)))).trans (((HB.out.cell (World.block_lt_of_cell? w _ hw116_2)).trans hw116_2))⟩ (fun hHeld => ?_)
                    clear hK K
                    refine norm_ (a' := ?_) ?_ ?_
                    rotate_left
                    · show Act.put _ (some 62) _ = _
                      simp only [Act.put, List.setIfInBounds_toArray, List.set_cons_zero, List.set_cons_succ, i64_w, i32_w]
                      rfl
                    refine one_ (i := 20) (N := some 63) #[true, true, true, true, true, true, true, true, true, true, true, true, true, true, true, true, true, true, true, true, true, false] rfl rfl (one_of HT_.out (by kernel_rfl)) (by decide) (fun K hK => ?_)
                    refine Kd.R_append_step k73 (w0 := w) w.heap.size (by rfl) (.tmp 43) (.tmp 62) 26 73 (.agg #[(.int .i64 0), (.int .i64 0), (.bool false)]) 24 rfl Try.underlying26 info73 rfl (by decide) (by omega) u8 x8_2 (⟨wrap64 (((rd_T73 l0 x9_2).f0) + a1), (rd_T73 l0 x9_2).f1, (rd_T73 l0 x9_2).f2⟩ : S73) [.int .i64 (wrap64 (((rd_T73 l0 x9_2).f0) + a1)), .int .i64 ((rd_T73 l0 x9_2).f1), .bool ((rd_T73 l0 x9_2).f2)] (fun _ => True) (fun _ => False) rfl rfl ?aP (fun _ hk => hk.elim) ?aF ?aO ?aB ?aS ?aL ?_
                    (case aP => exact k73_mkM _ _ _ (⟨wrap64 (((rd_T73 l0 x9_2).f0) + a1), (rd_T73 l0 x9_2).f1, (rd_T73 l0 x9_2).f2⟩ : S73))
                    (case aB => exact (by repeat (first | (with_reducible first | exact HB.out | apply below_alloc | apply pw_below_drewN | apply below_drew1) | exact HB.out)))
                    (case aF => exact (fun _ _ => trivial))
                    (case aO => exact (by (with_reducible repeat (first | apply Kd.R_alloc | apply Kd.R_drewN | apply Kd.R_drew)); exact HO_8.out))
                    (case aS => exact (below_size (by repeat (first | (with_reducible first | exact HB.out | apply below_alloc | apply pw_below_drewN | apply below_drew1) | exact HB.out))))
                    (case aL => have := LMc17.out; omega)
                    intro v118 w19 ho hb hg hat
                    rw [← Ny117.out] at ho
                    have n0_ := Aside0.mk (hb)
                    have n1_ := Aside0.mk (ho)
                    clear HB
                    clear HO_8
                    have HB := n0_
                    have HO119 := n1_
                    clear n0_ n1_
                    clear ho hb hg hat
                    refine hK.out _ _ ⟨((HB.out.cell (World.block_lt_of_cell? w _ hw114_0)).trans hw114_0), ((HB.out.cell (World.block_lt_of_cell? w _ hw114_1)).trans hw114_1), ((HB.out.cell (World.block_lt_of_cell? w _ hw114_2)).trans hw114_2), ((HB.out.cell (World.block_lt_of_cell? w _ hw115_0)).trans hw115_0), ((HB.out.cell (World.block_lt_of_cell? w _ hw115_1)).trans hw115_1), ((HB.out.cell (World.block_lt_of_cell? w _ hw115_2)).trans hw115_2), ((HB.out.cell (World.block_lt_of_cell? w _ hw116_0)).trans hw116_0), ((HB.out.cell (World.block_lt_of_cell? w _ hw116_1)).trans hw116_1), ((HB.out.cell (World.block_lt_of_cell? w _ hw116_2)).trans hw116_2)⟩ (fun hHeld => ?_)
                    clear hK K
                    refine norm_ (a' := ?_) ?_ ?_
                    rotate_left
                    · show Act.put _ (some 63) _ = _
                      simp only [Act.put, List.setIfInBounds_toArray, List.set_cons_zero, List.set_cons_succ, i64_w, i32_w]
                      rfl
                    refine pure_ (i := 21) (N := some 8) (v := ?_) (a' := ?_) #[true, true, true, true, true, true, true, true, true, true, true, true, true, true, true, true, true, true, true, true, true, true] rfl rfl (any_of HT_.out (by kernel_rfl)) (fun _ _ _ h => h) (Or.inl ⟨by rfl, ?_⟩) ?_ ?_
                    rotate_left
                    · intro w'
                      go_simp
                      with_reducible rfl
                    rotate_left
                    · simp only [Act.put, List.setIfInBounds_toArray, List.set_cons_zero, List.set_cons_succ, i64_w, i32_w]
                      rfl
                    refine done_ (done_of HT_.out (by kernel_rfl)) ?_
                    try go_wp2
                    go_roundg k2
                    case measure => have := HJ5.out; have := HK2.out; omega
                    case rel => exact ⟨(y117), (wrap64 (x9_2 + 1)), (by first | rfl | (simp only [IntKind.wrap_i64, wrap64]; done) | (simp; done) | (simp [*]; done)), H', ⟨by have := HJ5.out; have := HK2.out; omega⟩, ⟨by (with_reducible repeat (first | apply Kd.R_alloc | apply Kd.R_drewN | apply Kd.R_drew)); exact HO119.out⟩, ⟨by repeat (first | (with_reducible first | exact HB.out | apply below_alloc | apply pw_below_drewN | apply below_drew1) | exact HB.out)⟩⟩
                  · rw [if_neg c17] at H
                    exact absurd H (by simp)
                · rw [if_neg c16] at H
                  exact absurd H (by simp)
              · rw [if_neg c15] at H
                have c15b0 : decide (x9_2 < (l0.length : Int)) = false := decide_eq_false c15
                clear c15
                simp only [Option.some.injEq, Prod.mk.injEq] at H
                obtain ⟨rfl, rfl⟩ := H
                go_wp2
                go_ret2
                exact ⟨_, by first | rfl | (simp [errW_none, errW_some, IntKind.wrap_i64, wrap64]; done) | (simp [errW_none, errW_some] <;> rfl) | (simp [*, errW_none, errW_some] <;> rfl), by (with_reducible repeat (first | apply Kd.R_alloc | apply Kd.R_drewN | apply Kd.R_drew)); exact HO_8.out, by repeat (first | (with_reducible first | exact HB.out | apply below_alloc | apply pw_below_drewN | apply below_drew1) | exact HB.out)⟩
        · replace c12 := Bool.eq_false_iff.mpr c12
          subst c12
          have H1 : (some ((([] : List (S73))), 2)) = some (r1, r2) := by rw [if_neg (show ¬ (false = true) by decide)] at H; exact H
          clear H
          have H := H1
          clear H1
          obtain ⟨y108, hy108⟩ : ∃ y_ : List (S73), y_ = (([] : List (S73))) := ⟨_, rfl⟩
          replace H : (some (y108, 2)) = some (r1, r2) := by first | (rw [hy108]; with_reducible exact H) | (have H2_ := (Option.bind_some _ _).symm.trans H; rw [hy108]; with_reducible exact H2_) | (have H2_ := (Option.bind_some _ _).symm.trans H; with_reducible exact H2_) | with_reducible exact H | (rw [hy108]; exact H) | exact H
          have Ny108 := Aside0.mk hy108
          clear hy108
          simp only [Option.some.injEq, Prod.mk.injEq] at H
          obtain ⟨rfl, rfl⟩ := H
          go_wp2_with (first | ((with_reducible refine gate_dst (N := 35) rfl ?_); refine Kd.R_lit k73 _ 73 ?hg (N := 35) ?hd (xs := ([] : List (S73))) (inner := []) (ok := fun _ => True) (okp := fun _ => True) ?hr ?hp (fun _ hk => hk) trivial (Below.refl _ _) (Nat.le_refl _) (by simp) ?_; (case hd => rfl); (case hg => rfl); (case hr => first | (go_simp; done) | (go_simp; rfl)); (case hp => exact (Reps.none _ _)); intro v109 w20 ho21 hb hg_ hnew_; clear hg_ hnew_; (first | rw [← Ny108.out] at ho21 | (simp only [Int.reduceToNat] at ho21; rw [← Ny108.out] at ho21)); have n0_ := Aside0.mk (Kd.R_lower ho21 (below_size (by repeat (first | (with_reducible first | exact HB.out | apply below_alloc | apply pw_below_drewN | apply below_drew1) | exact HB.out)))); have n1_ := Aside0.mk (below_step (by repeat (first | (with_reducible first | exact HB.out | apply below_alloc | apply pw_below_drewN | apply below_drew1) | exact HB.out)) hb); clear HB; have HO110 := n0_; have HB := n1_; clear n0_ n1_; clear hb ho21))
          go_ret2
          exact ⟨_, by first | rfl | (simp [errW_none, errW_some, IntKind.wrap_i64, wrap64]; done) | (simp [errW_none, errW_some] <;> rfl) | (simp [*, errW_none, errW_some] <;> rfl), by (with_reducible repeat (first | apply Kd.R_alloc | apply Kd.R_drewN | apply Kd.R_drew)); exact HO110.out, by repeat (first | (with_reducible first | exact HB.out | apply below_alloc | apply pw_below_drewN | apply below_drew1) | exact HB.out)⟩
  · replace c4 := Bool.eq_false_iff.mpr c4
    subst c4
    have H1 : (some ((([] : List (S73))), 1)) = some (r1, r2) := by rw [if_neg (show ¬ (false = true) by decide)] at H; exact H
    clear H
    have H := H1
    clear H1
    obtain ⟨y102, hy102⟩ : ∃ y_ : List (S73), y_ = (([] : List (S73))) := ⟨_, rfl⟩
    replace H : (some (y102, 1)) = some (r1, r2) := by first | (rw [hy102]; with_reducible exact H) | (have H2_ := (Option.bind_some _ _).symm.trans H; rw [hy102]; with_reducible exact H2_) | (have H2_ := (Option.bind_some _ _).symm.trans H; with_reducible exact H2_) | with_reducible exact H | (rw [hy102]; exact H) | exact H
    have Ny102 := Aside0.mk hy102
    clear hy102
    simp only [Option.some.injEq, Prod.mk.injEq] at H
    obtain ⟨rfl, rfl⟩ := H
    go_enter Try.func28, Try.ntmps28
    go_wp2_with (first | ((with_reducible refine gate_callee (f := 74) rfl ?_); refine goesL_ (some 11) rfl rfl Try.func74 (by kernel_rfl) rfl #[.slice A0 l0.length c0] rfl (by (try simp only [List.map_toArray, List.map_cons, List.map_nil]); first | done | rfl | (simp only [List.length_drop, List.length_take]; rfl)) ?_; (with_reducible refine (spec_l07Ok.calls k _ _ l0 false _ ?side1 ?side2 A3.out).mono ?_); (case side1 => repeat (first | exact HR0.out | (with_reducible refine Kd.C_alloc ?_ _) | (with_reducible refine Kd.C_drewN ?_ _) | (with_reducible refine Kd.C_drew ?_))); (case side2 => exact HC0.out); rintro e w22 ⟨rfl, hb⟩; refine ⟨_, rfl, ?_⟩; have n0_ := Aside0.mk (below_step (by repeat (first | (with_reducible first | exact HB.out | apply below_alloc | apply pw_below_drewN | apply below_drew1) | exact HB.out)) hb); clear HB; have HB := n0_; clear n0_; (try clear hb); (try clear hb2); (try clear hk); (try clear hi)) | ((with_reducible refine gate_dst (N := 13) rfl ?_); refine Kd.R_lit k73 _ 73 ?hg (N := 13) ?hd (xs := ([] : List (S73))) (inner := []) (ok := fun _ => True) (okp := fun _ => True) ?hr ?hp (fun _ hk => hk) trivial (Below.refl _ _) (Nat.le_refl _) (by simp) ?_; (case hd => rfl); (case hg => rfl); (case hr => first | (go_simp; done) | (go_simp; rfl)); (case hp => exact (Reps.none _ _)); intro v103 w23 ho24 hb hg_ hnew_; clear hg_ hnew_; (first | rw [← Ny102.out] at ho24 | (simp only [Int.reduceToNat] at ho24; rw [← Ny102.out] at ho24)); have n0_ := Aside0.mk (Kd.R_lower ho24 (below_size (by repeat (first | (with_reducible first | exact HB.out | apply below_alloc | apply pw_below_drewN | apply below_drew1) | exact HB.out)))); have n1_ := Aside0.mk (below_step (by repeat (first | (with_reducible first | exact HB.out | apply below_alloc | apply pw_below_drewN | apply below_drew1) | exact HB.out)) hb); clear HB; have HO104 := n0_; have HB := n1_; clear n0_ n1_; clear hb ho24))
    go_ret2
    exact ⟨_, by first | rfl | (simp [errW_none, errW_some, IntKind.wrap_i64, wrap64]; done) | (simp [errW_none, errW_some] <;> rfl) | (simp [*, errW_none, errW_some] <;> rfl), by (with_reducible repeat (first | apply Kd.R_alloc | apply Kd.R_drewN | apply Kd.R_drew)); exact HO104.out, by repeat (first | (with_reducible first | exact HB.out | apply below_alloc | apply pw_below_drewN | apply below_drew1) | exact HB.out)⟩

end Go.Proofs.Ytidkniacmcbgiaa.G
end

section
namespace Go.Proofs.Ytidkniacmcbgiaa.G.Pure
open Go.RowKit Go.Proofs.Ytidkniacmcbgiaa.G Go.Proofs.YtidkniacmcbgiaaW.PrintWords Go.Proofs.YtidkniacmcbgiaaW.PrintLast Go.Proofs.YtidkniacmcbgiaaW.PrintMore
set_option linter.unusedVariables false
set_option linter.unusedSimpArgs false
/-! A log whose times are moved. -/
def mv (by_ : Int) (x : En) : En := ⟨x.f0 + by_, x.f1, x.f2⟩
theorem rdE_map {l : List En} {i : Nat} (b : Int) (h : i < l.length) : rd_T73 (l.map (mv b)) (i : Int) = mv b (rd_T73 l (i : Int)) := by
  rw [rd_impl_Entry (by simpa using h), rd_impl_Entry h]
  simp
theorem idxP_congr {α : Type} {p q : α → Bool} {l : List α} (h : ∀ x ∈ l, p x = q x) : idxP p l = idxP q l := by
  have e : l.findIdx? p = l.findIdx? q := by
    induction l with
    | nil => rfl
    | cons a l ih =>
      rw [List.findIdx?_cons, List.findIdx?_cons, h a (by simp), ih (fun x hx => h x (by simp [hx]))]
  simp [idxP, e]
theorem ups_mv (b : Int) {l : List En} {n : Nat} (hn : n ≤ l.length) : ups (l.map (mv b)) n = ups l n := by
  induction n with
  | zero => rfl
  | succ n ih =>
    rw [ups, ups, ih (by omega)]
    cases hu : ups l n with
    | none => rfl
    | some out =>
      obtain ⟨h1, h2, h3⟩ := ups_ok hu
      have hat : atE (l.map (mv b)) n out = atE l n out := by
        unfold atE impl_Log_up.at
        rw [rdE_map b (by omega)]
        refine idxP_congr (fun x hx => ?_)
        have := h2 x hx
        obtain ⟨q, rfl⟩ : ∃ q : Nat, x = (q : Int) := ⟨x.toNat, by omega⟩
        rw [rdE_map b (by omega)]
        rfl
      simp only [Option.bind_some]
      unfold upsStep
      rw [hat, rdE_map b (by omega)]
      rfl
def inT (b : Int) (x : En) : Bool := decide (0 ≤ x.f0 + b) && decide (x.f0 + b ≤ 100000)
/-- The first n times, moved, are times. -/
def allT (b : Int) (l : List En) : Nat → Bool
  | 0 => true
  | n + 1 => allT b l n && inT b (rd_T73 l (n : Int))
theorem allT_false {b : Int} {l : List En} {i n : Nat} (h : allT b l i = false) (hi : i ≤ n) : allT b l n = false := by
  induction n with
  | zero => obtain rfl : i = 0 := by omega
            exact h
  | succ n ih =>
    rcases Nat.lt_or_ge i (n + 1) with h1 | h1
    · rw [allT, ih (by omega)]
      rfl
    · obtain rfl : i = n + 1 := by omega
      exact h
theorem gd_at {l : List En} {n : Nat} (h : gd l n = true) {i : Nat} (hi : i < n) : impl_Log_up.good (lastT l i) (rd_T73 l (i : Int)) = true := by
  induction n with
  | zero => omega
  | succ n ih =>
    rw [gd, Bool.and_eq_true] at h
    rcases Nat.lt_or_ge i n with h1 | h1
    · exact ih h.1 h1
    · obtain rfl : i = n := by omega
      exact h.2
theorem lastT_nonneg {l : List En} {n : Nat} (h : gd l n = true) : 0 ≤ lastT l n := by
  induction n with
  | zero => simp [lastT]
  | succ n ih =>
    rw [gd, Bool.and_eq_true] at h
    have h1 := ih h.1
    have h2 := h.2
    unfold impl_Log_up.good at h2
    simp only [Bool.and_eq_true, decide_eq_true_eq] at h2
    rw [lastT]
    omega
theorem gd_mv (b : Int) {l : List En} {n : Nat} (hn : n ≤ l.length) (h : gd l n = true) : gd (l.map (mv b)) n = allT b l n := by
  induction n with
  | zero => rfl
  | succ n ih =>
    rw [gd, allT]
    rw [gd, Bool.and_eq_true] at h
    obtain ⟨h0, hg⟩ := h
    rw [ih (by omega) h0, rdE_map b (by omega)]
    cases ha : allT b l n with
    | false => rfl
    | true =>
      have hl0 := lastT_nonneg h0
      simp only [Bool.true_and]
      unfold impl_Log_up.good at hg ⊢
      simp only [Bool.and_eq_true, decide_eq_true_eq] at hg
      unfold inT
      simp only [show ∀ x : En, (mv b x).f0 = x.f0 + b from fun _ => rfl, show ∀ x : En, (mv b x).f1 = x.f1 from fun _ => rfl]
      have hlast : lastT (l.map (mv b)) n ≤ (rd_T73 l (n : Int)).f0 + b ↔ 0 ≤ (rd_T73 l (n : Int)).f0 + b := by
        cases n with
        | zero => exact Iff.rfl
        | succ m =>
          rw [lastT, rdE_map b (by omega)]
          rw [allT, Bool.and_eq_true] at ha
          have := ha.2
          unfold inT at this
          simp only [Bool.and_eq_true, decide_eq_true_eq] at this
          rw [lastT] at hg
          show (rd_T73 l (m : Int)).f0 + b ≤ _ ↔ _
          omega
      rw [show decide (lastT (l.map (mv b)) n ≤ (rd_T73 l (n : Int)).f0 + b) = decide (0 ≤ (rd_T73 l (n : Int)).f0 + b) from decide_eq_decide.2 hlast, decide_eq_true hg.2.1, decide_eq_true hg.2.2]
      simp
theorem validG_mv {b : Int} {l : List En} (h : validG l = true) : validG (l.map (mv b)) = allT b l l.length := by
  unfold validG at h ⊢
  simp only [Bool.and_eq_true, decide_eq_true_eq] at h
  obtain ⟨⟨h1, h2⟩, h3⟩ := h
  rw [List.length_map, ups_mv b (Nat.le_refl _), gd_mv b (Nat.le_refl _) h2, h3, decide_eq_true h1]
  simp
theorem valid_times {l : List En} (h : validG l = true) {i : Nat} (hi : i < l.length) : 0 ≤ (rd_T73 l (i : Int)).f0 ∧ (rd_T73 l (i : Int)).f0 ≤ 100000 := by
  unfold validG at h
  simp only [Bool.and_eq_true, decide_eq_true_eq] at h
  obtain ⟨⟨h1, h2⟩, h3⟩ := h
  have hg := gd_at h2 hi
  have hl := lastT_nonneg (l := l) (n := i) (by
    cases hgi : gd l i with
    | true => rfl
    | false => rw [gd_false hgi (by omega)] at h2; cases h2)
  unfold impl_Log_up.good at hg
  simp only [Bool.and_eq_true, decide_eq_true_eq] at hg
  omega
theorem valid_len {l : List En} (h : validG l = true) : l.length ≤ 60 := by
  unfold validG at h
  simp only [Bool.and_eq_true, decide_eq_true_eq] at h
  exact h.1.1
def resShift (l : List En) (b : Int) : List En × Int := if validG l = true then (if (decide (-100000 ≤ b) && decide (b ≤ 100000)) = true then (if allT b l l.length = true then (l.map (mv b), 0) else ([], 2)) else ([], 2)) else ([], 1)
theorem implShift_eq {k : Nat} {l : List En} {b : Int} (hl : l.length ≤ 1048576) (hk : 1000 < k) : impl_ShiftLog.f k l b = some (resShift l b) := by
  unfold impl_ShiftLog.f resShift
  rw [implValid_log hl, impl_Log_up.within]
  simp only [Option.bind_some]
  by_cases hv : validG l = true
  · rw [if_pos hv, if_pos hv]
    by_cases hb : (decide (-100000 ≤ b) && decide (b ≤ 100000)) = true
    · rw [if_pos hb, if_pos hb]
      simp only [Bool.and_eq_true, decide_eq_true_eq] at hb
      have h60 := valid_len hv
      unfold slices_Clone_Log_Entry.f
      rw [if_pos (by omega)]
      simp only [Option.bind_some]
      obtain ⟨r, hr, h⟩ := loop_inv (fun k (s : List En × Int) => impl_ShiftLog.l0 k b s.1 (l.length : Int) s.2) l.length
        (fun i s => s.2 = (i : Int) ∧ s.1.length = l.length ∧ s.1.take i = (l.map (mv b)).take i ∧ s.1.drop i = l.drop i) (fun r => r = if allT b l l.length = true then (l.map (mv b), 0) else ([], 2))
        (fun k i s hi ⟨h1, h2, h3, h4⟩ => by
          obtain ⟨acc, x⟩ := s
          simp only at h1 h2 h3 h4
          subst h1
          have ha : acc[i] = l[i] := by
            have := congrArg (·[0]?) h4
            simp only [List.getElem?_drop, Nat.add_zero] at this
            rw [List.getElem?_eq_getElem (by omega), List.getElem?_eq_getElem hi] at this
            exact Option.some.inj this
          have ht := valid_times hv hi
          rw [rd_impl_Entry hi] at ht
          refine .inl ⟨(acc.set i (mv b l[i]), ((i + 1 : Nat) : Int)), ⟨rfl, by simpa using h2, ?_, ?_⟩, ?_⟩
          · simp only
            rw [take_set_succ (by omega), h3, List.take_succ_eq_append_getElem (by simpa using hi)]
            simp
          · simp only
            rw [List.drop_set_of_lt (by omega)]
            have := congrArg (List.drop 1) h4
            simpa [List.drop_drop] using this
          · simp only [impl_ShiftLog.l0]
            rw [if_pos (by omega), if_pos (by omega), if_pos (by omega), rd_impl_Entry (by omega), ha, w64 (n := l[i].f0 + b) (by omega) (by omega), w64 (n := (i : Int) + 1) (by omega) (by omega)]
            rfl)
        (fun k s ⟨h1, h2, h3, h4⟩ => by
          obtain ⟨acc, x⟩ := s
          simp only at h1 h2 h3 h4
          subst h1
          rw [List.take_of_length_le (by omega), List.take_of_length_le (by simp)] at h3
          subst h3
          refine ⟨_, rfl, ?_⟩
          simp only [impl_ShiftLog.l0]
          rw [if_neg (by omega), implValid_log (by omega), validG_mv hv]
          simp only [Option.bind_some]
          split <;> rfl) k (l, 0) ⟨rfl, rfl, by simp, by simp⟩ (by omega)
      subst hr
      exact h
    · rw [if_neg hb, if_neg hb]
  · rw [if_neg hv, if_neg hv]
theorem spec_j1_false (k : Nat) (l : List En) (b : Int) : spec_ShiftLog.j1 (k + 1) l b false = some ([], 2) := by
  simp only [spec_ShiftLog.j1]
  rfl
theorem spec_l1_eq {k : Nat} {l : List En} {b : Int} (hv : validG l = true) (hb : -100000 ≤ b ∧ b ≤ 100000) (hk : l.length < k) : spec_ShiftLog.l1 k l b [] 0 = some (l.map (mv b), 0) := by
  have h60 := valid_len hv
  obtain ⟨r, hr, h⟩ := loop_inv (fun k (s : List En × Int) => spec_ShiftLog.l1 k l b s.1 s.2) l.length
    (fun i s => s.2 = (i : Int) ∧ s.1 = (l.map (mv b)).take i) (fun r => r = (l.map (mv b), 0))
    (fun k i s hi ⟨h1, h2⟩ => by
      obtain ⟨acc, x⟩ := s
      simp only at h1 h2
      subst h1 h2
      have ht := valid_times hv hi
      rw [rd_impl_Entry hi] at ht
      refine .inl ⟨((l.map (mv b)).take (i + 1), ((i + 1 : Nat) : Int)), ⟨rfl, rfl⟩, ?_⟩
      simp only [spec_ShiftLog.l1]
      rw [if_pos (by omega), if_pos (by omega), if_pos (by simp; omega), rd_impl_Entry hi, w64 (n := l[i].f0 + b) (by omega) (by omega), w64 (n := (i : Int) + 1) (by omega) (by omega), List.take_succ_eq_append_getElem (by simpa using hi)]
      simp only [List.getElem_map]
      rfl)
    (fun k s ⟨h1, h2⟩ => by
      obtain ⟨acc, x⟩ := s
      simp only at h1 h2
      subst h1 h2
      refine ⟨_, rfl, ?_⟩
      simp only [spec_ShiftLog.l1]
      rw [if_neg (by omega), List.take_of_length_le (by simp)]) k ([], 0) ⟨rfl, by simp⟩ hk
  subst hr
  exact h
theorem specShift_eq {k : Nat} {l : List En} {b : Int} (hk : 10000 < k) : spec_ShiftLog.f k l b = some (resShift l b) := by
  unfold spec_ShiftLog.f resShift
  rw [specOk_log (by omega), in_log]
  simp only [Option.bind_some]
  by_cases hv : validG l = true
  · rw [if_pos hv, if_pos hv]
    have h60 := valid_len hv
    by_cases hb : (decide (-100000 ≤ b) && decide (b ≤ 100000)) = true
    · rw [hb, if_pos rfl]
      simp only [Bool.and_eq_true, decide_eq_true_eq] at hb
      obtain ⟨r, hr, h⟩ := loop_inv2 (fun k (s : Bool × Int) => spec_ShiftLog.l0 k l b s.1 s.2) l.length 200 (fun i s => s.2 = (i : Int) ∧ s.1 = allT b l i) (fun r => r = if allT b l l.length = true then (l.map (mv b), 0) else ([], 2))
        (fun k i s hi hk ⟨h1, h2⟩ => by
          obtain ⟨a, x⟩ := s
          simp only at h1 h2
          subst h1 h2
          have ht := valid_times hv hi
          simp only [spec_ShiftLog.l0]
          rw [if_pos (by omega)]
          cases ha : allT b l i with
          | false =>
            refine .inr ⟨_, rfl, ?_⟩
            obtain ⟨k, rfl⟩ : ∃ m, k = m + 1 := ⟨k - 1, by omega⟩
            rw [if_neg (by simp), spec_j1_false, allT_false ha (by omega), if_neg (by simp)]
          | true =>
            refine .inl ⟨(allT b l (i + 1), ((i + 1 : Nat) : Int)), ⟨rfl, rfl⟩, ?_⟩
            rw [if_pos rfl, if_pos (by omega), w64 (n := (rd_T73 l (i : Int)).f0 + b) (by omega) (by omega), spec_l07Time.f, in_log]
            simp only [Option.bind_some]
            rw [w64 (n := (i : Int) + 1) (by omega) (by omega), allT, ha]
            simp only [Bool.true_and]
            rfl)
        (fun k s hk ⟨h1, h2⟩ => by
          obtain ⟨a, x⟩ := s
          simp only at h1 h2
          subst h1 h2
          refine ⟨_, rfl, ?_⟩
          obtain ⟨k, rfl⟩ : ∃ m, k = m + 1 := ⟨k - 1, by omega⟩
          simp only [spec_ShiftLog.l0]
          rw [if_neg (by omega)]
          cases ha : allT b l l.length with
          | false => rw [spec_j1_false, if_neg (by simp)]
          | true =>
            simp only [spec_ShiftLog.j1]
            simp only [if_true]
            rw [spec_l1_eq hv hb (by omega)]) k (true, 0) ⟨rfl, rfl⟩ (by omega)
      subst hr
      exact h
    · rw [if_neg hb]
      simp only [Bool.not_eq_true] at hb
      rw [hb]
      obtain ⟨k, rfl⟩ : ∃ m, k = m + 2 := ⟨k - 2, by omega⟩
      simp only [spec_ShiftLog.l0]
      split
      · rw [if_neg (by simp), spec_j1_false]
      · rw [spec_j1_false]
  · rw [if_neg hv, if_neg hv]
def markG (i : Nat) : En := ⟨1 + 3 * (i : Int), 1 + 3 * (i : Int) + 1, Int.tmod (1 + 3 * (i : Int) + 2) 3 == 0⟩
theorem markLog_held (k : Nat) (a : List En) (hl : a.length ≤ 1048576) (hk : a.length < k) : ∃ l m, laws_markLog.f k a 1 = some (m, l) ∧ (∀ k', a.length < k' → laws_heldLog.f k' l 1 = some m) ∧ 0 ≤ m := by
  obtain ⟨r, ⟨h1, h2, h3⟩, h⟩ := loop_inv (fun k (s : List En × Int × Int) => laws_markLog.l0 k s.1 s.2.1 s.2.2) a.length
    (fun i s => s.2.2 = (i : Int) ∧ s.2.1 = 1 + 3 * (i : Int) ∧ s.1.length = a.length ∧ ∀ j (h : j < s.1.length), j < i → s.1[j] = markG j)
    (fun r => r.1 = 1 + 3 * (a.length : Int) ∧ r.2.length = a.length ∧ ∀ j (h : j < r.2.length), r.2[j] = markG j)
    (fun k i s hi ⟨h1, h2, h3, h4⟩ => by
      obtain ⟨acc, m, x⟩ := s
      simp only at h1 h2 h3 h4
      subst h1 h2
      refine .inl ⟨(acc.set i (markG i), 1 + 3 * ((i + 1 : Nat) : Int), ((i + 1 : Nat) : Int)), ⟨rfl, rfl, by simpa using h3, fun j hj hji => ?_⟩, ?_⟩
      · simp only [List.getElem_set]
        split
        · rename_i e; subst e; rfl
        · simp only [List.length_set] at hj
          exact h4 j hj (by omega)
      · have hia : i < acc.length := by omega
        simp only [laws_markLog.l0]
        rw [if_pos (by omega), if_pos (by omega)]
        simp only [Option.bind_some, Int.toNat_natCast]
        rw [w64 (n := 1 + 3 * (i : Int) + 1) (by omega) (by omega), w64 (n := 1 + 3 * (i : Int) + 1 + 1) (by omega) (by omega), w64 (n := 1 + 3 * (i : Int) + 1 + 1 + 1) (by omega) (by omega), w64 (n := (i : Int) + 1) (by omega) (by omega)]
        simp only [rd_set_Entry, hia, List.set_set, List.length_set]
        rw [show 1 + 3 * (i : Int) + 1 + 1 + 1 = 1 + 3 * ((i + 1 : Nat) : Int) by omega, show 1 + 3 * (i : Int) + 1 + 1 = 1 + 3 * (i : Int) + 2 by omega]
        rfl)
    (fun k s ⟨h1, h2, h3, h4⟩ => by
      obtain ⟨acc, m, x⟩ := s
      simp only at h1 h2 h3 h4
      subst h1 h2
      refine ⟨(1 + 3 * (a.length : Int), acc), ⟨rfl, h3, fun j hj => h4 j hj (by rw [← h3]; exact hj)⟩, ?_⟩
      simp only [laws_markLog.l0]
      rw [if_neg (by omega)]) k (a, 1, 0) ⟨rfl, rfl, rfl, fun j _ h => absurd h (Nat.not_lt_zero _)⟩ hk
  obtain ⟨m, l⟩ := r
  simp only at h1 h2 h3
  refine ⟨l, m, h, fun k' hk' => ?_, by omega⟩
  obtain ⟨r, hr, h'⟩ := loop_inv (fun k (s : Int × Int) => laws_heldLog.l0 k l s.1 s.2) l.length (fun i s => s.2 = (i : Int) ∧ s.1 = 1 + 3 * (i : Int)) (fun r => r = m)
    (fun k i s hi ⟨g1, g2⟩ => by
      obtain ⟨m', x⟩ := s
      simp only at g1 g2
      subst g1 g2
      refine .inl ⟨(1 + 3 * ((i + 1 : Nat) : Int), ((i + 1 : Nat) : Int)), ⟨rfl, rfl⟩, ?_⟩
      simp only [laws_heldLog.l0]
      rw [w64 (n := 1 + 3 * (i : Int) + 1) (by omega) (by omega), w64 (n := 1 + 3 * (i : Int) + 1 + 1) (by omega) (by omega), w64 (n := 1 + 3 * (i : Int) + 1 + 1 + 1) (by omega) (by omega), w64 (n := (i : Int) + 1) (by omega) (by omega)]
      rw [if_pos (by omega), if_pos (by omega), rd_impl_Entry hi, h3 i hi, if_pos (show (markG i).f0 = 1 + 3 * (i : Int) from rfl), if_pos (show (markG i).f1 = 1 + 3 * (i : Int) + 1 from rfl), show 1 + 3 * (i : Int) + 1 + 1 = 1 + 3 * (i : Int) + 2 by omega, if_neg (show ¬ ((markG i).f2 != (Int.tmod (1 + 3 * (i : Int) + 2) 3 == 0)) = true by simp [markG])]
      rw [show 1 + 3 * (i : Int) + 2 + 1 = 1 + 3 * ((i + 1 : Nat) : Int) by omega]
      rfl)
    (fun k s ⟨g1, g2⟩ => by
      obtain ⟨m', x⟩ := s
      simp only at g1 g2
      subst g1 g2
      refine ⟨m, rfl, ?_⟩
      simp only [laws_heldLog.l0]
      rw [if_neg (by omega), h1, h2]) k' (1, 0) ⟨rfl, rfl⟩ (by omega)
  subst hr
  exact h'

end Go.Proofs.Ytidkniacmcbgiaa.G.Pure
end

section
namespace Go.Proofs.Ytidkniacmcbgiaa.G.Pure
open Go.RowKit Go.Proofs.Ytidkniacmcbgiaa.G Go.Proofs.YtidkniacmcbgiaaW.PrintWords Go.Proofs.YtidkniacmcbgiaaW.PrintLast Go.Proofs.YtidkniacmcbgiaaW.PrintMore
set_option linter.unusedVariables false
set_option linter.unusedSimpArgs false
/-! The laws' helpers over steps. -/
abbrev St := S100
def stepOf (x : S103) : St := ⟨x.f0, x.f1⟩
theorem szStepS_eq (l : List (S103)) (a : Int) (h0 : 0 ≤ a) (h1 : a ≤ 1048576) (hl : l.length ≤ 9223372036854775807) : laws_szStepS.f l a = some (if a - l.length < 0 then -1 else a - l.length) := by
  unfold laws_szStepS.f
  rw [w64 (by omega) (by omega)]
  split <;> rfl
theorem rd_laws_Step {l : List (S103)} {i : Nat} (h : i < l.length) : rd_T103 l (i : Int) = l[i] := by
  simp [rd_T103, List.getD_eq_getElem?_getD, List.getElem?_eq_getElem h]
theorem toStepS_eq (k : Nat) (l : List (S103)) (hl : l.length ≤ 1048576) (hk : l.length < k) : laws_toStepS.f k l = some (l.map stepOf) := by
  unfold laws_toStepS.f
  rw [if_pos (by omega), if_pos (by omega)]
  obtain ⟨r, hr, h⟩ := loop_inv (fun k (s : List St × Int) => laws_toStepS.l0 k l s.1 s.2) l.length (fun i s => s.2 = (i : Int) ∧ s.1.length = l.length ∧ s.1.take i = (l.map stepOf).take i) (fun r => r = l.map stepOf)
    (fun k i s hi ⟨h1, h2, h3⟩ => by
      obtain ⟨acc, x⟩ := s
      simp only at h1 h2 h3
      subst h1
      refine .inl ⟨(acc.set i (stepOf l[i]), ((i + 1 : Nat) : Int)), ⟨rfl, by simpa using h2, ?_⟩, ?_⟩
      · rw [take_set_succ (by omega), h3, List.take_succ_eq_append_getElem (by simpa using hi)]
        simp
      · simp only [laws_toStepS.l0]
        rw [if_pos (by omega), if_pos (by omega), rd_laws_Step hi]
        simp only [laws_toStep.f, Option.bind_some]
        rw [if_pos (by omega), w64 (by omega) (by omega)]
        rfl)
    (fun k s ⟨h1, h2, h3⟩ => by
      obtain ⟨acc, x⟩ := s
      simp only at h1 h2 h3
      subst h1
      refine ⟨acc, ?_, ?_⟩
      · rw [List.take_of_length_le (by omega), List.take_of_length_le (by simp)] at h3
        exact h3
      · simp only [laws_toStepS.l0]
        rw [if_neg (by omega)]) k (List.replicate l.length z100, 0) ⟨rfl, by simp, by simp⟩ hk
  subst hr
  simpa using h
theorem eqStep_self (a   : St) : laws_eqStep.f a.f0 a.f1 a.f0 a.f1 = some true := by
  simp [laws_eqStep.f]
theorem eqStepS_self (k : Nat) (a : List St) (hl : a.length ≤ 1048576) (hk : a.length < k) : laws_eqStepS.f k a a = some true := by
  unfold laws_eqStepS.f
  rw [if_pos rfl]
  obtain ⟨r, hr, h⟩ := loop_inv (fun k (s : Int) => laws_eqStepS.l0 k a a s) a.length (fun i s => s = (i : Int)) (fun r => r = true)
    (fun k i s hi h1 => by
      subst h1
      refine .inl ⟨((i + 1 : Nat) : Int), rfl, ?_⟩
      simp only [laws_eqStepS.l0]
      rw [if_pos (by omega), if_pos (by omega), if_pos (by omega), eqStep_self]
      simp only [Option.bind_some, if_true]
      rw [w64 (by omega) (by omega)]
      rfl)
    (fun k s h1 => by
      subst h1
      refine ⟨true, rfl, ?_⟩
      simp only [laws_eqStepS.l0]
      rw [if_neg (by omega)]) k 0 rfl hk
  subst hr
  exact h
theorem rd_impl_Step {l : List St} {i : Nat} (h : i < l.length) : rd_T100 l (i : Int) = l[i] := by
  simp [rd_T100, List.getD_eq_getElem?_getD, List.getElem?_eq_getElem h]

end Go.Proofs.Ytidkniacmcbgiaa.G.Pure
end

section
namespace Go.Proofs.Ytidkniacmcbgiaa.G.Pure
open Go.RowKit Go.Proofs.Ytidkniacmcbgiaa.G Go.Proofs.YtidkniacmcbgiaaW.PrintWords Go.Proofs.YtidkniacmcbgiaaW.PrintLast Go.Proofs.YtidkniacmcbgiaaW.PrintMore
set_option linter.unusedVariables false
set_option linter.unusedSimpArgs false
/-! The faults of a story, told step by step. -/
def fitC (e f : En) : Bool := decide (e.f2 = f.f2)
def costC (e f : En) : Int := if e.f1 = f.f1 then 0 else 1
def chk (a b : List En) : List St → Int → Nat → Nat → Int × Int
  | [], all, i, k => if i < a.length then (0, 8) else if k < b.length then (0, 8) else (all, 0)
  | s :: ss, all, i, k =>
    if s.f0 = (i : Int) ∧ i < a.length then
      (if s.f1 = (k : Int) ∧ k < b.length then
        (if fitC (rd_T73 a (i : Int)) (rd_T73 b (k : Int)) = true then chk a b ss (all + costC (rd_T73 a (i : Int)) (rd_T73 b (k : Int))) (i + 1) (k + 1) else (0, 8))
      else if s.f1 = -1 then chk a b ss (all + 1) (i + 1) k else (0, 8))
    else (if s.f1 = (k : Int) ∧ k < b.length then (if s.f0 = -1 then chk a b ss (all + 2) i (k + 1) else (0, 8)) else (0, 8))
theorem small64 {x : Int} (h0 : 0 ≤ x) (h1 : x ≤ 100000000) : wrap64 x = x := w64 (by omega) (by omega)
theorem ar1 {all c : Int} {i k : Nat} (h0 : 0 ≤ all) (h1 : all ≤ 2 * ((i : Int) + k)) (hc : 0 ≤ c ∧ c ≤ 1) : 0 ≤ all + c ∧ all + c ≤ 2 * (((i + 1 : Nat) : Int) + ((k + 1 : Nat) : Int)) := by omega
theorem ar2 {all : Int} {i k : Nat} (h0 : 0 ≤ all) (h1 : all ≤ 2 * ((i : Int) + k)) : 0 ≤ all + 1 ∧ all + 1 ≤ 2 * (((i + 1 : Nat) : Int) + (k : Int)) := by omega
theorem ar3 {all : Int} {i k : Nat} (h0 : 0 ≤ all) (h1 : all ≤ 2 * ((i : Int) + k)) : 0 ≤ all + 2 ∧ all + 2 ≤ 2 * ((i : Int) + ((k + 1 : Nat) : Int)) := by omega
theorem ar4 {all c : Int} (h0 : 0 ≤ all) (h1 : all ≤ 240) (hc : 0 ≤ c ∧ c ≤ 1) : wrap64 (all + c) = all + c := small64 (by omega) (by omega)
theorem costC_b (e f : En) : 0 ≤ costC e f ∧ costC e f ≤ 1 := by
  unfold costC
  split <;> omega
theorem stepFaults_eq (e f : En) : impl_stepFaults.f e.f0 e.f1 e.f2 f.f0 f.f1 f.f2 = some (if fitC e f = true then (costC e f, true) else (1, false)) := by
  unfold impl_stepFaults.f impl_Entry_agree.f fitC costC
  by_cases h : e.f1 = f.f1
  · rw [if_pos h, if_pos h]
    cases e.f2 <;> cases f.f2 <;> rfl
  · rw [if_neg h, if_neg h]
    cases e.f2 <;> cases f.f2 <;> rfl
theorem cost_eq (e f : En) : spec_l07Cost.f e.f0 e.f1 e.f2 f.f0 f.f1 f.f2 = some (if fitC e f = true then costC e f else -1) := by
  unfold spec_l07Cost.f fitC costC
  by_cases h : e.f1 = f.f1
  · rw [if_pos h, if_pos h]
    cases e.f2 <;> cases f.f2 <;> rfl
  · rw [if_neg h, if_neg h]
    cases e.f2 <;> cases f.f2 <;> rfl
theorem is_l0 (K : Nat) (a b : List En) (all i k : Int) (st : List St) (j : Nat) (hj : j < st.length) : impl_CheckStory.l0 (K + 1) a b all i k st (st.length : Int) (j : Int) = impl_CheckStory.j1 K a b all i k (decide (st[j].f0 = i) && decide (i < (a.length : Int))) (decide (st[j].f1 = k) && decide (k < (b.length : Int))) st (st.length : Int) (j : Int) st[j].f0 st[j].f1 := by
  simp only [impl_CheckStory.l0, impl_size_Entry.f, Option.bind_some]
  rw [if_pos (by omega), if_pos (by omega), if_pos (by omega), rd_impl_Step hj]
  by_cases p : st[j].f0 = i
  · rw [if_pos p, decide_eq_true p, Bool.true_and]
    by_cases q : st[j].f1 = k
    · rw [if_pos q, decide_eq_true q, Bool.true_and]
    · rw [if_neg q, decide_eq_false q, Bool.false_and]
  · rw [if_neg p, decide_eq_false p, Bool.false_and]
    by_cases q : st[j].f1 = k
    · rw [if_pos q, decide_eq_true q, Bool.true_and]
    · rw [if_neg q, decide_eq_false q, Bool.false_and]
theorem is_j1 (K : Nat) (a b : List En) (all i k : Int) (f g : Bool) (st : List St) (n j s0 s1 : Int) : impl_CheckStory.j1 (K + 1) a b all i k f g st n j s0 s1 = impl_CheckStory.j2 K a b all i k f g st n j (f && g) s0 s1 := by
  simp only [impl_CheckStory.j1]
  cases f with
  | true => rw [if_pos rfl, Bool.true_and]
  | false => rw [if_neg (by simp), Bool.false_and]
theorem is_j2t (K : Nat) (a b : List En) (all : Int) (i k : Nat) (f g : Bool) (st : List St) (n j s0 s1 : Int) (hi : i < a.length) (hk : k < b.length) : impl_CheckStory.j2 (K + 1) a b all i k f g st n j true s0 s1 = if fitC (rd_T73 a (i : Int)) (rd_T73 b (k : Int)) = true then impl_CheckStory.l0 K a b (wrap64 (all + costC (rd_T73 a (i : Int)) (rd_T73 b (k : Int)))) (wrap64 ((i : Int) + 1)) (wrap64 ((k : Int) + 1)) st n (wrap64 (j + 1)) else some (0, 8) := by
  simp only [impl_CheckStory.j2, if_true]
  rw [if_pos (by omega), if_pos (by omega), if_pos (by omega), if_pos (by omega), stepFaults_eq]
  simp only [Option.bind_some]
  split <;> simp
theorem is_j2f (K : Nat) (a b : List En) (all i k : Int) (f g : Bool) (st : List St) (n j s0 s1 : Int) : impl_CheckStory.j2 (K + 1) a b all i k f g st n j false s0 s1 = impl_CheckStory.j3 K a b all i k g st n j (f && (s1 == -1)) s0 s1 := by
  simp only [impl_CheckStory.j2]
  rw [if_neg (by simp)]
  cases f with
  | true => rw [if_pos rfl, Bool.true_and]
  | false => rw [if_neg (by simp), Bool.false_and]
theorem is_j3t (K : Nat) (a b : List En) (all i k : Int) (g : Bool) (st : List St) (n j s0 s1 : Int) : impl_CheckStory.j3 (K + 1) a b all i k g st n j true s0 s1 = impl_CheckStory.l0 K a b (wrap64 (all + 1)) (wrap64 (i + 1)) k st n (wrap64 (j + 1)) := by
  simp only [impl_CheckStory.j3, if_true]
theorem is_j3f (K : Nat) (a b : List En) (all i k : Int) (g : Bool) (st : List St) (n j s0 s1 : Int) : impl_CheckStory.j3 (K + 1) a b all i k g st n j false s0 s1 = if g = true then (if s0 = -1 then impl_CheckStory.l0 K a b (wrap64 (all + 2)) i (wrap64 (k + 1)) st n (wrap64 (j + 1)) else some (0, 8)) else some (0, 8) := by
  simp only [impl_CheckStory.j3]
  rw [if_neg (by simp)]
theorem implStory_go {a b : List En} (ha : a.length ≤ 60) (hb : b.length ≤ 60) (st : List St) (hst : st.length ≤ 1048576) : ∀ (d j i k : Nat) (all : Int) (K : Nat), j + d = st.length → i ≤ a.length → k ≤ b.length → 0 ≤ all → all ≤ 2 * ((i : Int) + k) → 5 * d < K →
    impl_CheckStory.l0 K a b all (i : Int) (k : Int) st (st.length : Int) (j : Int) = some (chk a b (st.drop j) all i k) := by
  intro d
  induction d with
  | zero =>
    intro j i k all K hj hi hk h0 h1 hK
    obtain ⟨K, rfl⟩ : ∃ m, K = m + 1 := ⟨K - 1, by omega⟩
    obtain rfl : j = st.length := by omega
    simp only [impl_CheckStory.l0, impl_size_Entry.f, Option.bind_some]
    rw [if_neg (by omega), List.drop_length, chk]
    by_cases hia : i < a.length
    · rw [if_pos (by omega), if_pos hia]
    · rw [if_neg (by omega), if_neg hia]
      by_cases hkb : k < b.length
      · rw [if_pos (by omega), if_pos hkb]
      · rw [if_neg (by omega), if_neg hkb]
  | succ d ih =>
    intro j i k all K hj hi hk h0 h1 hK
    obtain ⟨K, rfl⟩ : ∃ m, K = m + 1 + 1 + 1 + 1 + 1 := ⟨K - 5, by omega⟩
    have hK1 : 5 * d < K + 1 := by omega
    have hK2 : 5 * d < K + 1 + 1 := by omega
    clear hK
    have hi6 : (i : Int) ≤ 60 := by omega
    have hk6 : (k : Int) ≤ 60 := by omega
    have hall : all ≤ 240 := by omega
    have hj6 : (j : Int) ≤ 1048576 := by omega
    have hjl : j < st.length := by omega
    have hj' : j + 1 + d = st.length := by omega
    have wj : wrap64 ((j : Int) + 1) = ((j + 1 : Nat) : Int) := small64 (by omega) (by omega)
    have wi : wrap64 ((i : Int) + 1) = ((i + 1 : Nat) : Int) := small64 (by omega) (by omega)
    have wk : wrap64 ((k : Int) + 1) = ((k + 1 : Nat) : Int) := small64 (by omega) (by omega)
    have w1 : wrap64 (all + 1) = all + 1 := small64 (by omega) (by omega)
    have w2 : wrap64 (all + 2) = all + 2 := small64 (by omega) (by omega)
    rw [List.drop_eq_getElem_cons hjl, is_l0 _ a b all i k st j hjl, is_j1, chk]
    generalize st[j] = s
    rw [show decide ((i : Int) < (a.length : Int)) = decide (i < a.length) from decide_eq_decide.2 Int.ofNat_lt, show decide ((k : Int) < (b.length : Int)) = decide (k < b.length) from decide_eq_decide.2 Int.ofNat_lt]
    by_cases p : s.f0 = (i : Int) ∧ i < a.length
    · rw [if_pos p, show (decide (s.f0 = (i : Int)) && decide (i < a.length)) = true by simp [p]]
      by_cases q : s.f1 = (k : Int) ∧ k < b.length
      · rw [if_pos q, show (decide (s.f1 = (k : Int)) && decide (k < b.length)) = true by simp [q], Bool.true_and, is_j2t _ a b all i k _ _ _ _ _ _ _ p.2 q.2]
        have hc := costC_b (rd_T73 a (i : Int)) (rd_T73 b (k : Int))
        by_cases hf : fitC (rd_T73 a (i : Int)) (rd_T73 b (k : Int)) = true
        · rw [if_pos hf, if_pos hf, ar4 h0 hall hc, wi, wk, wj]
          exact ih (j + 1) (i + 1) (k + 1) _ _ hj' p.2 q.2 (ar1 h0 h1 hc).1 (ar1 h0 h1 hc).2 hK2
        · rw [if_neg hf, if_neg hf]
      · rw [if_neg q, show (decide (s.f1 = (k : Int)) && decide (k < b.length)) = false by simpa using q, Bool.and_false, is_j2f]
        by_cases m : s.f1 = -1
        · rw [if_pos m, m, show (true && ((-1 : Int) == -1)) = true from rfl, is_j3t, wi, w1, wj]
          exact ih (j + 1) (i + 1) k _ _ hj' p.2 hk (ar2 h0 h1).1 (ar2 h0 h1).2 hK1
        · rw [if_neg m, show (true && (s.f1 == -1)) = false by simpa using m, is_j3f, if_neg (by simp)]
    · rw [if_neg p, show (decide (s.f0 = (i : Int)) && decide (i < a.length)) = false by simpa using p, Bool.false_and, is_j2f, Bool.false_and, is_j3f]
      by_cases q : s.f1 = (k : Int) ∧ k < b.length
      · rw [if_pos q, show (decide (s.f1 = (k : Int)) && decide (k < b.length)) = true by simp [q], if_pos rfl]
        by_cases m : s.f0 = -1
        · rw [if_pos m, if_pos m, wk, w2, wj]
          exact ih (j + 1) i (k + 1) _ _ hj' hi q.2 (ar3 h0 h1).1 (ar3 h0 h1).2 hK1
        · rw [if_neg m, if_neg m]
      · rw [if_neg q, show (decide (s.f1 = (k : Int)) && decide (k < b.length)) = false by simpa using q, if_neg (by simp)]
theorem ss_l0 (K : Nat) (a b : List En) (st : List St) (i k all : Int) (j : Nat) (hj : j < st.length) : spec_CheckStory.l0 (K + 1) a b st i k all (j : Int) = spec_CheckStory.j2 K a b st i k all (j : Int) (decide (st[j].f0 = i) && decide (i < (a.length : Int))) st[j].f0 st[j].f1 := by
  simp only [spec_CheckStory.l0]
  rw [if_pos (by omega), if_pos (by omega), rd_impl_Step hj]
  by_cases p : st[j].f0 = i
  · rw [if_pos p, decide_eq_true p, Bool.true_and]
  · rw [if_neg p, decide_eq_false p, Bool.false_and]
theorem ss_j2 (K : Nat) (a b : List En) (st : List St) (i k all j : Int) (f : Bool) (s0 s1 : Int) : spec_CheckStory.j2 (K + 1) a b st i k all j f s0 s1 = spec_CheckStory.j3 K a b st i k all j f (decide (s1 = k) && decide (k < (b.length : Int))) s0 s1 := by
  simp only [spec_CheckStory.j2]
  by_cases q : s1 = k
  · rw [if_pos q, decide_eq_true q, Bool.true_and]
  · rw [if_neg q, decide_eq_false q, Bool.false_and]
theorem ss_j3 (K : Nat) (a b : List En) (st : List St) (i k all j : Int) (f g : Bool) (s0 s1 : Int) : spec_CheckStory.j3 (K + 1) a b st i k all j f g s0 s1 = spec_CheckStory.j4 K a b st i k all j f g (f && g) s0 s1 := by
  simp only [spec_CheckStory.j3]
  cases f with
  | true => rw [if_pos rfl, Bool.true_and]
  | false => rw [if_neg (by simp), Bool.false_and]
theorem ss_j4t (K : Nat) (a b : List En) (st : List St) (i k : Nat) (all j : Int) (f g : Bool) (s0 s1 : Int) (hi : i < a.length) (hk : k < b.length) : spec_CheckStory.j4 (K + 1) a b st i k all j f g true s0 s1 = if fitC (rd_T73 a (i : Int)) (rd_T73 b (k : Int)) = true then spec_CheckStory.l0 K a b st (wrap64 ((i : Int) + 1)) (wrap64 ((k : Int) + 1)) (wrap64 (all + costC (rd_T73 a (i : Int)) (rd_T73 b (k : Int)))) (wrap64 (j + 1)) else some (0, 8) := by
  simp only [spec_CheckStory.j4, if_true]
  rw [if_pos (by omega), if_pos (by omega), if_pos (by omega), if_pos (by omega), cost_eq]
  simp only [Option.bind_some]
  have hc := costC_b (rd_T73 a (i : Int)) (rd_T73 b (k : Int))
  by_cases hf : fitC (rd_T73 a (i : Int)) (rd_T73 b (k : Int)) = true
  · rw [if_pos hf, if_pos hf, if_neg (by omega)]
  · rw [if_neg hf, if_neg hf, if_pos (by omega)]
theorem ss_j4f (K : Nat) (a b : List En) (st : List St) (i k all j : Int) (f g : Bool) (s0 s1 : Int) : spec_CheckStory.j4 (K + 1) a b st i k all j f g false s0 s1 = spec_CheckStory.j5 K a b st i k all j g (f && (s1 == -1)) s0 s1 := by
  simp only [spec_CheckStory.j4]
  rw [if_neg (by simp)]
  cases f with
  | true => rw [if_pos rfl, Bool.true_and]
  | false => rw [if_neg (by simp), Bool.false_and]
theorem ss_j5t (K : Nat) (a b : List En) (st : List St) (i k all j : Int) (g : Bool) (s0 s1 : Int) : spec_CheckStory.j5 (K + 1) a b st i k all j g true s0 s1 = spec_CheckStory.l0 K a b st (wrap64 (i + 1)) k (wrap64 (all + 1)) (wrap64 (j + 1)) := by
  simp only [spec_CheckStory.j5, if_true]
theorem ss_j5f (K : Nat) (a b : List En) (st : List St) (i k all j : Int) (g : Bool) (s0 s1 : Int) : spec_CheckStory.j5 (K + 1) a b st i k all j g false s0 s1 = if g = true then (if s0 = -1 then spec_CheckStory.l0 K a b st i (wrap64 (k + 1)) (wrap64 (all + 2)) (wrap64 (j + 1)) else some (0, 8)) else some (0, 8) := by
  simp only [spec_CheckStory.j5]
  rw [if_neg (by simp)]
theorem specStory_go {a b : List En} (ha : a.length ≤ 60) (hb : b.length ≤ 60) (st : List St) (hst : st.length ≤ 1048576) : ∀ (d j i k : Nat) (all : Int) (K : Nat), j + d = st.length → i ≤ a.length → k ≤ b.length → 0 ≤ all → all ≤ 2 * ((i : Int) + k) → 6 * d < K →
    spec_CheckStory.l0 K a b st (i : Int) (k : Int) all (j : Int) = some (chk a b (st.drop j) all i k) := by
  intro d
  induction d with
  | zero =>
    intro j i k all K hj hi hk h0 h1 hK
    obtain ⟨K, rfl⟩ : ∃ m, K = m + 1 := ⟨K - 1, by omega⟩
    obtain rfl : j = st.length := by omega
    simp only [spec_CheckStory.l0]
    rw [if_neg (by omega), List.drop_length, chk]
    by_cases hia : i < a.length
    · rw [if_neg (by omega), if_pos hia]
    · rw [if_pos (by omega), if_neg hia]
      by_cases hkb : k < b.length
      · rw [if_neg (by omega), if_pos hkb]
      · rw [if_pos (by omega), if_neg hkb]
  | succ d ih =>
    intro j i k all K hj hi hk h0 h1 hK
    obtain ⟨K, rfl⟩ : ∃ m, K = m + 1 + 1 + 1 + 1 + 1 + 1 := ⟨K - 6, by omega⟩
    have hK1 : 6 * d < K + 1 := by omega
    have hK2 : 6 * d < K + 1 + 1 := by omega
    clear hK
    have hi6 : (i : Int) ≤ 60 := by omega
    have hk6 : (k : Int) ≤ 60 := by omega
    have hall : all ≤ 240 := by omega
    have hj6 : (j : Int) ≤ 1048576 := by omega
    have hjl : j < st.length := by omega
    have hj' : j + 1 + d = st.length := by omega
    have wj : wrap64 ((j : Int) + 1) = ((j + 1 : Nat) : Int) := small64 (by omega) (by omega)
    have wi : wrap64 ((i : Int) + 1) = ((i + 1 : Nat) : Int) := small64 (by omega) (by omega)
    have wk : wrap64 ((k : Int) + 1) = ((k + 1 : Nat) : Int) := small64 (by omega) (by omega)
    have w1 : wrap64 (all + 1) = all + 1 := small64 (by omega) (by omega)
    have w2 : wrap64 (all + 2) = all + 2 := small64 (by omega) (by omega)
    rw [List.drop_eq_getElem_cons hjl, ss_l0 _ a b st i k all j hjl, ss_j2, ss_j3, chk]
    generalize st[j] = s
    rw [show decide ((i : Int) < (a.length : Int)) = decide (i < a.length) from decide_eq_decide.2 Int.ofNat_lt, show decide ((k : Int) < (b.length : Int)) = decide (k < b.length) from decide_eq_decide.2 Int.ofNat_lt]
    by_cases p : s.f0 = (i : Int) ∧ i < a.length
    · rw [if_pos p, show (decide (s.f0 = (i : Int)) && decide (i < a.length)) = true by simp [p]]
      by_cases q : s.f1 = (k : Int) ∧ k < b.length
      · rw [if_pos q, show (decide (s.f1 = (k : Int)) && decide (k < b.length)) = true by simp [q], Bool.true_and, ss_j4t _ a b st i k _ _ _ _ _ _ p.2 q.2]
        have hc := costC_b (rd_T73 a (i : Int)) (rd_T73 b (k : Int))
        by_cases hf : fitC (rd_T73 a (i : Int)) (rd_T73 b (k : Int)) = true
        · rw [if_pos hf, if_pos hf, ar4 h0 hall hc, wi, wk, wj]
          exact ih (j + 1) (i + 1) (k + 1) _ _ hj' p.2 q.2 (ar1 h0 h1 hc).1 (ar1 h0 h1 hc).2 hK2
        · rw [if_neg hf, if_neg hf]
      · rw [if_neg q, show (decide (s.f1 = (k : Int)) && decide (k < b.length)) = false by simpa using q, Bool.and_false, ss_j4f]
        by_cases m : s.f1 = -1
        · rw [if_pos m, m, show (true && ((-1 : Int) == -1)) = true from rfl, ss_j5t, wi, w1, wj]
          exact ih (j + 1) (i + 1) k _ _ hj' p.2 hk (ar2 h0 h1).1 (ar2 h0 h1).2 hK1
        · rw [if_neg m, show (true && (s.f1 == -1)) = false by simpa using m, ss_j5f, if_neg (by simp)]
    · rw [if_neg p, show (decide (s.f0 = (i : Int)) && decide (i < a.length)) = false by simpa using p, Bool.false_and, ss_j4f, Bool.false_and, ss_j5f]
      by_cases q : s.f1 = (k : Int) ∧ k < b.length
      · rw [if_pos q, show (decide (s.f1 = (k : Int)) && decide (k < b.length)) = true by simp [q], if_pos rfl]
        by_cases m : s.f0 = -1
        · rw [if_pos m, if_pos m, wk, w2, wj]
          exact ih (j + 1) i (k + 1) _ _ hj' hi q.2 (ar3 h0 h1).1 (ar3 h0 h1).2 hK1
        · rw [if_neg m, if_neg m]
      · rw [if_neg q, show (decide (s.f1 = (k : Int)) && decide (k < b.length)) = false by simpa using q, if_neg (by simp)]
def resStory (a b : List En) (st : List St) : Int × Int := if validG a = true ∧ validG b = true then chk a b st 0 0 0 else (0, 1)
theorem implStory_eq {K : Nat} {a b : List En} {st : List St} (ha : a.length ≤ 1048576) (hb : b.length ≤ 1048576) (hst : st.length ≤ 1048576) (hK : 9000000 < K) : impl_CheckStory.f K a b st = some (resStory a b st) := by
  unfold impl_CheckStory.f impl_logsCode.f resStory impl_unless.f
  rw [implValid_log ha, implValid_log hb]
  simp only [Option.bind_some]
  by_cases va : validG a = true
  · rw [if_pos va]
    by_cases vb : validG b = true
    · rw [if_pos vb, if_pos ⟨va, vb⟩]
      simp only [Option.bind_some, if_true]
      exact implStory_go (valid_len va) (valid_len vb) st hst st.length 0 0 0 0 K (by omega) (by omega) (by omega) (by omega) (by omega) (by omega)
    · rw [if_neg vb, if_neg (fun h => vb h.2)]
      rfl
  · rw [if_neg va, if_neg (by simp), if_neg (fun h => va h.1)]
    rfl
theorem specStory_eq {K : Nat} {a b : List En} {st : List St} (hst : st.length ≤ 1048576) (hK : 9000000 < K) : spec_CheckStory.f K a b st = some (resStory a b st) := by
  obtain ⟨K, rfl⟩ : ∃ m, K = m + 1 := ⟨K - 1, by omega⟩
  unfold spec_CheckStory.f resStory
  rw [specOk_log (by omega), specOk_log (by omega)]
  simp only [Option.bind_some]
  by_cases va : validG a = true
  · rw [if_pos va]
    by_cases vb : validG b = true
    · rw [vb, if_pos ⟨va, rfl⟩]
      simp only [spec_CheckStory.j0]
      rw [if_neg (by simp)]
      exact specStory_go (valid_len va) (valid_len vb) st hst st.length 0 0 0 0 K (by omega) (by omega) (by omega) (by omega) (by omega) (by omega)
    · rw [if_neg (fun h => vb h.2)]
      simp only [Bool.not_eq_true] at vb
      rw [vb]
      simp only [spec_CheckStory.j0]
      rfl
  · rw [if_neg va, if_neg (fun h => va h.1)]
    simp only [spec_CheckStory.j0]
    rfl

end Go.Proofs.Ytidkniacmcbgiaa.G.Pure
end

section
namespace Go.Proofs.Ytidkniacmcbgiaa.G.Pure
open Go.RowKit Go.Proofs.Ytidkniacmcbgiaa.G Go.Proofs.YtidkniacmcbgiaaW.PrintWords Go.Proofs.YtidkniacmcbgiaaW.PrintLast Go.Proofs.YtidkniacmcbgiaaW.PrintMore
set_option linter.unusedVariables false
set_option linter.unusedSimpArgs false
theorem FnExactCheckStory (l0 : List (S75)) (l1 : List (S75)) (l2 : List (S103)) (h00 : l0.length ≤ 9223372036854775807) (h01 : (∀ x ∈ l0, (Lit.int .i64 x.f0).wf = true ∧ (Lit.int .i64 x.f1).wf = true ∧ True)) (h10 : l1.length ≤ 9223372036854775807) (h11 : (∀ x ∈ l1, (Lit.int .i64 x.f0).wf = true ∧ (Lit.int .i64 x.f1).wf = true ∧ True)) (h20 : l2.length ≤ 9223372036854775807) (h21 : (∀ x ∈ l2, (Lit.int .i64 x.f0).wf = true ∧ (Lit.int .i64 x.f1).wf = true)) : ∃ k, laws_FnExactCheckStory.f k l0 l1 l2 = some true := by
  by_cases hL : l0.length ≤ 1048576
  · by_cases hL1 : l1.length ≤ 1048576 - l0.length
    · by_cases hL2 : l2.length ≤ 1048576 - l0.length - l1.length
      · obtain ⟨k, hk⟩ : ∃ k, 9900000 < k := ⟨_, Nat.lt_succ_self _⟩
        refine ⟨k + 1, ?_⟩
        have e0 := toLog_eq (k + 1) l0 hL (by omega)
        have e1 := toLog_eq (k + 1) l1 (by omega) (by omega)
        have e2 := toStepS_eq (k + 1) l2 (by omega) (by omega)
        have f0 := toLog_eq k l0 hL (by omega)
        have f1 := toLog_eq k l1 (by omega) (by omega)
        have f2 := toStepS_eq k l2 (by omega) (by omega)
        have q0 := eqLog_self k (l0.map entryOf) (by simpa using hL) (by simp; omega)
        have q1 := eqLog_self k (l1.map entryOf) (by simp; omega) (by simp; omega)
        have q2 := eqStepS_self k (l2.map stepOf) (by simp; omega) (by simp; omega)
        have s1 := specStory_eq (K := k + 1) (a := l0.map entryOf) (b := l1.map entryOf) (st := l2.map stepOf) (by simp; omega) (by omega)
        have i1 := implStory_eq (K := k + 1) (a := l0.map entryOf) (b := l1.map entryOf) (st := l2.map stepOf) (by simpa using hL) (by simp; omega) (by simp; omega) (by omega)
        generalize resStory (l0.map entryOf) (l1.map entryOf) (l2.map stepOf) = res at *
        unfold laws_FnExactCheckStory.f
        rw [szLog_eq _ _ (by omega) (by omega) h00, if_neg (by omega)]
        simp only [Option.bind_some]
        rw [if_neg (by omega), szLog_eq _ _ (by omega) (by omega) h10, if_neg (by omega)]
        simp only [Option.bind_some]
        rw [if_neg (by omega), szStepS_eq _ _ (by omega) (by omega) h20, if_neg (by omega)]
        simp only [Option.bind_some]
        rw [if_neg (by omega)]
        simp [laws_FnExactCheckStory.j0, e0, e1, e2, f0, f1, f2, q0, q1, q2, s1, i1]
      · refine ⟨0, ?_⟩
        unfold laws_FnExactCheckStory.f
        rw [szLog_eq _ _ (by omega) (by omega) h00, if_neg (by omega)]
        simp only [Option.bind_some]
        rw [if_neg (by omega), szLog_eq _ _ (by omega) (by omega) h10, if_neg (by omega)]
        simp only [Option.bind_some]
        rw [if_neg (by omega), szStepS_eq _ _ (by omega) (by omega) h20, if_pos (by omega)]
        rfl
    · refine ⟨0, ?_⟩
      unfold laws_FnExactCheckStory.f
      rw [szLog_eq _ _ (by omega) (by omega) h00, if_neg (by omega)]
      simp only [Option.bind_some]
      rw [if_neg (by omega), szLog_eq _ _ (by omega) (by omega) h10, if_pos (by omega)]
      rfl
  · refine ⟨0, ?_⟩
    unfold laws_FnExactCheckStory.f
    rw [szLog_eq _ _ (by omega) (by omega) h00, if_pos (by omega)]
    rfl

end Go.Proofs.Ytidkniacmcbgiaa.G.Pure
end

section

end
