/- The law's functions, their contracts, and the plain lemmas: texts of this claim, laid together. -/
import Derived.Test.YtidkniacmcbgiaaMFnExactLongestUp0
import Derived.Test.YtidkniacmcbgiaaMFnExactLongestUp1
section
namespace Go.Proofs.Ytidkniacmcbgiaa.G
open Go.RowKit Go.Proofs.YtidkniacmcbgiaaW.PrintWords Go.Proofs.YtidkniacmcbgiaaW.PrintLast Go.Proofs.YtidkniacmcbgiaaW.PrintMore
attribute [local go_sem] max2_int min2_int max_two min_two max_three min_three max_four min_four
set_option linter.unusedVariables false
set_option linter.unusedSimpArgs false

/-! ### impl_UpAt: function 33 -/
mutual
def impl_UpAt.j0 : Nat → List (S73) → Int → Option (List Int × Int)
  | 0, _, _ => none
  | k + 1, x0, x6 => if 0 ≤ x6 then (if x6 ≤ (x0.length : Int) then ((impl_Log_up.f (x0.take (x6 : Int).toNat)).bind fun bt109 => (impl_UpAt.l0 k x0 (([] : List Int)) bt109.1 (bt109.1.length : Int) 0)) else (none)) else (none)
def impl_UpAt.l0 : Nat → List (S73) → List Int → List Int → Int → Int → Option (List Int × Int)
  | 0, _, _, _, _, _ => none
  | k + 1, x0, x9, x35, x36, x37 => if x37 < x36 then (if 0 ≤ x37 then (if x37 < (x35.length : Int) then (if 0 ≤ (rd x35 x37) then (if (rd x35 x37) < (x0.length : Int) then (if x9.length < 17592186044416 then (impl_UpAt.l0 k x0 (x9 ++ [(rd_T73 x0 (rd x35 x37)).f1]) x35 x36 (wrap64 (x37 + 1))) else (none)) else (none)) else (none)) else (none)) else (none)) else (some (x9, 0))
end
def impl_UpAt.f (k : Nat) (l0 : List (S73)) (a1 : Int) : Option (List Int × Int) := (impl_ValidLog.f l0).bind fun t102 => (if t102 = true then ((impl_within.f a1 0 100000).bind fun t103 => (if t103 = true then ((slices_IndexFunc_Log_Entry__impl_UpAt_1.f l0 a1).bind fun t104 => (if t104 < 0 then (impl_UpAt.j0 k l0 (l0.length : Int)) else (impl_UpAt.j0 k l0 t104))) else (some (([] : List Int), 2)))) else (some (([] : List Int), 1)))
set_option maxHeartbeats 8000000 in
set_option maxRecDepth 100000 in
theorem impl_UpAt.calls (k : Nat) (A0 : Option Addr) (c0 : Nat) (l0 : List (S73)) (a1 : Int) (r1 : List Int) (r2 : Int) (w : World) (hr0 : Kd.C k73 w A0 l0.length l0) (hc0 : l0.length ≤ c0) (h : impl_UpAt.f k l0 a1 = some (r1, r2)) :
    Calls Try.prog 33 #[.slice A0 l0.length c0, .int .i64 a1] w fun e w' => ∃ v0_ : Value, e = .returned (.tuple #[v0_, .int .i64 r2]) ∧ Kd.R (Kd.int .i64) 2 w' w.heap.size (fun _ => True) v0_ r1 ∧ Below w.heap.size w w' := by
  have HR0 := Aside0.mk hr0
  have HC0 := Aside0.mk hc0
  clear hr0 hc0
  have HB := Aside0.mk (Below.refl w.heap.size w)
  have H : ((impl_ValidLog.f l0).bind fun t102 => (if t102 = true then ((impl_within.f a1 0 100000).bind fun t103 => (if t103 = true then ((slices_IndexFunc_Log_Entry__impl_UpAt_1.f l0 a1).bind fun t104 => (if t104 < 0 then (impl_UpAt.j0 k l0 (l0.length : Int)) else (impl_UpAt.j0 k l0 t104))) else (some (([] : List Int), 2)))) else (some (([] : List Int), 1)))) = some (r1, r2) := h
  clear h
  replace H := Option.bind_eq_some_iff.mp H
  obtain ⟨t102, A30, H⟩ := H
  replace H : (if t102 = true then ((impl_within.f a1 0 100000).bind fun t103 => (if t103 = true then ((slices_IndexFunc_Log_Entry__impl_UpAt_1.f l0 a1).bind fun t104 => (if t104 < 0 then (impl_UpAt.j0 k l0 (l0.length : Int)) else (impl_UpAt.j0 k l0 t104))) else (some (([] : List Int), 2)))) else (some (([] : List Int), 1))) = some (r1, r2) := H
  have A3 := Aside0.mk A30
  clear A30
  by_cases c4 : t102 = true
  · subst c4
    have H1 : ((impl_within.f a1 0 100000).bind fun t103 => (if t103 = true then ((slices_IndexFunc_Log_Entry__impl_UpAt_1.f l0 a1).bind fun t104 => (if t104 < 0 then (impl_UpAt.j0 k l0 (l0.length : Int)) else (impl_UpAt.j0 k l0 t104))) else (some (([] : List Int), 2)))) = some (r1, r2) := by rw [if_pos rfl] at H; exact H
    clear H
    have H := H1
    clear H1
    replace H := Option.bind_eq_some_iff.mp H
    obtain ⟨t103, A50, H⟩ := H
    replace H : (if t103 = true then ((slices_IndexFunc_Log_Entry__impl_UpAt_1.f l0 a1).bind fun t104 => (if t104 < 0 then (impl_UpAt.j0 k l0 (l0.length : Int)) else (impl_UpAt.j0 k l0 t104))) else (some (([] : List Int), 2))) = some (r1, r2) := H
    have A5 := Aside0.mk A50
    clear A50
    by_cases c6 : t103 = true
    · subst c6
      have H1 : ((slices_IndexFunc_Log_Entry__impl_UpAt_1.f l0 a1).bind fun t104 => (if t104 < 0 then (impl_UpAt.j0 k l0 (l0.length : Int)) else (impl_UpAt.j0 k l0 t104))) = some (r1, r2) := by rw [if_pos rfl] at H; exact H
      clear H
      have H := H1
      clear H1
      replace H := Option.bind_eq_some_iff.mp H
      obtain ⟨t104, A70, H⟩ := H
      replace H : (if t104 < 0 then (impl_UpAt.j0 k l0 (l0.length : Int)) else (impl_UpAt.j0 k l0 t104)) = some (r1, r2) := H
      have A7 := Aside0.mk A70
      clear A70
      have HC8 := Aside0.mk H
      clear H
      go_enter Try.func33, Try.ntmps33
      go_upto_if 24 with (first | ((with_reducible refine gate_dst (N := 3) rfl ?_); refine box_event ?hg (N := 3) ?hd (cs := #[.int .i64 a1]) (t := 2) ?hr ?_; (case hd => rfl); (case hg => rfl); (case hr => first | (go_simp; done) | (go_simp; rfl)); intro gb101 hg w9 hbox hb; have n0_ := Aside0.mk (below_step (by repeat (first | (with_reducible first | exact HB.out | apply below_alloc | apply pw_below_drewN | apply below_drew1) | exact HB.out)) hb); have n1_ := Aside0.mk (hbox); have n2_ := Aside0.mk ((by rw [hg]; exact (below_size (by repeat (first | (with_reducible first | exact HB.out | apply below_alloc | apply pw_below_drewN | apply below_drew1) | exact HB.out))) : w.heap.size ≤ gb101)); have n3_ := Aside0.mk ((by rw [hg]; exact (below_size (by repeat (first | (with_reducible first | exact HB.out | apply below_alloc | apply pw_below_drewN | apply below_drew1) | exact HB.out))) : w.heap.size ≤ gb101)); clear HB; have HB := n0_; have BK101 := n1_; have GW101 := n2_; have GE101 := n3_; clear n0_ n1_ n2_ n3_; clear hb hbox hg) | ((with_reducible refine gate_callee (f := 25) rfl ?_); refine goesL_ (some 14) rfl rfl Try.func25 (by kernel_rfl) rfl #[.slice A0 l0.length c0] rfl (by (try simp only [List.map_toArray, List.map_cons, List.map_nil]); first | done | rfl | (simp only [List.length_drop, List.length_take]; rfl)) ?_; (with_reducible refine (impl_ValidLog.calls _ _ l0 true _ ?side1 ?side2 A3.out).mono ?_); (case side1 => repeat (first | exact (Kd.C_below HR0.out HB.out) | (with_reducible refine Kd.C_alloc ?_ _) | (with_reducible refine Kd.C_drewN ?_ _) | (with_reducible refine Kd.C_drew ?_))); (case side2 => exact HC0.out); rintro e w10 ⟨rfl, hb⟩; refine ⟨_, rfl, ?_⟩; have n0_ := Aside0.mk (blk_below (g := gb101) (o := .cells #[.int .i64 a1] 2 (0, 0)) (by (with_reducible repeat (first | refine blk_drewN ?_ _ | refine blk_drew ?_ | refine blk_alloc ?_ _)); exact BK101.out) hb); have n1_ := Aside0.mk (below_step (by repeat (first | (with_reducible first | exact HB.out | apply below_alloc | apply pw_below_drewN | apply below_drew1 | refine below_set ?_ GE101.out) | exact HB.out)) hb); clear BK101; clear HB; have BK101 := n0_; have HB := n1_; clear n0_ n1_; (try clear hb); (try clear hb2); (try clear hk); (try clear hi); have hcz11_0 : w10.cell? ⟨gb101, 0, none⟩ = some (.int .i64 a1) := (blk_cell BK101.out 0).trans rfl; have hfz11_0 := blk_frozen BK101.out 0) | ((with_reducible refine gate_callee (f := 79) rfl ?_); refine goesL_ (some 18) rfl rfl Try.func79 (by kernel_rfl) rfl #[.int .i64 a1, .int .i64 0, .int .i64 100000] rfl (by (try simp only [List.map_toArray, List.map_cons, List.map_nil]); first | done | rfl | (simp only [List.length_drop, List.length_take]; rfl)) ?_; (with_reducible refine (impl_within.calls a1 0 100000 true _ A5.out).mono ?_); rintro e w' ⟨rfl, ⟨nd, rfl⟩⟩; refine ⟨_, rfl, ?_⟩) | ((with_reducible refine gate_callee (f := 81) rfl ?_); refine goesL_ (some 22) rfl rfl Try.func81 (by kernel_rfl) rfl #[.slice A0 l0.length c0, .func (.func 82) #[] #[.pointer (some ⟨gb101, 0, none⟩)]] rfl (by (try simp only [List.map_toArray, List.map_cons, List.map_nil]); first | done | rfl | (simp only [List.length_drop, List.length_take]; rfl)) ?_; (with_reducible refine (slices_IndexFunc_Log_Entry__impl_UpAt_1.calls _ _ l0 a1 gb101 t104 _ ?side1 ?side2 ?side3 A7.out).mono ?_); (case side1 => repeat (first | exact (Kd.C_below HR0.out (by repeat (first | (with_reducible first | exact HB.out | apply below_alloc | apply pw_below_drewN | apply below_drew1 | refine below_set ?_ GE101.out) | exact HB.out))) | (with_reducible refine Kd.C_alloc ?_ _) | (with_reducible refine Kd.C_drewN ?_ _) | (with_reducible refine Kd.C_drew ?_))); (case side2 => exact HC0.out); (case side3 => (with_reducible repeat (first | refine blk_drewN ?_ _ | refine blk_drew ?_ | refine blk_alloc ?_ _)); exact BK101.out); rintro e w12 ⟨rfl, hb⟩; refine ⟨_, rfl, ?_⟩; have n0_ := Aside0.mk (blk_below (g := gb101) (o := .cells #[.int .i64 a1] 2 (0, 0)) (by (with_reducible repeat (first | refine blk_drewN ?_ _ | refine blk_drew ?_ | refine blk_alloc ?_ _)); exact BK101.out) hb); have n1_ := Aside0.mk (below_step (by repeat (first | (with_reducible first | exact HB.out | apply below_alloc | apply pw_below_drewN | apply below_drew1 | refine below_set ?_ GE101.out) | exact HB.out)) hb); clear BK101; clear HB; have BK101 := n0_; have HB := n1_; clear n0_ n1_; (try clear hb); (try clear hb2); (try clear hk); (try clear hi)))
      (try simp only [Act.put, List.setIfInBounds_toArray, List.set_cons_zero, List.set_cons_succ])
      go_cut [6] (fun v6 wc => ∃ (kq : Nat) (x6_7 : Int), v6 = .int .i64 x6_7 ∧ Aside0 (impl_UpAt.j0 kq l0 x6_7 = some (r1, r2)) ∧ Aside0 (kq ≤ k) ∧ Aside0 (wc.heap[gb101]? = some (.cells #[.int .i64 a1] 2 (0, 0))) ∧ Aside0 (Below w.heap.size w wc))
      case first =>
        have H := HC8.out
        clear HC8
        by_cases c13 : t104 < 0
        · rw [if_pos c13] at H
          have c13b0 : decide (t104 < 0) = true := decide_eq_true c13
          clear c13
          (first | rw [c13b0] | (simp only [i64_w, i32_w]; rw [c13b0]) | skip)
          have H' := Aside0.mk H
          clear H
          go_wp2
          go_meet
          case rel => exact ⟨_, ((l0.length : Int)), (by first | rfl | (simp only [IntKind.wrap_i64, wrap64]; done) | (simp; done) | (simp [*]; done)), H', ⟨by first | omega | exact Nat.le_refl _⟩, ⟨by (with_reducible repeat (first | refine blk_drewN ?_ _ | refine blk_drew ?_ | refine blk_alloc ?_ _)); exact BK101.out⟩, ⟨by repeat (first | (with_reducible first | exact HB.out | apply below_alloc | apply pw_below_drewN | apply below_drew1 | refine below_set ?_ GE101.out) | exact HB.out)⟩⟩
        · rw [if_neg c13] at H
          have c13b0 : decide (t104 < 0) = false := decide_eq_false c13
          clear c13
          (first | rw [c13b0] | (simp only [i64_w, i32_w]; rw [c13b0]) | skip)
          have H' := Aside0.mk H
          clear H
          go_wp2
          go_meet
          case rel => exact ⟨_, (t104), (by first | rfl | (simp only [IntKind.wrap_i64, wrap64]; done) | (simp; done) | (simp [*]; done)), H', ⟨by first | omega | exact Nat.le_refl _⟩, ⟨by (with_reducible repeat (first | refine blk_drewN ?_ _ | refine blk_drew ?_ | refine blk_alloc ?_ _)); exact BK101.out⟩, ⟨by repeat (first | (with_reducible first | exact HB.out | apply below_alloc | apply pw_below_drewN | apply below_drew1 | refine below_set ?_ GE101.out) | exact HB.out)⟩⟩
      case rest =>
        clear HC8
        try clear c1
        try clear c2
        try clear p2
        try clear c3
        try clear c4
        try clear c6
        try clear c7
        try clear c8
        try clear c13
        try clear c13b0
        try clear hcz11_0
        try clear hfz11_0
        obtain ⟨kq, x6_7, rfl, HA, HJ7, BK101, HB⟩ := hcut
        cases kq with
        | zero => exact absurd HA.out (by simp [impl_UpAt.j0])
        | succ kj7 =>
          have H := HA.out
          clear HA
          simp only [impl_UpAt.j0] at H
          by_cases c14 : 0 ≤ x6_7
          · rw [if_pos c14] at H
            have c14b0 := eq_true c14
            have c14b1 : decide (0 ≤ x6_7) = true := decide_eq_true c14
            clear c14
            by_cases c15 : x6_7 ≤ (l0.length : Int)
            · rw [if_pos c15] at H
              have c15b0 := eq_true c15
              have c15b1 : decide (x6_7 ≤ (l0.length : Int)) = true := decide_eq_true c15
              clear c15
              obtain ⟨y105, hy105⟩ : ∃ y_ : List (S73), y_ = (l0.take (x6_7 : Int).toNat) := ⟨_, rfl⟩
              replace H : ((impl_Log_up.f y105).bind fun bt109 => (impl_UpAt.l0 kj7 l0 (([] : List Int)) bt109.1 (bt109.1.length : Int) 0)) = some (r1, r2) := by first | (rw [hy105]; with_reducible exact H) | (have H2_ := (Option.bind_some _ _).symm.trans H; rw [hy105]; with_reducible exact H2_) | (have H2_ := (Option.bind_some _ _).symm.trans H; with_reducible exact H2_) | with_reducible exact H | (rw [hy105]; exact H) | exact H
              have Ny105 := Aside0.mk hy105
              clear hy105
              replace H := Option.bind_eq_some_iff.mp H
              obtain ⟨⟨t109, t110⟩, A160, H⟩ := H
              replace H : (impl_UpAt.l0 kj7 l0 (([] : List Int)) t109 (t109.length : Int) 0) = some (r1, r2) := H
              have A16 := Aside0.mk A160
              clear A160
              obtain ⟨y113, hy113⟩ : ∃ y_ : List Int, y_ = (([] : List Int)) := ⟨_, rfl⟩
              replace H : (impl_UpAt.l0 kj7 l0 y113 t109 (t109.length : Int) 0) = some (r1, r2) := by first | (rw [hy113]; with_reducible exact H) | (have H2_ := (Option.bind_some _ _).symm.trans H; rw [hy113]; with_reducible exact H2_) | (have H2_ := (Option.bind_some _ _).symm.trans H; with_reducible exact H2_) | with_reducible exact H | (rw [hy113]; exact H) | exact H
              have Ny113 := Aside0.mk hy113
              clear hy113
              have H' := Aside0.mk H
              clear H
              have q17 : (x6_7 : Int) ≤ ((l0.length : Int) : Int) := of_decide_eq_true (by first | (with_reducible assumption) | assumption)
              obtain ⟨i017, hi017, _, hsz17, _⟩ := info_parts info73
              have hroom17 : l0.length ≤ c0 := HC0.out
              have hC17 : Kd.C k73 _ A0 l0.length l0 := HR0.out
              have hcut17 := cut_to (P := Try.prog) 26 73 .i64 Try.underlying26 hi017 A0 l0.length c0 x6_7 (of_decide_eq_true (by first | (with_reducible assumption) | assumption)) q17 hroom17
              have hr17 := Kd.C_take (m := (x6_7 : Int).toNat) hC17 (by omega)
              have hy17 : y105.length = (x6_7 : Int).toNat := (by rw [Ny105.out, List.length_take]; omega)
              rw [← Ny105.out] at hr17
              rw [← hy17] at hcut17
              have HR108 := Aside0.mk hr17
              have HC108 := Aside0.mk (show y105.length ≤ c0 from by omega)
              clear hr17 hC17 hroom17 hi017 hsz17
              have KY17 := Aside0.mk hy17
              clear hy17
              replace q17 := eq_true q17
              go_wp2_with (first | ((with_reducible refine gate_callee (f := 75) rfl ?_); refine goesL_ (some 31) rfl rfl Try.func75 (by kernel_rfl) rfl #[.slice A0 y105.length c0] rfl (by (try simp only [List.map_toArray, List.map_cons, List.map_nil]); first | done | rfl | (simp only [List.length_drop, List.length_take]; rfl)) ?_; (with_reducible refine (impl_Log_up.calls _ _ y105 t109 t110 _ ?side1 ?side2 A16.out).mono ?_); (case side1 => repeat (first | exact (Kd.C_below HR108.out HB.out) | (with_reducible refine Kd.C_alloc ?_ _) | (with_reducible refine Kd.C_drewN ?_ _) | (with_reducible refine Kd.C_drew ?_))); (case side2 => exact HC108.out); rintro e w18 ⟨v111, rfl, ho0, hb⟩; refine ⟨_, rfl, ?_⟩; have n0_ := Aside0.mk (Kd.R_lower ho0 (below_size (by repeat (first | (with_reducible first | exact HB.out | apply below_alloc | apply pw_below_drewN | apply below_drew1 | refine below_set ?_ GE101.out) | exact HB.out)))); have n1_ := Aside0.mk (blk_below (g := gb101) (o := .cells #[.int .i64 a1] 2 (0, 0)) (by (with_reducible repeat (first | refine blk_drewN ?_ _ | refine blk_drew ?_ | refine blk_alloc ?_ _)); exact BK101.out) hb); have n2_ := Aside0.mk (below_step (by repeat (first | (with_reducible first | exact HB.out | apply below_alloc | apply pw_below_drewN | apply below_drew1 | refine below_set ?_ GE101.out) | exact HB.out)) hb); clear BK101; clear HB; have HO112 := n0_; have BK101 := n1_; have HB := n2_; clear n0_ n1_ n2_; (try clear hb); (try clear hb2); (try clear hk); (try clear hi); (try clear ho0)) | ((with_reducible refine gate_dst (N := 34) rfl ?_); refine Kd.R_lit (Kd.int .i64) _ 2 ?hg (N := 34) ?hd (xs := ([] : List Int)) (inner := []) (ok := fun _ => True) (okp := fun _ => True) ?hr ?hp (fun _ hk => hk) trivial (Below.refl _ _) (Nat.le_refl _) (by simp) ?_; (case hd => rfl); (case hg => rfl); (case hr => first | (go_simp; done) | (go_simp; rfl)); (case hp => exact (Reps.none _ _)); intro v114 w19 ho20 hb hg_ hnew_; clear hg_ hnew_; (first | rw [← Ny113.out] at ho20 | (simp only [Int.reduceToNat] at ho20; rw [← Ny113.out] at ho20)); have n0_ := Aside0.mk (Kd.R_below (by (with_reducible repeat (first | apply Kd.R_alloc | apply Kd.R_drewN | apply Kd.R_drew)); exact HO112.out) hb); have n1_ := Aside0.mk (Kd.R_lower (Kd.R_newB ho20 (g := gb101) (o := .cells #[.int .i64 a1] 2 (0, 0)) (by (with_reducible repeat (first | refine blk_drewN ?_ _ | refine blk_drew ?_ | refine blk_alloc ?_ _)); exact BK101.out)) (below_size (by repeat (first | (with_reducible first | exact HB.out | apply below_alloc | apply pw_below_drewN | apply below_drew1 | refine below_set ?_ GE101.out) | exact HB.out)))); have n2_ := Aside0.mk (blk_below (g := gb101) (o := .cells #[.int .i64 a1] 2 (0, 0)) (by (with_reducible repeat (first | refine blk_drewN ?_ _ | refine blk_drew ?_ | refine blk_alloc ?_ _)); exact BK101.out) hb); have n3_ := Aside0.mk (below_step (by repeat (first | (with_reducible first | exact HB.out | apply below_alloc | apply pw_below_drewN | apply below_drew1 | refine below_set ?_ GE101.out) | exact HB.out)) hb); clear HO112; clear BK101; clear HB; have HO112 := n0_; have HO115 := n1_; have BK101 := n2_; have HB := n3_; clear n0_ n1_ n2_ n3_; clear hb ho20; obtain ⟨Ao21, co21, eo21⟩ := Kd.R_slice HO112.out; subst eo21))
              go_loopg [9, 37] kj7 (fun kq v9 v37 w' => ∃ (x9_2 : List Int) (x37_2 : Int), v37 = .int .i64 x37_2 ∧ Aside0 (impl_UpAt.l0 kq l0 x9_2 t109 (t109.length : Int) x37_2 = some (r1, r2)) ∧ Aside0 (kq ≤ kj7) ∧ Aside0 (Kd.R (Kd.int .i64) 2 w' w.heap.size (fun k_ => k_ ≠ gb101) v9 x9_2) ∧ Aside0 (Kd.R (Kd.int .i64) 3 w' w.heap.size (fun _ => True) (.slice Ao21 t109.length co21) t109) ∧ Aside0 (w'.heap[gb101]? = some (.cells #[.int .i64 a1] 2 (0, 0))) ∧ Aside0 (Below w.heap.size w w'))
              case atStart => exact ⟨(y113), (0), (by first | rfl | (simp only [IntKind.wrap_i64, wrap64]; done) | (simp; done) | (simp [*]; done)), H', ⟨Nat.le_refl _⟩, ⟨by (with_reducible repeat (first | apply Kd.R_alloc | apply Kd.R_drewN | apply Kd.R_drew)); exact Kd.R_mono HO115.out (fun _ hk => hk.2)⟩, ⟨by (with_reducible repeat (first | apply Kd.R_alloc | apply Kd.R_drewN | apply Kd.R_drew)); exact HO112.out⟩, ⟨by (with_reducible repeat (first | refine blk_drewN ?_ _ | refine blk_drew ?_ | refine blk_alloc ?_ _)); exact BK101.out⟩, ⟨by repeat (first | (with_reducible first | exact HB.out | apply below_alloc | apply pw_below_drewN | apply below_drew1 | refine below_set ?_ GE101.out) | exact HB.out)⟩⟩
              case round =>
                clear H'
                try clear c1
                try clear q1
                try clear c2
                try clear p2
                try clear c3
                try clear c4
                try clear c6
                try clear c7
                try clear c8
                try clear c13
                try clear c13b0
                try clear c14
                try clear c14b0
                try clear c14b1
                try clear c15
                try clear c15b0
                try clear c15b1
                try clear q17
                try clear hcz11_0
                try clear hfz11_0
                try clear p2
                try clear q17
                obtain ⟨x9_2, x37_2, rfl, HA, HK2, HO_9, HO_35, BK101, HB⟩ := hrel
                cases gk with
                | zero => exact absurd HA.out (by simp [impl_UpAt.l0])
                | succ k2 =>
                  have H := HA.out
                  clear HA
                  simp only [impl_UpAt.l0] at H
                  by_cases c22 : x37_2 < (t109.length : Int)
                  · rw [if_pos c22] at H
                    have c22b0 : decide (x37_2 < (t109.length : Int)) = true := decide_eq_true c22
                    clear c22
                    by_cases c23 : 0 ≤ x37_2
                    · rw [if_pos c23] at H
                      have c23b0 : decide (0 ≤ x37_2) = true := decide_eq_true c23
                      clear c23
                      by_cases c24 : x37_2 < (t109.length : Int)
                      · rw [if_pos c24] at H
                        have c24b0 : decide (x37_2 < (t109.length : Int)) = true := decide_eq_true c24
                        clear c24
                        by_cases c25 : 0 ≤ (rd t109 x37_2)
                        · rw [if_pos c25] at H
                          have c25b0 : decide (0 ≤ (rd t109 x37_2)) = true := decide_eq_true c25
                          clear c25
                          by_cases c26 : (rd t109 x37_2) < (l0.length : Int)
                          · rw [if_pos c26] at H
                            have c26b0 : decide ((rd t109 x37_2) < (l0.length : Int)) = true := decide_eq_true c26
                            clear c26
                            by_cases c27 : x9_2.length < 17592186044416
                            · rw [if_pos c27] at H
                              have LMc27 := Aside0.mk c27
                              clear c27
                              obtain ⟨y118, hy118⟩ : ∃ y_ : List Int, y_ = (x9_2 ++ [(rd_T73 l0 (rd t109 x37_2)).f1]) := ⟨_, rfl⟩
                              replace H : (impl_UpAt.l0 k2 l0 y118 t109 (t109.length : Int) (wrap64 (x37_2 + 1))) = some (r1, r2) := by first | (rw [hy118]; with_reducible exact H) | (have H2_ := (Option.bind_some _ _).symm.trans H; rw [hy118]; with_reducible exact H2_) | (have H2_ := (Option.bind_some _ _).symm.trans H; with_reducible exact H2_) | with_reducible exact H | (rw [hy118]; exact H) | exact H
                              have Ny118 := Aside0.mk hy118
                              clear hy118
                              have H' := Aside0.mk H
                              clear H
                              have p116 : 0 ≤ (x37_2 : Int) := of_decide_eq_true (by first | (with_reducible assumption) | assumption)
                              have q116 : x37_2 < (t109.length : Int) := of_decide_eq_true (by first | (with_reducible assumption) | assumption)
                              obtain ⟨ad116, e116, hx116_0⟩ := Kd.at_int (Kd.R_reads' HO_35.out).2.2 x37_2 p116 q116
                              cases e116
                              replace p116 := eq_true p116
                              replace q116 := eq_true q116
                              have p117 : 0 ≤ ((rd t109 x37_2) : Int) := of_decide_eq_true (by first | (with_reducible assumption) | assumption)
                              have q117 : (rd t109 x37_2) < (l0.length : Int) := of_decide_eq_true (by first | (with_reducible assumption) | assumption)
                              obtain ⟨ad117, e117, hx117_0, hx117_1, hx117_2⟩ := at_T73 HR0.out (rd t109 x37_2) p117 q117
                              cases e117
                              replace hx117_0 := (HB.out.cell (World.block_lt_of_cell? w _ hx117_0)).trans hx117_0
                              replace hx117_1 := (HB.out.cell (World.block_lt_of_cell? w _ hx117_1)).trans hx117_1
                              replace hx117_2 := (HB.out.cell (World.block_lt_of_cell? w _ hx117_2)).trans hx117_2
                              replace p117 := eq_true p117
                              replace q117 := eq_true q117
                              go_wp2_with (first | ((with_reducible refine gate_builtin (b := .append) (xs := #[.tmp 41, .tmp 47]) rfl ?_); at_builtin; refine Kd.R_append (Kd.int .i64) (w0 := w) w.heap.size rfl (.tmp 41) (.tmp 47) 37 2 (.int .i64 0) 8 rfl Try.underlying37 info2 rfl (by decide) (by omega) u9 x9_2 ((rd_T73 l0 (rd t109 x37_2)).f1) [.int .i64 ((rd_T73 l0 (rd t109 x37_2)).f1)] (fun k_ => k_ ≠ gb101) (fun _ => False) rfl rfl ?aP (fun _ hk => hk.elim) ?aF ?aO ?aB ?aS ?aL ?_; (case aP => exact rfl); (case aB => exact (by repeat (first | (with_reducible first | exact HB.out | apply below_alloc | apply pw_below_drewN | apply below_drew1 | refine below_set ?_ GE101.out) | exact HB.out))); (case aF => exact (fun k_ hk => Kd.freshB (g := gb101) (o := .cells #[.int .i64 a1] 2 (0, 0)) (by (with_reducible repeat (first | refine blk_drewN ?_ _ | refine blk_drew ?_ | refine blk_alloc ?_ _)); exact BK101.out) k_ hk)); (case aO => exact (by (with_reducible repeat (first | apply Kd.R_alloc | apply Kd.R_drewN | apply Kd.R_drew)); exact HO_9.out)); (case aS => exact (below_size (by repeat (first | (with_reducible first | exact HB.out | apply below_alloc | apply pw_below_drewN | apply below_drew1 | refine below_set ?_ GE101.out) | exact HB.out)))); (case aL => have := LMc27.out; omega); intro v119 w28 ho hb hg hat; rw [← Ny118.out] at ho; have n0_ := Aside0.mk (Kd.R_over' (by (with_reducible repeat (first | apply Kd.R_alloc | apply Kd.R_drewN | apply Kd.R_drew)); exact HO_35.out) (Kd.R_typed (by (with_reducible repeat (first | apply Kd.R_alloc | apply Kd.R_drewN | apply Kd.R_drew)); exact HO_9.out)) (by decide) hg); have n1_ := Aside0.mk (blk_grown (g := gb101) (o := .cells #[.int .i64 a1] 2 (0, 0)) (by (with_reducible repeat (first | refine blk_drewN ?_ _ | refine blk_drew ?_ | refine blk_alloc ?_ _)); exact BK101.out) hg (Kd.R_away HO_9.out (fun _ hk => hk))); have n2_ := Aside0.mk (hb); have n3_ := Aside0.mk (ho); clear HO_35; clear BK101; clear HB; clear HO_9; have HO_35 := n0_; have BK101 := n1_; have HB := n2_; have HO120 := n3_; clear n0_ n1_ n2_ n3_; clear ho hb hg hat))
                              go_roundg k2
                              case measure => have := HJ7.out; have := HK2.out; omega
                              case rel => exact ⟨(y118), (wrap64 (x37_2 + 1)), (by first | rfl | (simp only [IntKind.wrap_i64, wrap64]; done) | (simp; done) | (simp [*]; done)), H', ⟨by have := HJ7.out; have := HK2.out; omega⟩, ⟨by (with_reducible repeat (first | apply Kd.R_alloc | apply Kd.R_drewN | apply Kd.R_drew)); exact HO120.out⟩, ⟨by (with_reducible repeat (first | apply Kd.R_alloc | apply Kd.R_drewN | apply Kd.R_drew)); exact HO_35.out⟩, ⟨by (with_reducible repeat (first | refine blk_drewN ?_ _ | refine blk_drew ?_ | refine blk_alloc ?_ _)); exact BK101.out⟩, ⟨by repeat (first | (with_reducible first | exact HB.out | apply below_alloc | apply pw_below_drewN | apply below_drew1 | refine below_set ?_ GE101.out) | exact HB.out)⟩⟩
                            · rw [if_neg c27] at H
                              exact absurd H (by simp)
                          · rw [if_neg c26] at H
                            exact absurd H (by simp)
                        · rw [if_neg c25] at H
                          exact absurd H (by simp)
                      · rw [if_neg c24] at H
                        exact absurd H (by simp)
                    · rw [if_neg c23] at H
                      exact absurd H (by simp)
                  · rw [if_neg c22] at H
                    have c22b0 : decide (x37_2 < (t109.length : Int)) = false := decide_eq_false c22
                    clear c22
                    simp only [Option.some.injEq, Prod.mk.injEq] at H
                    obtain ⟨rfl, rfl⟩ := H
                    go_wp2
                    go_ret2
                    exact ⟨_, by first | rfl | (simp [errW_none, errW_some, IntKind.wrap_i64, wrap64]; done) | (simp [errW_none, errW_some] <;> rfl) | (simp [*, errW_none, errW_some] <;> rfl), by (with_reducible repeat (first | apply Kd.R_alloc | apply Kd.R_drewN | apply Kd.R_drew)); exact Kd.R_mono HO_9.out (fun _ hk => trivial), by repeat (first | (with_reducible first | exact HB.out | apply below_alloc | apply pw_below_drewN | apply below_drew1 | refine below_set ?_ GE101.out) | exact HB.out)⟩
            · rw [if_neg c15] at H
              exact absurd H (by simp)
          · rw [if_neg c14] at H
            exact absurd H (by simp)
    · replace c6 := Bool.eq_false_iff.mpr c6
      subst c6
      have H1 : (some (([] : List Int), 2)) = some (r1, r2) := by rw [if_neg (show ¬ (false = true) by decide)] at H; exact H
      clear H
      have H := H1
      clear H1
      simp only [Option.some.injEq, Prod.mk.injEq] at H
      obtain ⟨rfl, rfl⟩ := H
      go_enter Try.func33, Try.ntmps33
      go_wp2_with (first | ((with_reducible refine gate_dst (N := 3) rfl ?_); refine box_event ?hg (N := 3) ?hd (cs := #[.int .i64 a1]) (t := 2) ?hr ?_; (case hd => rfl); (case hg => rfl); (case hr => first | (go_simp; done) | (go_simp; rfl)); intro gb101 hg w29 hbox hb; have n0_ := Aside0.mk (below_step (by repeat (first | (with_reducible first | exact HB.out | apply below_alloc | apply pw_below_drewN | apply below_drew1) | exact HB.out)) hb); have n1_ := Aside0.mk (hbox); have n2_ := Aside0.mk ((by rw [hg]; exact (below_size (by repeat (first | (with_reducible first | exact HB.out | apply below_alloc | apply pw_below_drewN | apply below_drew1) | exact HB.out))) : w.heap.size ≤ gb101)); have n3_ := Aside0.mk ((by rw [hg]; exact (below_size (by repeat (first | (with_reducible first | exact HB.out | apply below_alloc | apply pw_below_drewN | apply below_drew1) | exact HB.out))) : w.heap.size ≤ gb101)); clear HB; have HB := n0_; have BK101 := n1_; have GW101 := n2_; have GE101 := n3_; clear n0_ n1_ n2_ n3_; clear hb hbox hg) | ((with_reducible refine gate_callee (f := 25) rfl ?_); refine goesL_ (some 14) rfl rfl Try.func25 (by kernel_rfl) rfl #[.slice A0 l0.length c0] rfl (by (try simp only [List.map_toArray, List.map_cons, List.map_nil]); first | done | rfl | (simp only [List.length_drop, List.length_take]; rfl)) ?_; (with_reducible refine (impl_ValidLog.calls _ _ l0 true _ ?side1 ?side2 A3.out).mono ?_); (case side1 => repeat (first | exact (Kd.C_below HR0.out HB.out) | (with_reducible refine Kd.C_alloc ?_ _) | (with_reducible refine Kd.C_drewN ?_ _) | (with_reducible refine Kd.C_drew ?_))); (case side2 => exact HC0.out); rintro e w30 ⟨rfl, hb⟩; refine ⟨_, rfl, ?_⟩; have n0_ := Aside0.mk (blk_below (g := gb101) (o := .cells #[.int .i64 a1] 2 (0, 0)) (by (with_reducible repeat (first | refine blk_drewN ?_ _ | refine blk_drew ?_ | refine blk_alloc ?_ _)); exact BK101.out) hb); have n1_ := Aside0.mk (below_step (by repeat (first | (with_reducible first | exact HB.out | apply below_alloc | apply pw_below_drewN | apply below_drew1 | refine below_set ?_ GE101.out) | exact HB.out)) hb); clear BK101; clear HB; have BK101 := n0_; have HB := n1_; clear n0_ n1_; (try clear hb); (try clear hb2); (try clear hk); (try clear hi); have hcz31_0 : w30.cell? ⟨gb101, 0, none⟩ = some (.int .i64 a1) := (blk_cell BK101.out 0).trans rfl; have hfz31_0 := blk_frozen BK101.out 0) | ((with_reducible refine gate_callee (f := 79) rfl ?_); refine goesL_ (some 18) rfl rfl Try.func79 (by kernel_rfl) rfl #[.int .i64 a1, .int .i64 0, .int .i64 100000] rfl (by (try simp only [List.map_toArray, List.map_cons, List.map_nil]); first | done | rfl | (simp only [List.length_drop, List.length_take]; rfl)) ?_; (with_reducible refine (impl_within.calls a1 0 100000 false _ A5.out).mono ?_); rintro e w' ⟨rfl, ⟨nd, rfl⟩⟩; refine ⟨_, rfl, ?_⟩))
      go_ret2
      exact ⟨_, by first | rfl | (simp [errW_none, errW_some, IntKind.wrap_i64, wrap64]; done) | (simp [errW_none, errW_some] <;> rfl) | (simp [*, errW_none, errW_some] <;> rfl), by first | exact Kd.R_nil _ _ _ _ _ | exact Kd.N_nil _ _ _ _ _ | exact Kd.V_nil _ _ _ _ _ | exact Kd.Q_nil _ _ _ _ _ | exact Kd.S_nil _ _ _ _ _, by repeat (first | (with_reducible first | exact HB.out | apply below_alloc | apply pw_below_drewN | apply below_drew1 | refine below_set ?_ GE101.out) | exact HB.out)⟩
  · replace c4 := Bool.eq_false_iff.mpr c4
    subst c4
    have H1 : (some (([] : List Int), 1)) = some (r1, r2) := by rw [if_neg (show ¬ (false = true) by decide)] at H; exact H
    clear H
    have H := H1
    clear H1
    simp only [Option.some.injEq, Prod.mk.injEq] at H
    obtain ⟨rfl, rfl⟩ := H
    go_enter Try.func33, Try.ntmps33
    go_wp2_with (first | ((with_reducible refine gate_dst (N := 3) rfl ?_); refine box_event ?hg (N := 3) ?hd (cs := #[.int .i64 a1]) (t := 2) ?hr ?_; (case hd => rfl); (case hg => rfl); (case hr => first | (go_simp; done) | (go_simp; rfl)); intro gb101 hg w32 hbox hb; have n0_ := Aside0.mk (below_step (by repeat (first | (with_reducible first | exact HB.out | apply below_alloc | apply pw_below_drewN | apply below_drew1) | exact HB.out)) hb); have n1_ := Aside0.mk (hbox); have n2_ := Aside0.mk ((by rw [hg]; exact (below_size (by repeat (first | (with_reducible first | exact HB.out | apply below_alloc | apply pw_below_drewN | apply below_drew1) | exact HB.out))) : w.heap.size ≤ gb101)); have n3_ := Aside0.mk ((by rw [hg]; exact (below_size (by repeat (first | (with_reducible first | exact HB.out | apply below_alloc | apply pw_below_drewN | apply below_drew1) | exact HB.out))) : w.heap.size ≤ gb101)); clear HB; have HB := n0_; have BK101 := n1_; have GW101 := n2_; have GE101 := n3_; clear n0_ n1_ n2_ n3_; clear hb hbox hg) | ((with_reducible refine gate_callee (f := 25) rfl ?_); refine goesL_ (some 14) rfl rfl Try.func25 (by kernel_rfl) rfl #[.slice A0 l0.length c0] rfl (by (try simp only [List.map_toArray, List.map_cons, List.map_nil]); first | done | rfl | (simp only [List.length_drop, List.length_take]; rfl)) ?_; (with_reducible refine (impl_ValidLog.calls _ _ l0 false _ ?side1 ?side2 A3.out).mono ?_); (case side1 => repeat (first | exact (Kd.C_below HR0.out HB.out) | (with_reducible refine Kd.C_alloc ?_ _) | (with_reducible refine Kd.C_drewN ?_ _) | (with_reducible refine Kd.C_drew ?_))); (case side2 => exact HC0.out); rintro e w33 ⟨rfl, hb⟩; refine ⟨_, rfl, ?_⟩; have n0_ := Aside0.mk (blk_below (g := gb101) (o := .cells #[.int .i64 a1] 2 (0, 0)) (by (with_reducible repeat (first | refine blk_drewN ?_ _ | refine blk_drew ?_ | refine blk_alloc ?_ _)); exact BK101.out) hb); have n1_ := Aside0.mk (below_step (by repeat (first | (with_reducible first | exact HB.out | apply below_alloc | apply pw_below_drewN | apply below_drew1 | refine below_set ?_ GE101.out) | exact HB.out)) hb); clear BK101; clear HB; have BK101 := n0_; have HB := n1_; clear n0_ n1_; (try clear hb); (try clear hb2); (try clear hk); (try clear hi)))
    go_ret2
    exact ⟨_, by first | rfl | (simp [errW_none, errW_some, IntKind.wrap_i64, wrap64]; done) | (simp [errW_none, errW_some] <;> rfl) | (simp [*, errW_none, errW_some] <;> rfl), by first | exact Kd.R_nil _ _ _ _ _ | exact Kd.N_nil _ _ _ _ _ | exact Kd.V_nil _ _ _ _ _ | exact Kd.Q_nil _ _ _ _ _ | exact Kd.S_nil _ _ _ _ _, by repeat (first | (with_reducible first | exact HB.out | apply below_alloc | apply pw_below_drewN | apply below_drew1 | refine below_set ?_ GE101.out) | exact HB.out)⟩

end Go.Proofs.Ytidkniacmcbgiaa.G
end

section
namespace Go.Proofs.Ytidkniacmcbgiaa.G
open Go.RowKit Go.Proofs.YtidkniacmcbgiaaW.PrintWords Go.Proofs.YtidkniacmcbgiaaW.PrintLast Go.Proofs.YtidkniacmcbgiaaW.PrintMore
attribute [local go_sem] max2_int min2_int max_two min_two max_three min_three max_four min_four
set_option linter.unusedVariables false
set_option linter.unusedSimpArgs false

/-! ### spec_UpAt: function 32 -/
mutual
def spec_UpAt.j1 : Nat → List (S73) → Int → Option (List Int × Int)
  | 0, _, _ => none
  | k + 1, x0, x6 => (spec_l07Up.f k x0 x6).bind fun bt110 => (spec_UpAt.l1 k x0 bt110.1 (([] : List Int)) 0)
def spec_UpAt.l1 : Nat → List (S73) → List Int → List Int → Int → Option (List Int × Int)
  | 0, _, _, _, _ => none
  | k + 1, x0, x7, x9, x10 => if x10 < (x7.length : Int) then (if 0 ≤ x10 then (if 0 ≤ (rd x7 x10) then (if (rd x7 x10) < (x0.length : Int) then (if x9.length < 17592186044416 then (spec_UpAt.l1 k x0 x7 (x9 ++ [(rd_T73 x0 (rd x7 x10)).f1]) (wrap64 (x10 + 1))) else (none)) else (none)) else (none)) else (none)) else (some (x9, 0))
def spec_UpAt.l0 : Nat → List (S73) → Int → Int → Option (List Int × Int)
  | 0, _, _, _ => none
  | k + 1, x0, x1, x6 => if x6 < (x0.length : Int) then (if 0 ≤ x6 then (if ((rd_T73 x0 x6).f0) ≤ x1 then (spec_UpAt.l0 k x0 x1 (wrap64 (x6 + 1))) else (spec_UpAt.j1 k x0 x6)) else (none)) else (spec_UpAt.j1 k x0 x6)
end
def spec_UpAt.f (k : Nat) (l0 : List (S73)) (a1 : Int) : Option (List Int × Int) := (spec_l07Ok.f k l0).bind fun t101 => (if t101 = true then ((spec_l07Time.f a1).bind fun t105 => (if t105 = true then (spec_UpAt.l0 k l0 a1 0) else (some ((([] : List Int)), 2)))) else (some ((([] : List Int)), 1)))
set_option maxHeartbeats 8000000 in
set_option maxRecDepth 100000 in
theorem spec_UpAt.calls (k : Nat) (A0 : Option Addr) (c0 : Nat) (l0 : List (S73)) (a1 : Int) (r1 : List Int) (r2 : Int) (w : World) (hr0 : Kd.C k73 w A0 l0.length l0) (hc0 : l0.length ≤ c0) (h : spec_UpAt.f k l0 a1 = some (r1, r2)) :
    Calls Try.prog 32 #[.slice A0 l0.length c0, .int .i64 a1] w fun e w' => ∃ v0_ : Value, e = .returned (.tuple #[v0_, .int .i64 r2]) ∧ Kd.R (Kd.int .i64) 2 w' w.heap.size (fun _ => True) v0_ r1 ∧ Below w.heap.size w w' := by
  have HR0 := Aside0.mk hr0
  have HC0 := Aside0.mk hc0
  clear hr0 hc0
  have HB := Aside0.mk (Below.refl w.heap.size w)
  have H : ((spec_l07Ok.f k l0).bind fun t101 => (if t101 = true then ((spec_l07Time.f a1).bind fun t105 => (if t105 = true then (spec_UpAt.l0 k l0 a1 0) else (some ((([] : List Int)), 2)))) else (some ((([] : List Int)), 1)))) = some (r1, r2) := h
  clear h
  replace H := Option.bind_eq_some_iff.mp H
  obtain ⟨t101, A30, H⟩ := H
  replace H : (if t101 = true then ((spec_l07Time.f a1).bind fun t105 => (if t105 = true then (spec_UpAt.l0 k l0 a1 0) else (some ((([] : List Int)), 2)))) else (some ((([] : List Int)), 1))) = some (r1, r2) := H
  have A3 := Aside0.mk A30
  clear A30
  by_cases c4 : t101 = true
  · subst c4
    have H1 : ((spec_l07Time.f a1).bind fun t105 => (if t105 = true then (spec_UpAt.l0 k l0 a1 0) else (some ((([] : List Int)), 2)))) = some (r1, r2) := by rw [if_pos rfl] at H; exact H
    clear H
    have H := H1
    clear H1
    replace H := Option.bind_eq_some_iff.mp H
    obtain ⟨t105, A50, H⟩ := H
    replace H : (if t105 = true then (spec_UpAt.l0 k l0 a1 0) else (some ((([] : List Int)), 2))) = some (r1, r2) := H
    have A5 := Aside0.mk A50
    clear A50
    by_cases c6 : t105 = true
    · subst c6
      have H1 : (spec_UpAt.l0 k l0 a1 0) = some (r1, r2) := by rw [if_pos rfl] at H; exact H
      clear H
      have H := H1
      clear H1
      have HC7 := Aside0.mk H
      clear H
      go_enter Try.func32, Try.ntmps32
      go_upto_block 0 with (first | ((with_reducible refine gate_callee (f := 74) rfl ?_); refine goesL_ (some 12) rfl rfl Try.func74 (by kernel_rfl) rfl #[.slice A0 l0.length c0] rfl (by (try simp only [List.map_toArray, List.map_cons, List.map_nil]); first | done | rfl | (simp only [List.length_drop, List.length_take]; rfl)) ?_; (with_reducible refine (spec_l07Ok.calls k _ _ l0 true _ ?side1 ?side2 A3.out).mono ?_); (case side1 => repeat (first | exact HR0.out | (with_reducible refine Kd.C_alloc ?_ _) | (with_reducible refine Kd.C_drewN ?_ _) | (with_reducible refine Kd.C_drew ?_))); (case side2 => exact HC0.out); rintro e w8 ⟨rfl, hb⟩; refine ⟨_, rfl, ?_⟩; have n0_ := Aside0.mk (below_step (by repeat (first | (with_reducible first | exact HB.out | apply below_alloc | apply pw_below_drewN | apply below_drew1) | exact HB.out)) hb); clear HB; have HB := n0_; clear n0_; (try clear hb); (try clear hb2); (try clear hk); (try clear hi)) | ((with_reducible refine gate_callee (f := 78) rfl ?_); refine goesL_ (some 16) rfl rfl Try.func78 (by kernel_rfl) rfl #[.int .i64 a1] rfl (by (try simp only [List.map_toArray, List.map_cons, List.map_nil]); first | done | rfl | (simp only [List.length_drop, List.length_take]; rfl)) ?_; (with_reducible refine (spec_l07Time.calls a1 true _ A5.out).mono ?_); rintro e w' ⟨rfl, ⟨nd, rfl⟩⟩; refine ⟨_, rfl, ?_⟩))
      (try simp only [Act.put, List.setIfInBounds_toArray, List.set_cons_zero, List.set_cons_succ])
      go_cut [6] (fun v6 wc => ∃ (kq : Nat) (x6_6 : Int), v6 = .int .i64 x6_6 ∧ Aside0 (spec_UpAt.j1 kq l0 x6_6 = some (r1, r2)) ∧ Aside0 (kq ≤ k) ∧ Aside0 (Below w.heap.size w wc))
      case first =>
        have H := HC7.out
        clear HC7
        have H' := Aside0.mk H
        clear H
        go_wp2
        go_loopg [6] k (fun kq v6 w' => ∃ (x6_1 : Int), v6 = .int .i64 x6_1 ∧ Aside0 (spec_UpAt.l0 kq l0 a1 x6_1 = some (r1, r2)) ∧ Aside0 (kq ≤ k) ∧ Aside0 (Below w.heap.size w w'))
        case atStart => exact ⟨(0), (by first | rfl | (simp only [IntKind.wrap_i64, wrap64]; done) | (simp; done) | (simp [*]; done)), H', ⟨Nat.le_refl _⟩, ⟨by repeat (first | (with_reducible first | exact HB.out | apply below_alloc | apply pw_below_drewN | apply below_drew1) | exact HB.out)⟩⟩
        case round =>
          clear H'
          try clear p2
          try clear c3
          try clear c4
          try clear c6
          try clear c7
          obtain ⟨x6_1, rfl, HA, HK1, HB⟩ := hrel
          cases gk with
          | zero => exact absurd HA.out (by simp [spec_UpAt.l0])
          | succ k1 =>
            have H := HA.out
            clear HA
            simp only [spec_UpAt.l0] at H
            by_cases c9 : x6_1 < (l0.length : Int)
            · rw [if_pos c9] at H
              have c9b0 : decide (x6_1 < (l0.length : Int)) = true := decide_eq_true c9
              clear c9
              (first | rw [c9b0] | (simp only [i64_w, i32_w]; rw [c9b0]) | skip)
              by_cases c10 : 0 ≤ x6_1
              · rw [if_pos c10] at H
                have c10b0 : decide (0 ≤ x6_1) = true := decide_eq_true c10
                clear c10
                by_cases c11 : ((rd_T73 l0 x6_1).f0) ≤ a1
                · rw [if_pos c11] at H
                  have c11b0 : decide (((rd_T73 l0 x6_1).f0) ≤ a1) = true := decide_eq_true c11
                  clear c11
                  have H' := Aside0.mk H
                  clear H
                  have p109 : 0 ≤ (x6_1 : Int) := of_decide_eq_true (by first | (with_reducible assumption) | assumption)
                  have q109 : x6_1 < (l0.length : Int) := of_decide_eq_true (by first | (with_reducible assumption) | assumption)
                  obtain ⟨ad109, e109, hx109_0, hx109_1, hx109_2⟩ := at_T73 HR0.out x6_1 p109 q109
                  cases e109
                  replace hx109_0 := (HB.out.cell (World.block_lt_of_cell? w _ hx109_0)).trans hx109_0
                  replace hx109_1 := (HB.out.cell (World.block_lt_of_cell? w _ hx109_1)).trans hx109_1
                  replace hx109_2 := (HB.out.cell (World.block_lt_of_cell? w _ hx109_2)).trans hx109_2
                  replace p109 := eq_true p109
                  replace q109 := eq_true q109
                  go_wp2
                  go_roundg k1
                  case measure => have := HK1.out; omega
                  case rel => exact ⟨(wrap64 (x6_1 + 1)), (by first | rfl | (simp only [IntKind.wrap_i64, wrap64]; done) | (simp; done) | (simp [*]; done)), H', ⟨by have := HK1.out; omega⟩, ⟨by repeat (first | (with_reducible first | exact HB.out | apply below_alloc | apply pw_below_drewN | apply below_drew1) | exact HB.out)⟩⟩
                · rw [if_neg c11] at H
                  have c11b0 : decide (((rd_T73 l0 x6_1).f0) ≤ a1) = false := decide_eq_false c11
                  clear c11
                  have H' := Aside0.mk H
                  clear H
                  have p109 : 0 ≤ (x6_1 : Int) := of_decide_eq_true (by first | (with_reducible assumption) | assumption)
                  have q109 : x6_1 < (l0.length : Int) := of_decide_eq_true (by first | (with_reducible assumption) | assumption)
                  obtain ⟨ad109, e109, hx109_0, hx109_1, hx109_2⟩ := at_T73 HR0.out x6_1 p109 q109
                  cases e109
                  replace hx109_0 := (HB.out.cell (World.block_lt_of_cell? w _ hx109_0)).trans hx109_0
                  replace hx109_1 := (HB.out.cell (World.block_lt_of_cell? w _ hx109_1)).trans hx109_1
                  replace hx109_2 := (HB.out.cell (World.block_lt_of_cell? w _ hx109_2)).trans hx109_2
                  replace p109 := eq_true p109
                  replace q109 := eq_true q109
                  go_wp2
                  go_meet
                  case rel => exact ⟨_, (x6_1), (by first | rfl | (simp only [IntKind.wrap_i64, wrap64]; done) | (simp; done) | (simp [*]; done)), H', ⟨by have := HK1.out; first | omega | exact Nat.le_refl _⟩, ⟨by repeat (first | (with_reducible first | exact HB.out | apply below_alloc | apply pw_below_drewN | apply below_drew1) | exact HB.out)⟩⟩
              · rw [if_neg c10] at H
                exact absurd H (by simp)
            · rw [if_neg c9] at H
              have c9b0 : decide (x6_1 < (l0.length : Int)) = false := decide_eq_false c9
              clear c9
              (first | rw [c9b0] | (simp only [i64_w, i32_w]; rw [c9b0]) | skip)
              have H' := Aside0.mk H
              clear H
              go_wp2
              go_meet
              case rel => exact ⟨_, (x6_1), (by first | rfl | (simp only [IntKind.wrap_i64, wrap64]; done) | (simp; done) | (simp [*]; done)), H', ⟨by have := HK1.out; first | omega | exact Nat.le_refl _⟩, ⟨by repeat (first | (with_reducible first | exact HB.out | apply below_alloc | apply pw_below_drewN | apply below_drew1) | exact HB.out)⟩⟩
      case rest =>
        clear HC7
        try clear c1
        try clear p1
        try clear q1
        try clear hx1
        try clear p2
        try clear c3
        try clear c4
        try clear c6
        try clear p6
        try clear c7
        try clear c9
        try clear c9b0
        try clear c10
        try clear c10b0
        try clear p10
        try clear q10
        try clear hx10
        try clear c11
        try clear c11b0
        try clear hx109_0
        try clear hx109_1
        try clear hx109_2
        try clear p109
        try clear p2
        try clear q109
        obtain ⟨kq, x6_6, rfl, HA, HJ6, HB⟩ := hcut
        cases kq with
        | zero => exact absurd HA.out (by simp [spec_UpAt.j1])
        | succ kj6 =>
          have H := HA.out
          clear HA
          simp only [spec_UpAt.j1] at H
          replace H := Option.bind_eq_some_iff.mp H
          obtain ⟨⟨t110, t111⟩, A120, H⟩ := H
          replace H : (spec_UpAt.l1 kj6 l0 t110 (([] : List Int)) 0) = some (r1, r2) := H
          have A12 := Aside0.mk A120
          clear A120
          obtain ⟨y114, hy114⟩ : ∃ y_ : List Int, y_ = (([] : List Int)) := ⟨_, rfl⟩
          replace H : (spec_UpAt.l1 kj6 l0 t110 y114 0) = some (r1, r2) := by first | (rw [hy114]; with_reducible exact H) | (have H2_ := (Option.bind_some _ _).symm.trans H; rw [hy114]; with_reducible exact H2_) | (have H2_ := (Option.bind_some _ _).symm.trans H; with_reducible exact H2_) | with_reducible exact H | (rw [hy114]; exact H) | exact H
          have Ny114 := Aside0.mk hy114
          clear hy114
          have H' := Aside0.mk H
          clear H
          go_wp2_with (first | ((with_reducible refine gate_callee (f := 76) rfl ?_); refine goesL_ (some 37) rfl rfl Try.func76 (by kernel_rfl) rfl #[.slice A0 l0.length c0, .int .i64 x6_6] rfl (by (try simp only [List.map_toArray, List.map_cons, List.map_nil]); first | done | rfl | (simp only [List.length_drop, List.length_take]; rfl)) ?_; (with_reducible refine (spec_l07Up.calls kj6 _ _ l0 x6_6 t110 t111 _ ?side1 ?side2 A12.out).mono ?_); (case side1 => repeat (first | exact (Kd.C_below HR0.out HB.out) | (with_reducible refine Kd.C_alloc ?_ _) | (with_reducible refine Kd.C_drewN ?_ _) | (with_reducible refine Kd.C_drew ?_))); (case side2 => exact HC0.out); rintro e w13 ⟨v112, rfl, ho0, hb⟩; refine ⟨_, rfl, ?_⟩; have n0_ := Aside0.mk (Kd.R_lower ho0 (below_size (by repeat (first | (with_reducible first | exact HB.out | apply below_alloc | apply pw_below_drewN | apply below_drew1) | exact HB.out)))); have n1_ := Aside0.mk (below_step (by repeat (first | (with_reducible first | exact HB.out | apply below_alloc | apply pw_below_drewN | apply below_drew1) | exact HB.out)) hb); clear HB; have HO113 := n0_; have HB := n1_; clear n0_ n1_; (try clear hb); (try clear hb2); (try clear hk); (try clear hi); (try clear ho0)) | ((with_reducible refine gate_dst (N := 40) rfl ?_); refine Kd.R_lit (Kd.int .i64) _ 2 ?hg (N := 40) ?hd (xs := ([] : List Int)) (inner := []) (ok := fun _ => True) (okp := fun _ => True) ?hr ?hp (fun _ hk => hk) trivial (Below.refl _ _) (Nat.le_refl _) (by simp) ?_; (case hd => rfl); (case hg => rfl); (case hr => first | (go_simp; done) | (go_simp; rfl)); (case hp => exact (Reps.none _ _)); intro v115 w14 ho15 hb hg_ hnew_; clear hg_ hnew_; (first | rw [← Ny114.out] at ho15 | (simp only [Int.reduceToNat] at ho15; rw [← Ny114.out] at ho15)); have n0_ := Aside0.mk (Kd.R_below (by (with_reducible repeat (first | apply Kd.R_alloc | apply Kd.R_drewN | apply Kd.R_drew)); exact HO113.out) hb); have n1_ := Aside0.mk (Kd.R_lower ho15 (below_size (by repeat (first | (with_reducible first | exact HB.out | apply below_alloc | apply pw_below_drewN | apply below_drew1) | exact HB.out)))); have n2_ := Aside0.mk (below_step (by repeat (first | (with_reducible first | exact HB.out | apply below_alloc | apply pw_below_drewN | apply below_drew1) | exact HB.out)) hb); clear HO113; clear HB; have HO113 := n0_; have HO116 := n1_; have HB := n2_; clear n0_ n1_ n2_; clear hb ho15))
          go_loopg [9, 10] kj6 (fun kq v9 v10 w' => ∃ (x9_2 : List Int) (x10_2 : Int), v10 = .int .i64 x10_2 ∧ Aside0 (spec_UpAt.l1 kq l0 t110 x9_2 x10_2 = some (r1, r2)) ∧ Aside0 (kq ≤ kj6) ∧ Aside0 (Kd.R (Kd.int .i64) 3 w' w.heap.size (fun _ => True) v112 t110) ∧ Aside0 (Kd.R (Kd.int .i64) 2 w' w.heap.size (fun _ => True) v9 x9_2) ∧ Aside0 (Below w.heap.size w w'))
          case atStart => exact ⟨(y114), (0), (by first | rfl | (simp only [IntKind.wrap_i64, wrap64]; done) | (simp; done) | (simp [*]; done)), H', ⟨Nat.le_refl _⟩, ⟨by (with_reducible repeat (first | apply Kd.R_alloc | apply Kd.R_drewN | apply Kd.R_drew)); exact HO113.out⟩, ⟨by (with_reducible repeat (first | apply Kd.R_alloc | apply Kd.R_drewN | apply Kd.R_drew)); exact HO116.out⟩, ⟨by repeat (first | (with_reducible first | exact HB.out | apply below_alloc | apply pw_below_drewN | apply below_drew1) | exact HB.out)⟩⟩
          case round =>
            clear H'
            try clear c1
            try clear p1
            try clear q1
            try clear hx1
            try clear p2
            try clear c3
            try clear c4
            try clear c6
            try clear p6
            try clear c7
            try clear c9
            try clear c9b0
            try clear c10
            try clear c10b0
            try clear p10
            try clear q10
            try clear hx10
            try clear c11
            try clear c11b0
            try clear hx109_0
            try clear hx109_1
            try clear hx109_2
            try clear p1
            try clear p10
            try clear p109
            try clear p2
            try clear p6
            try clear q1
            try clear q10
            try clear q109
            obtain ⟨x9_2, x10_2, rfl, HA, HK2, HO_7, HO_9, HB⟩ := hrel
            cases gk with
            | zero => exact absurd HA.out (by simp [spec_UpAt.l1])
            | succ k2 =>
              have H := HA.out
              clear HA
              simp only [spec_UpAt.l1] at H
              by_cases c16 : x10_2 < (t110.length : Int)
              · rw [if_pos c16] at H
                have c16b0 : decide (x10_2 < (t110.length : Int)) = true := decide_eq_true c16
                clear c16
                by_cases c17 : 0 ≤ x10_2
                · rw [if_pos c17] at H
                  have c17b0 : decide (0 ≤ x10_2) = true := decide_eq_true c17
                  clear c17
                  by_cases c18 : 0 ≤ (rd t110 x10_2)
                  · rw [if_pos c18] at H
                    have c18b0 : decide (0 ≤ (rd t110 x10_2)) = true := decide_eq_true c18
                    clear c18
                    by_cases c19 : (rd t110 x10_2) < (l0.length : Int)
                    · rw [if_pos c19] at H
                      have c19b0 : decide ((rd t110 x10_2) < (l0.length : Int)) = true := decide_eq_true c19
                      clear c19
                      by_cases c20 : x9_2.length < 17592186044416
                      · rw [if_pos c20] at H
                        have LMc20 := Aside0.mk c20
                        clear c20
                        obtain ⟨y119, hy119⟩ : ∃ y_ : List Int, y_ = (x9_2 ++ [(rd_T73 l0 (rd t110 x10_2)).f1]) := ⟨_, rfl⟩
                        replace H : (spec_UpAt.l1 k2 l0 t110 y119 (wrap64 (x10_2 + 1))) = some (r1, r2) := by first | (rw [hy119]; with_reducible exact H) | (have H2_ := (Option.bind_some _ _).symm.trans H; rw [hy119]; with_reducible exact H2_) | (have H2_ := (Option.bind_some _ _).symm.trans H; with_reducible exact H2_) | with_reducible exact H | (rw [hy119]; exact H) | exact H
                        have Ny119 := Aside0.mk hy119
                        clear hy119
                        have H' := Aside0.mk H
                        clear H
                        obtain ⟨Ao21, co21, eo21⟩ := Kd.R_slice HO_7.out
                        subst eo21
                        have p117 : 0 ≤ (x10_2 : Int) := of_decide_eq_true (by first | (with_reducible assumption) | assumption)
                        have q117 : x10_2 < (t110.length : Int) := of_decide_eq_true (by first | (with_reducible assumption) | assumption)
                        obtain ⟨ad117, e117, hx117_0⟩ := Kd.at_int (Kd.R_reads' HO_7.out).2.2 x10_2 p117 q117
                        cases e117
                        replace p117 := eq_true p117
                        replace q117 := eq_true q117
                        have p118 : 0 ≤ ((rd t110 x10_2) : Int) := of_decide_eq_true (by first | (with_reducible assumption) | assumption)
                        have q118 : (rd t110 x10_2) < (l0.length : Int) := of_decide_eq_true (by first | (with_reducible assumption) | assumption)
                        obtain ⟨ad118, e118, hx118_0, hx118_1, hx118_2⟩ := at_T73 HR0.out (rd t110 x10_2) p118 q118
                        cases e118
                        replace hx118_0 := (HB.out.cell (World.block_lt_of_cell? w _ hx118_0)).trans hx118_0
                        replace hx118_1 := (HB.out.cell (World.block_lt_of_cell? w _ hx118_1)).trans hx118_1
                        replace hx118_2 := (HB.out.cell (World.block_lt_of_cell? w _ hx118_2)).trans hx118_2
                        replace p118 := eq_true p118
                        replace q118 := eq_true q118
                        go_wp2_with (first | ((with_reducible refine gate_builtin (b := .append) (xs := #[.tmp 47, .tmp 56]) rfl ?_); at_builtin; refine Kd.R_append (Kd.int .i64) (w0 := w) w.heap.size rfl (.tmp 47) (.tmp 56) 37 2 (.int .i64 0) 8 rfl Try.underlying37 info2 rfl (by decide) (by omega) u9 x9_2 ((rd_T73 l0 (rd t110 x10_2)).f1) [.int .i64 ((rd_T73 l0 (rd t110 x10_2)).f1)] (fun _ => True) (fun _ => False) rfl rfl ?aP (fun _ hk => hk.elim) ?aF ?aO ?aB ?aS ?aL ?_; (case aP => exact rfl); (case aB => exact (by repeat (first | (with_reducible first | exact HB.out | apply below_alloc | apply pw_below_drewN | apply below_drew1) | exact HB.out))); (case aF => exact (fun _ _ => trivial)); (case aO => exact (by (with_reducible repeat (first | apply Kd.R_alloc | apply Kd.R_drewN | apply Kd.R_drew)); exact HO_9.out)); (case aS => exact (below_size (by repeat (first | (with_reducible first | exact HB.out | apply below_alloc | apply pw_below_drewN | apply below_drew1) | exact HB.out)))); (case aL => have := LMc20.out; omega); intro v120 w22 ho hb hg hat; rw [← Ny119.out] at ho; have n0_ := Aside0.mk (Kd.R_over' (by (with_reducible repeat (first | apply Kd.R_alloc | apply Kd.R_drewN | apply Kd.R_drew)); exact HO_7.out) (Kd.R_typed (by (with_reducible repeat (first | apply Kd.R_alloc | apply Kd.R_drewN | apply Kd.R_drew)); exact HO_9.out)) (by decide) hg); have n1_ := Aside0.mk (hb); have n2_ := Aside0.mk (ho); clear HO_7; clear HB; clear HO_9; have HO_7 := n0_; have HB := n1_; have HO121 := n2_; clear n0_ n1_ n2_; clear ho hb hg hat))
                        go_roundg k2
                        case measure => have := HJ6.out; have := HK2.out; omega
                        case rel => exact ⟨(y119), (wrap64 (x10_2 + 1)), (by first | rfl | (simp only [IntKind.wrap_i64, wrap64]; done) | (simp; done) | (simp [*]; done)), H', ⟨by have := HJ6.out; have := HK2.out; omega⟩, ⟨by (with_reducible repeat (first | apply Kd.R_alloc | apply Kd.R_drewN | apply Kd.R_drew)); exact HO_7.out⟩, ⟨by (with_reducible repeat (first | apply Kd.R_alloc | apply Kd.R_drewN | apply Kd.R_drew)); exact HO121.out⟩, ⟨by repeat (first | (with_reducible first | exact HB.out | apply below_alloc | apply pw_below_drewN | apply below_drew1) | exact HB.out)⟩⟩
                      · rw [if_neg c20] at H
                        exact absurd H (by simp)
                    · rw [if_neg c19] at H
                      exact absurd H (by simp)
                  · rw [if_neg c18] at H
                    exact absurd H (by simp)
                · rw [if_neg c17] at H
                  exact absurd H (by simp)
              · rw [if_neg c16] at H
                have c16b0 : decide (x10_2 < (t110.length : Int)) = false := decide_eq_false c16
                clear c16
                simp only [Option.some.injEq, Prod.mk.injEq] at H
                obtain ⟨rfl, rfl⟩ := H
                obtain ⟨Ao23, co23, eo23⟩ := Kd.R_slice HO_7.out
                subst eo23
                go_wp2
                go_ret2
                exact ⟨_, by first | rfl | (simp [errW_none, errW_some, IntKind.wrap_i64, wrap64]; done) | (simp [errW_none, errW_some] <;> rfl) | (simp [*, errW_none, errW_some] <;> rfl), by (with_reducible repeat (first | apply Kd.R_alloc | apply Kd.R_drewN | apply Kd.R_drew)); exact HO_9.out, by repeat (first | (with_reducible first | exact HB.out | apply below_alloc | apply pw_below_drewN | apply below_drew1) | exact HB.out)⟩
    · replace c6 := Bool.eq_false_iff.mpr c6
      subst c6
      have H1 : (some ((([] : List Int)), 2)) = some (r1, r2) := by rw [if_neg (show ¬ (false = true) by decide)] at H; exact H
      clear H
      have H := H1
      clear H1
      obtain ⟨y106, hy106⟩ : ∃ y_ : List Int, y_ = (([] : List Int)) := ⟨_, rfl⟩
      replace H : (some (y106, 2)) = some (r1, r2) := by first | (rw [hy106]; with_reducible exact H) | (have H2_ := (Option.bind_some _ _).symm.trans H; rw [hy106]; with_reducible exact H2_) | (have H2_ := (Option.bind_some _ _).symm.trans H; with_reducible exact H2_) | with_reducible exact H | (rw [hy106]; exact H) | exact H
      have Ny106 := Aside0.mk hy106
      clear hy106
      simp only [Option.some.injEq, Prod.mk.injEq] at H
      obtain ⟨rfl, rfl⟩ := H
      go_enter Try.func32, Try.ntmps32
      go_wp2_with (first | ((with_reducible refine gate_callee (f := 74) rfl ?_); refine goesL_ (some 12) rfl rfl Try.func74 (by kernel_rfl) rfl #[.slice A0 l0.length c0] rfl (by (try simp only [List.map_toArray, List.map_cons, List.map_nil]); first | done | rfl | (simp only [List.length_drop, List.length_take]; rfl)) ?_; (with_reducible refine (spec_l07Ok.calls k _ _ l0 true _ ?side1 ?side2 A3.out).mono ?_); (case side1 => repeat (first | exact HR0.out | (with_reducible refine Kd.C_alloc ?_ _) | (with_reducible refine Kd.C_drewN ?_ _) | (with_reducible refine Kd.C_drew ?_))); (case side2 => exact HC0.out); rintro e w24 ⟨rfl, hb⟩; refine ⟨_, rfl, ?_⟩; have n0_ := Aside0.mk (below_step (by repeat (first | (with_reducible first | exact HB.out | apply below_alloc | apply pw_below_drewN | apply below_drew1) | exact HB.out)) hb); clear HB; have HB := n0_; clear n0_; (try clear hb); (try clear hb2); (try clear hk); (try clear hi)) | ((with_reducible refine gate_callee (f := 78) rfl ?_); refine goesL_ (some 16) rfl rfl Try.func78 (by kernel_rfl) rfl #[.int .i64 a1] rfl (by (try simp only [List.map_toArray, List.map_cons, List.map_nil]); first | done | rfl | (simp only [List.length_drop, List.length_take]; rfl)) ?_; (with_reducible refine (spec_l07Time.calls a1 false _ A5.out).mono ?_); rintro e w' ⟨rfl, ⟨nd, rfl⟩⟩; refine ⟨_, rfl, ?_⟩) | ((with_reducible refine gate_dst (N := 18) rfl ?_); refine Kd.R_lit (Kd.int .i64) _ 2 ?hg (N := 18) ?hd (xs := ([] : List Int)) (inner := []) (ok := fun _ => True) (okp := fun _ => True) ?hr ?hp (fun _ hk => hk) trivial (Below.refl _ _) (Nat.le_refl _) (by simp) ?_; (case hd => rfl); (case hg => rfl); (case hr => first | (go_simp; done) | (go_simp; rfl)); (case hp => exact (Reps.none _ _)); intro v107 w25 ho26 hb hg_ hnew_; clear hg_ hnew_; (first | rw [← Ny106.out] at ho26 | (simp only [Int.reduceToNat] at ho26; rw [← Ny106.out] at ho26)); have n0_ := Aside0.mk (Kd.R_lower ho26 (below_size (by repeat (first | (with_reducible first | exact HB.out | apply below_alloc | apply pw_below_drewN | apply below_drew1) | exact HB.out)))); have n1_ := Aside0.mk (below_step (by repeat (first | (with_reducible first | exact HB.out | apply below_alloc | apply pw_below_drewN | apply below_drew1) | exact HB.out)) hb); clear HB; have HO108 := n0_; have HB := n1_; clear n0_ n1_; clear hb ho26))
      go_ret2
      exact ⟨_, by first | rfl | (simp [errW_none, errW_some, IntKind.wrap_i64, wrap64]; done) | (simp [errW_none, errW_some] <;> rfl) | (simp [*, errW_none, errW_some] <;> rfl), by (with_reducible repeat (first | apply Kd.R_alloc | apply Kd.R_drewN | apply Kd.R_drew)); exact HO108.out, by repeat (first | (with_reducible first | exact HB.out | apply below_alloc | apply pw_below_drewN | apply below_drew1) | exact HB.out)⟩
  · replace c4 := Bool.eq_false_iff.mpr c4
    subst c4
    have H1 : (some ((([] : List Int)), 1)) = some (r1, r2) := by rw [if_neg (show ¬ (false = true) by decide)] at H; exact H
    clear H
    have H := H1
    clear H1
    obtain ⟨y102, hy102⟩ : ∃ y_ : List Int, y_ = (([] : List Int)) := ⟨_, rfl⟩
    replace H : (some (y102, 1)) = some (r1, r2) := by first | (rw [hy102]; with_reducible exact H) | (have H2_ := (Option.bind_some _ _).symm.trans H; rw [hy102]; with_reducible exact H2_) | (have H2_ := (Option.bind_some _ _).symm.trans H; with_reducible exact H2_) | with_reducible exact H | (rw [hy102]; exact H) | exact H
    have Ny102 := Aside0.mk hy102
    clear hy102
    simp only [Option.some.injEq, Prod.mk.injEq] at H
    obtain ⟨rfl, rfl⟩ := H
    go_enter Try.func32, Try.ntmps32
    go_wp2_with (first | ((with_reducible refine gate_callee (f := 74) rfl ?_); refine goesL_ (some 12) rfl rfl Try.func74 (by kernel_rfl) rfl #[.slice A0 l0.length c0] rfl (by (try simp only [List.map_toArray, List.map_cons, List.map_nil]); first | done | rfl | (simp only [List.length_drop, List.length_take]; rfl)) ?_; (with_reducible refine (spec_l07Ok.calls k _ _ l0 false _ ?side1 ?side2 A3.out).mono ?_); (case side1 => repeat (first | exact HR0.out | (with_reducible refine Kd.C_alloc ?_ _) | (with_reducible refine Kd.C_drewN ?_ _) | (with_reducible refine Kd.C_drew ?_))); (case side2 => exact HC0.out); rintro e w27 ⟨rfl, hb⟩; refine ⟨_, rfl, ?_⟩; have n0_ := Aside0.mk (below_step (by repeat (first | (with_reducible first | exact HB.out | apply below_alloc | apply pw_below_drewN | apply below_drew1) | exact HB.out)) hb); clear HB; have HB := n0_; clear n0_; (try clear hb); (try clear hb2); (try clear hk); (try clear hi)) | ((with_reducible refine gate_dst (N := 14) rfl ?_); refine Kd.R_lit (Kd.int .i64) _ 2 ?hg (N := 14) ?hd (xs := ([] : List Int)) (inner := []) (ok := fun _ => True) (okp := fun _ => True) ?hr ?hp (fun _ hk => hk) trivial (Below.refl _ _) (Nat.le_refl _) (by simp) ?_; (case hd => rfl); (case hg => rfl); (case hr => first | (go_simp; done) | (go_simp; rfl)); (case hp => exact (Reps.none _ _)); intro v103 w28 ho29 hb hg_ hnew_; clear hg_ hnew_; (first | rw [← Ny102.out] at ho29 | (simp only [Int.reduceToNat] at ho29; rw [← Ny102.out] at ho29)); have n0_ := Aside0.mk (Kd.R_lower ho29 (below_size (by repeat (first | (with_reducible first | exact HB.out | apply below_alloc | apply pw_below_drewN | apply below_drew1) | exact HB.out)))); have n1_ := Aside0.mk (below_step (by repeat (first | (with_reducible first | exact HB.out | apply below_alloc | apply pw_below_drewN | apply below_drew1) | exact HB.out)) hb); clear HB; have HO104 := n0_; have HB := n1_; clear n0_ n1_; clear hb ho29))
    go_ret2
    exact ⟨_, by first | rfl | (simp [errW_none, errW_some, IntKind.wrap_i64, wrap64]; done) | (simp [errW_none, errW_some] <;> rfl) | (simp [*, errW_none, errW_some] <;> rfl), by (with_reducible repeat (first | apply Kd.R_alloc | apply Kd.R_drewN | apply Kd.R_drew)); exact HO104.out, by repeat (first | (with_reducible first | exact HB.out | apply below_alloc | apply pw_below_drewN | apply below_drew1) | exact HB.out)⟩

end Go.Proofs.Ytidkniacmcbgiaa.G
end

section
namespace Go.Proofs.Ytidkniacmcbgiaa.G.Pure
open Go.RowKit Go.Proofs.Ytidkniacmcbgiaa.G Go.Proofs.YtidkniacmcbgiaaW.PrintWords Go.Proofs.YtidkniacmcbgiaaW.PrintLast Go.Proofs.YtidkniacmcbgiaaW.PrintMore
set_option linter.unusedVariables false
set_option linter.unusedSimpArgs false
/-! UpAt and ExecutedIn. -/
theorem rdE_take {l : List En} {n i : Nat} (h : i < n) : rd_T73 (l.take n) (i : Int) = rd_T73 l (i : Int) := by
  simp [rd_T73, List.getD_eq_getElem?_getD, List.getElem?_take_of_lt h]
theorem rdE_take' {l : List En} {n : Nat} {i : Int} (h0 : 0 ≤ i) (h : i < (n : Int)) : rd_T73 (l.take n) i = rd_T73 l i := by
  obtain ⟨j, rfl⟩ : ∃ j : Nat, i = (j : Int) := ⟨i.toNat, by omega⟩
  exact rdE_take (by omega)
theorem idxP_congr' {α : Type} {p q : α → Bool} {l : List α} (h : ∀ x ∈ l, p x = q x) : idxP p l = idxP q l := by
  have e : l.findIdx? p = l.findIdx? q := by
    induction l with
    | nil => rfl
    | cons a l ih => simp [List.findIdx?_cons, h a (by simp), ih (fun x hx => h x (by simp [hx]))]
  unfold idxP
  rw [e]
theorem ups_take {l : List En} {n m : Nat} (h : m ≤ n) : ups (l.take n) m = ups l m := by
  induction m with
  | zero => rfl
  | succ m ih =>
    rw [ups, ups, ih (by omega)]
    cases hu : ups l m with
    | none => rfl
    | some out =>
      have ho := (ups_ok hu).2.1
      simp only [Option.bind_some]
      have ha : atE (l.take n) m out = atE l m out := by
        unfold atE impl_Log_up.at
        rw [rdE_take (by omega)]
        exact idxP_congr' fun x hx => by rw [rdE_take' (ho x hx).1 (by have := (ho x hx).2; omega)]
      unfold upsStep
      rw [ha, rdE_take (by omega)]
theorem lastT_take {l : List En} {n m : Nat} (h : m ≤ n) : lastT (l.take n) m = lastT l m := by
  cases m with
  | zero => rfl
  | succ m => rw [lastT, lastT, rdE_take (by omega)]
theorem gd_take {l : List En} {n m : Nat} (h : m ≤ n) : gd (l.take n) m = gd l m := by
  induction m with
  | zero => rfl
  | succ m ih => rw [gd, gd, ih (by omega), lastT_take (by omega), rdE_take (by omega)]
theorem valid_parts {l : List En} (h : validG l = true) : l.length ≤ 60 ∧ gd l l.length = true ∧ ∃ o, ups l l.length = some o := by
  unfold validG at h
  simp only [Bool.and_eq_true, decide_eq_true_eq] at h
  exact ⟨h.1.1, h.1.2, Option.isSome_iff_exists.1 h.2⟩
theorem ups_some {l : List En} (h : validG l = true) {n : Nat} (hn : n ≤ l.length) : ∃ o, ups l n = some o := by
  obtain ⟨_, _, o, ho⟩ := valid_parts h
  cases e : ups l n with
  | some o => exact ⟨o, rfl⟩
  | none => rw [ups_none e hn] at ho; cases ho
theorem gd_some {l : List En} (h : validG l = true) {n : Nat} (hn : n ≤ l.length) : gd l n = true := by
  obtain ⟨_, hg, _⟩ := valid_parts h
  cases e : gd l n with
  | true => rfl
  | false => rw [gd_false e hn] at hg; cases hg
theorem up_take {l : List En} (h : validG l = true) {n : Nat} (hn : n ≤ l.length) : impl_Log_up.f (l.take n) = some ((ups l n).getD [], true) := by
  obtain ⟨hl, _⟩ := valid_parts h
  obtain ⟨o, ho⟩ := ups_some h hn
  unfold impl_Log_up.f
  rw [if_pos (by rw [List.length_take]; omega), to_eq, List.length_take, Nat.min_eq_left hn, gd_take (Nat.le_refl _), gd_some h hn, if_pos rfl, ups_take (Nat.le_refl _), ho]
  simp only [Option.map_some, Option.getD_some, Option.some.injEq, Prod.mk.injEq, true_and, decide_eq_true_eq]
  omega
def cutAt (l : List En) (t : Int) : Nat := l.findIdx (fun x => decide (x.f0 > t))
def sigs (l : List En) (o : List Int) : List Int := (List.range o.length).flatMap fun (i : Nat) => [(rd_T73 l (rd o (i : Int))).f1]
def resUpAt (l : List En) (t : Int) : List Int × Int := if validG l = true then (if (decide (0 ≤ t) && decide (t ≤ 100000)) = true then (sigs l ((ups l (cutAt l t)).getD []), 0) else ([], 2)) else ([], 1)
theorem rdI_mem {o : List Int} {i : Nat} (h : i < o.length) : rd o (i : Int) ∈ o := by
  rw [rd_nat h]
  exact List.getElem_mem h
theorem implSigs {k : Nat} {l : List En} {o : List Int} (ho : ∀ x ∈ o, 0 ≤ x ∧ x < (l.length : Int)) (hl : o.length ≤ 60) (hk : o.length < k) : impl_UpAt.l0 k l [] o (o.length : Int) 0 = some (sigs l o, 0) := by
  refine loop_acc (fun k acc i => impl_UpAt.l0 k l acc o (o.length : Int) i) o.length (fun (i : Nat) => [(rd_T73 l (rd o (i : Int))).f1]) (fun acc => (acc, 0)) (fun _ _ => by simp) (fun k i acc hi ha => ?_) (fun k acc ha => ?_) k hk
  · have hm := ho _ (rdI_mem hi)
    simp only [impl_UpAt.l0]
    rw [if_pos (by omega), if_pos (by omega), if_pos (by omega), if_pos hm.1, if_pos hm.2, if_pos (by omega), w64 (by omega) (by omega)]
    rfl
  · simp only [impl_UpAt.l0]
    rw [if_neg (by omega)]
theorem specSigs {k : Nat} {l : List En} {o : List Int} (ho : ∀ x ∈ o, 0 ≤ x ∧ x < (l.length : Int)) (hl : o.length ≤ 60) (hk : o.length < k) : spec_UpAt.l1 k l o [] 0 = some (sigs l o, 0) := by
  refine loop_acc (fun k acc i => spec_UpAt.l1 k l o acc i) o.length (fun (i : Nat) => [(rd_T73 l (rd o (i : Int))).f1]) (fun acc => (acc, 0)) (fun _ _ => by simp) (fun k i acc hi ha => ?_) (fun k acc ha => ?_) k hk
  · have hm := ho _ (rdI_mem hi)
    simp only [spec_UpAt.l1]
    rw [if_pos (by omega), if_pos (by omega), if_pos hm.1, if_pos hm.2, if_pos (by omega), w64 (by omega) (by omega)]
    rfl
  · simp only [spec_UpAt.l1]
    rw [if_neg (by omega)]
theorem cut_le (l : List En) (t : Int) : cutAt l t ≤ l.length := List.findIdx_le_length
theorem idx_cut (l : List En) (t : Int) : (idxP (fun x => decide (x.f0 > t)) l < 0 → cutAt l t = l.length) ∧ (¬ idxP (fun x => decide (x.f0 > t)) l < 0 → idxP (fun x => decide (x.f0 > t)) l = (cutAt l t : Int)) := by
  unfold idxP cutAt
  cases e : l.findIdx? (fun x => decide (x.f0 > t)) with
  | none =>
    refine ⟨fun _ => ?_, fun h => absurd (by decide) h⟩
    rw [List.findIdx?_eq_none_iff] at e
    exact List.findIdx_eq_length.2 e
  | some i =>
    refine ⟨fun h => ?_, fun _ => ?_⟩
    · simp only at h
      omega
    · rw [List.findIdx?_eq_some_iff_findIdx_eq] at e
      simp only
      rw [e.2]
theorem implUpAt_eq {k : Nat} {l : List En} {t : Int} (hl : l.length ≤ 1048576) (hk : 10000 < k) : impl_UpAt.f k l t = some (resUpAt l t) := by
  unfold impl_UpAt.f resUpAt
  rw [implValid_log hl, impl_Log_up.within]
  simp only [Option.bind_some]
  cases hv : validG l with
  | false => rfl
  | true =>
    cases ht : (decide (0 ≤ t) && decide (t ≤ 100000)) with
    | false => rfl
    | true =>
      simp only [if_true]
      rw [slices_IndexFunc_Log_Entry__impl_UpAt_1.f, idxO_eq (p := fun x : En => impl_UpAt_1.f x.f0 x.f1 x.f2 t) (q := fun x : En => decide (x.f0 > t)) (fun x _ => rfl)]
      simp only [Option.bind_some]
      obtain ⟨c1, c2⟩ := idx_cut l t
      have hc := cut_le l t
      obtain ⟨o, ho⟩ := ups_some hv hc
      obtain ⟨k, rfl⟩ : ∃ m, k = m + 1 := ⟨k - 1, by omega⟩
      obtain ⟨b1, b2, _⟩ := ups_ok ho
      have hl60 := (valid_parts hv).1
      have goal : impl_UpAt.j0 (k + 1) l (cutAt l t : Int) = some (sigs l ((ups l (cutAt l t)).getD []), 0) := by
        simp only [impl_UpAt.j0]
        rw [if_pos (by omega), if_pos (by omega), Int.toNat_natCast, up_take hv hc, ho]
        simp only [Option.bind_some, Option.getD_some]
        exact implSigs (fun x hx => ⟨(b2 x hx).1, by have := (b2 x hx).2; omega⟩) (by omega) (by omega)
      split
      · rename_i hneg
        rw [← goal, c1 hneg]
      · rename_i hneg
        rw [c2 hneg, goal]
theorem specCut {k : Nat} {l : List En} {t : Int} (hl : l.length ≤ 60) : ∀ d i, i + d = cutAt l t → d < k → spec_UpAt.l0 k l t (i : Int) = spec_UpAt.j1 (k - d - 1) l (cutAt l t : Int) := by
  intro d
  induction d generalizing k with
  | zero =>
    intro i hi hk
    obtain ⟨k, rfl⟩ : ∃ m, k = m + 1 := ⟨k - 1, by omega⟩
    obtain rfl : i = cutAt l t := by omega
    have hc := cut_le l t
    simp only [spec_UpAt.l0]
    by_cases h : cutAt l t < l.length
    · rw [if_pos (by omega), if_pos (by omega), rd_impl_Entry h]
      have := List.findIdx_getElem (p := fun x : En => decide (x.f0 > t)) (xs := l) (w := h)
      simp only [decide_eq_true_eq] at this
      rw [if_neg (by unfold cutAt; omega)]
      simp
    · rw [if_neg (by omega)]
      simp
  | succ d ih =>
    intro i hi hk
    obtain ⟨k, rfl⟩ : ∃ m, k = m + 1 := ⟨k - 1, by omega⟩
    have hc := cut_le l t
    have hi' : i < l.length := by omega
    simp only [spec_UpAt.l0]
    have := List.not_of_lt_findIdx (p := fun x : En => decide (x.f0 > t)) (xs := l) (i := i) (by unfold cutAt at hi; omega)
    simp only [decide_eq_true_eq, Bool.not_eq_true, decide_eq_false_iff_not] at this
    rw [if_pos (by omega), if_pos (by omega), rd_impl_Entry hi', if_pos (by omega), w64 (by omega) (by omega)]
    have e := ih (k := k) (i + 1) (by omega) (by omega)
    rw [show ((i + 1 : Nat) : Int) = (i : Int) + 1 by omega] at e
    rw [e, show k + 1 - (d + 1) - 1 = k - d - 1 by omega]
theorem specUpAt_eq {k : Nat} {l : List En} {t : Int} (hk : 10000 < k) : spec_UpAt.f k l t = some (resUpAt l t) := by
  unfold spec_UpAt.f resUpAt
  rw [specOk_log (by omega)]
  simp only [Option.bind_some]
  cases hv : validG l with
  | false => rfl
  | true =>
    simp only [if_true]
    rw [show spec_l07Time.f t = some (decide (0 ≤ t) && decide (t ≤ 100000)) from by unfold spec_l07Time.f; rw [in_log]; rfl]
    simp only [Option.bind_some]
    cases ht : (decide (0 ≤ t) && decide (t ≤ 100000)) with
    | false => rfl
    | true =>
      simp only [if_true]
      have hc := cut_le l t
      obtain ⟨o, ho⟩ := ups_some hv hc
      obtain ⟨b1, b2, _⟩ := ups_ok ho
      have hl60 := (valid_parts hv).1
      have e := specCut (k := k) (l := l) (t := t) hl60 (cutAt l t) 0 (by omega) (by omega)
      rw [show ((0 : Nat) : Int) = 0 from rfl] at e
      rw [e]
      obtain ⟨m, hm⟩ : ∃ m, k - cutAt l t - 1 = m + 1 := ⟨k - cutAt l t - 2, by omega⟩
      rw [hm]
      simp only [spec_UpAt.j1]
      rw [specUp_eq hc hl60 (by omega), ho]
      simp only [Option.bind_some, Option.getD_some]
      exact specSigs (fun x hx => ⟨(b2 x hx).1, by have := (b2 x hx).2; omega⟩) (by omega) (by omega)
theorem resUpAt_len {l : List En} {t : Int} : (resUpAt l t).1.length ≤ 1048576 := by
  unfold resUpAt
  split
  · rename_i hv
    split
    · have hc := cut_le l t
      obtain ⟨o, ho⟩ := ups_some hv hc
      obtain ⟨b1, b2, _⟩ := ups_ok ho
      have hl60 := (valid_parts hv).1
      rw [ho]
      have := flat_len (n := o.length) (g := fun (i : Nat) => [(rd_T73 l (rd o (i : Int))).f1]) (fun _ _ => by simp)
      simp only [Option.getD_some]
      unfold sigs
      omega
    · simp
  · simp

end Go.Proofs.Ytidkniacmcbgiaa.G.Pure
end

section
namespace Go.Proofs.Ytidkniacmcbgiaa.G.Pure
open Go.RowKit Go.Proofs.Ytidkniacmcbgiaa.G Go.Proofs.YtidkniacmcbgiaaW.PrintWords Go.Proofs.YtidkniacmcbgiaaW.PrintLast Go.Proofs.YtidkniacmcbgiaaW.PrintMore
set_option linter.unusedVariables false
set_option linter.unusedSimpArgs false
/-! LongestUp. -/
theorem last_up {l : List En} : ∀ n {out : List Int}, ups l n = some out → ∀ j ∈ out, impl_LongestUp.last l (rd_T73 l j).f1 n = j := by
  intro n
  induction n with
  | zero => intro out h; cases h; simp
  | succ n ih =>
    intro out h j hj
    rw [ups] at h
    obtain ⟨s0, h0, h1⟩ := Option.bind_eq_some_iff.1 h
    have i1 := ih h0
    unfold upsStep at h1
    split at h1
    · cases h1
    · rename_i hne
      split at h1
      · rename_i hf
        cases h1
        rw [impl_LongestUp.last, if_neg (by rw [hf]; simp)]
        exact i1 j (List.mem_of_mem_eraseIdx hj)
      · rename_i hf
        cases h1
        have hf' : (rd_T73 l (n : Int)).f2 = false := by simpa using hf
        rcases List.mem_append.1 hj with hj | hj
        · have hk : atE l n s0 < 0 := by
            apply Classical.byContradiction
            intro hh
            rw [decide_eq_false hh] at hne
            exact hne hf'.symm
          have := idxP_none hk j hj
          have hne2 : (rd_T73 l j).f1 ≠ (rd_T73 l (n : Int)).f1 := by simpa using this
          rw [impl_LongestUp.last, if_neg (fun h => hne2 h.2.symm)]
          exact i1 j hj
        · simp only [List.mem_singleton] at hj
          subst hj
          rw [impl_LongestUp.last, if_pos ⟨hf', rfl⟩]
def lgS (l : List En) (i : Int) (p : Int × Int) (j : Int) : Int × Int := if (rd_T73 l j).f1 = (rd_T73 l i).f1 then (if p.2 < (rd_T73 l i).f0 - (rd_T73 l j).f0 then (j, (rd_T73 l i).f0 - (rd_T73 l j).f0) else p) else p
theorem fold_one {l : List En} {i : Int} {A B : List Int} {j : Int} {p : Int × Int} (hA : ∀ x ∈ A, (rd_T73 l x).f1 ≠ (rd_T73 l i).f1) (hB : ∀ x ∈ B, (rd_T73 l x).f1 ≠ (rd_T73 l i).f1) : (A ++ j :: B).foldl (lgS l i) p = lgS l i p j := by
  have none_ : ∀ (C : List Int) (p : Int × Int), (∀ x ∈ C, (rd_T73 l x).f1 ≠ (rd_T73 l i).f1) → C.foldl (lgS l i) p = p := by
    intro C
    induction C with
    | nil => intro p _; rfl
    | cons a C ih =>
      intro p h
      rw [List.foldl_cons, show lgS l i p a = p from if_neg (h a (by simp)), ih p (fun x hx => h x (by simp [hx]))]
  rw [List.foldl_append, none_ A p hA, List.foldl_cons, none_ B _ hB]
theorem validT {l : List En} (h : validG l = true) {j : Int} (h0 : 0 ≤ j) (h1 : j < (l.length : Int)) : 0 ≤ (rd_T73 l j).f0 ∧ (rd_T73 l j).f0 ≤ 100000 := by
  obtain ⟨i, rfl⟩ : ∃ i : Nat, j = (i : Int) := ⟨j.toNat, by omega⟩
  exact valid_times h (by omega)
theorem specLong_in {l : List En} (hv : validG l = true) {i : Nat} (hi : i < l.length) {out : List Int} (ho : ∀ x ∈ out, 0 ≤ x ∧ x < (i : Int)) (hol : out.length ≤ 60) (K : Nat) : ∀ d q (p : Int × Int), q + d = out.length →
    spec_LongestUp.l1 (K + d + 1) l p.1 p.2 (i : Int) out (q : Int) = spec_LongestUp.l0 K l ((out.drop q).foldl (lgS l (i : Int)) p).1 ((out.drop q).foldl (lgS l (i : Int)) p).2 ((i : Int) + 1) := by
  intro d
  have hl60 := (valid_parts hv).1
  induction d with
  | zero =>
    intro q p hq
    simp only [spec_LongestUp.l1, Nat.add_zero]
    rw [if_neg (by omega), List.drop_of_length_le (by omega), w64 (by omega) (by omega)]
    rfl
  | succ d ih =>
    intro q p hq
    have hql : q < out.length := by omega
    have hm := ho _ (List.getElem_mem hql)
    have t1 := validT hv (j := (i : Int)) (by omega) (by omega)
    have t2 := validT hv (j := out[q]) hm.1 (by omega)
    rw [show K + (d + 1) + 1 = (K + d + 1) + 1 by omega]
    simp only [spec_LongestUp.l1]
    rw [if_pos (by omega), if_pos (by omega), rd_nat hql, if_pos hm.1, if_pos (by omega), if_pos (by omega), if_pos (by omega), w64 (n := (rd_T73 l (i : Int)).f0 - (rd_T73 l out[q]).f0) (by omega) (by omega), w64 (n := (q : Int) + 1) (by omega) (by omega), List.drop_eq_getElem_cons hql, List.foldl_cons]
    have e := fun p' => ih (q + 1) p' (by omega)
    rw [show ((q + 1 : Nat) : Int) = (q : Int) + 1 by omega] at e
    by_cases h1 : (rd_T73 l out[q]).f1 = (rd_T73 l (i : Int)).f1
    · rw [if_pos h1]
      by_cases h2 : p.2 < (rd_T73 l (i : Int)).f0 - (rd_T73 l out[q]).f0
      · rw [if_pos (by omega), show lgS l (i : Int) p out[q] = (out[q], (rd_T73 l (i : Int)).f0 - (rd_T73 l out[q]).f0) from by unfold lgS; rw [if_pos h1, if_pos h2]]
        exact e (out[q], (rd_T73 l (i : Int)).f0 - (rd_T73 l out[q]).f0)
      · rw [if_neg (by omega), show lgS l (i : Int) p out[q] = p from by unfold lgS; rw [if_pos h1, if_neg h2]]
        exact e p
    · rw [if_neg h1, show lgS l (i : Int) p out[q] = p from if_neg h1]
      exact e p
theorem step_fold {l : List En} (hv : validG l = true) {i : Nat} (hi : i < l.length) {out : List Int} (hu : ups l i = some out) (hf : (rd_T73 l (i : Int)).f2 = true) (p : Int × Int) : out.foldl (lgS l (i : Int)) p = impl_LongestUp.step l i p := by
  obtain ⟨o2, ho2⟩ := ups_some hv (n := i + 1) (by omega)
  rw [ups, hu, Option.bind_some] at ho2
  unfold upsStep at ho2
  have hat : ¬ atE l i out < 0 := by
    intro hh
    rw [decide_eq_true hh, hf, if_pos rfl] at ho2
    cases ho2
  have hlt := impl_Log_up.idx_lt (fun m => (rd_T73 l m).f1 == (rd_T73 l (i : Int)).f1) out
  have hae : idxP (fun m => (rd_T73 l m).f1 == (rd_T73 l (i : Int)).f1) out = atE l i out := rfl
  rw [hae] at hlt
  obtain ⟨q, hq⟩ : ∃ q : Nat, atE l i out = (q : Int) := ⟨(atE l i out).toNat, by omega⟩
  have hql : q < out.length := by omega
  have hsig : (rd_T73 l out[q]).f1 = (rd_T73 l (i : Int)).f1 := by
    unfold atE impl_Log_up.at idxP at hq
    cases e : out.findIdx? (fun m => (rd_T73 l m).f1 == (rd_T73 l (i : Int)).f1) with
    | none => rw [e] at hq; simp only at hq; omega
    | some z =>
      rw [e] at hq
      simp only at hq
      obtain rfl : z = q := by omega
      rw [List.findIdx?_eq_some_iff_getElem] at e
      obtain ⟨_, h, _⟩ := e
      simpa using h
  have hpw := (ups_ok hu).2.2
  have hsplit : out = out.take q ++ out[q] :: out.drop (q + 1) := by
    rw [← List.drop_eq_getElem_cons hql, List.take_append_drop]
  have hl := last_up i hu out[q] (List.getElem_mem hql)
  rw [hsig] at hl
  rw [List.pairwise_iff_getElem] at hpw
  conv => lhs; rw [hsplit]
  rw [fold_one]
  · unfold lgS impl_LongestUp.step
    rw [if_pos hsig, if_pos hf, hl]
  · intro x hx
    obtain ⟨z, hz, rfl⟩ := List.mem_iff_getElem.1 hx
    rw [List.length_take] at hz
    rw [List.getElem_take]
    rw [← hsig]
    exact hpw z q (by omega) hql (by omega)
  · intro x hx
    obtain ⟨z, hz, rfl⟩ := List.mem_iff_getElem.1 hx
    rw [List.length_drop] at hz
    rw [List.getElem_drop]
    rw [← hsig]
    exact (hpw q (q + 1 + z) hql (by omega) (by omega)).symm
def resLong (l : List En) : Int × Int × Int := if validG l = true then (if (impl_LongestUp.to l l.length).2 < 0 then (0, 0, 6) else ((impl_LongestUp.to l l.length).1, (impl_LongestUp.to l l.length).2, 0)) else (0, 0, 1)
theorem specLong_all {l : List En} (hv : validG l = true) : ∀ d i K, i + d = l.length → 10000 + d * 70 ≤ K → spec_LongestUp.l0 K l (impl_LongestUp.to l i).1 (impl_LongestUp.to l i).2 (i : Int) = some (if (impl_LongestUp.to l l.length).2 < 0 then (0, 0, 6) else ((impl_LongestUp.to l l.length).1, (impl_LongestUp.to l l.length).2, 0)) := by
  have hl60 := (valid_parts hv).1
  intro d
  induction d with
  | zero =>
    intro i K hi hK
    obtain ⟨K, rfl⟩ : ∃ m, K = m + 1 := ⟨K - 1, by omega⟩
    obtain rfl : i = l.length := by omega
    simp only [spec_LongestUp.l0]
    rw [if_neg (by omega)]
    split <;> rfl
  | succ d ih =>
    intro i K hi hK
    have hil : i < l.length := by omega
    simp only [Nat.succ_mul] at hK
    cases hf : (rd_T73 l (i : Int)).f2 with
    | false =>
      obtain ⟨K, rfl⟩ : ∃ m, K = m + 1 := ⟨K - 1, by omega⟩
      have e := ih (i + 1) K (by omega) (by omega)
      rw [impl_LongestUp.to, show impl_LongestUp.step l i (impl_LongestUp.to l i) = impl_LongestUp.to l i from by unfold impl_LongestUp.step; rw [if_neg (by rw [hf]; simp)], show ((i + 1 : Nat) : Int) = (i : Int) + 1 by omega] at e
      rw [← e]
      simp only [spec_LongestUp.l0]
      rw [if_pos (by omega), if_pos (by omega), if_neg (by rw [hf]; simp), w64 (by omega) (by omega)]
    | true =>
      obtain ⟨out, hu⟩ := ups_some hv (n := i) (by omega)
      obtain ⟨o1, o2, _⟩ := ups_ok hu
      obtain ⟨K, rfl⟩ : ∃ m, K = m + out.length + 1 + 1 := ⟨K - out.length - 2, by omega⟩
      have e := ih (i + 1) K (by omega) (by omega)
      have e2 := specLong_in hv hil o2 (by omega) K out.length 0 (impl_LongestUp.to l i) (by omega)
      rw [List.drop_zero, step_fold hv hil hu hf] at e2
      rw [impl_LongestUp.to, show ((i + 1 : Nat) : Int) = (i : Int) + 1 by omega] at e
      rw [← e, ← e2]
      simp only [spec_LongestUp.l0]
      rw [if_pos (by omega), if_pos (by omega), if_pos hf, specUp_eq (by omega) hl60 (by omega), hu]
      rfl
theorem specLong_eq {k : Nat} {l : List En} (hk : 100000 < k) : spec_LongestUp.f k l = some (resLong l) := by
  unfold spec_LongestUp.f resLong
  rw [specOk_log (by omega)]
  simp only [Option.bind_some]
  cases hv : validG l with
  | false => rfl
  | true =>
    have hl60 := (valid_parts hv).1
    have e := specLong_all hv l.length 0 k (by omega) (by omega)
    simp only [if_true]
    exact e
theorem valid_all {l : List En} (hv : validG l = true) : l.all impl_LongestUp.inb = true := by
  rw [List.all_eq_true]
  intro x hx
  obtain ⟨i, hi, rfl⟩ := List.mem_iff_getElem.1 hx
  have t := valid_times hv hi
  have g := gd_at (valid_parts hv).2.1 hi
  rw [rd_impl_Entry hi] at t g
  unfold impl_Log_up.good at g
  unfold impl_LongestUp.inb
  simp only [Bool.and_eq_true, decide_eq_true_eq] at g ⊢
  exact ⟨t, g.2⟩
theorem implLong_eq {l : List En} (hl : l.length ≤ 1048576) : impl_LongestUp.f l = some (resLong l) := by
  unfold impl_LongestUp.f resLong
  rw [implValid_log hl]
  simp only [Option.bind_some]
  cases hv : validG l with
  | false => rfl
  | true =>
    rw [if_neg (by simp), if_pos ⟨(valid_parts hv).1, valid_all hv⟩]
    rfl

end Go.Proofs.Ytidkniacmcbgiaa.G.Pure
end

section
namespace Go.Proofs.Ytidkniacmcbgiaa.G.Pure
open Go.RowKit Go.Proofs.Ytidkniacmcbgiaa.G Go.Proofs.YtidkniacmcbgiaaW.PrintWords Go.Proofs.YtidkniacmcbgiaaW.PrintLast Go.Proofs.YtidkniacmcbgiaaW.PrintMore
set_option linter.unusedVariables false
set_option linter.unusedSimpArgs false
theorem FnExactLongestUp (l0 : List (S75)) (h00 : l0.length ≤ 9223372036854775807) (h01 : (∀ x ∈ l0, (Lit.int .i64 x.f0).wf = true ∧ (Lit.int .i64 x.f1).wf = true ∧ True)) : ∃ k, laws_FnExactLongestUp.f k l0 = some true := by
  by_cases hL : l0.length ≤ 1048576
  · obtain ⟨n, hn, hn0⟩ := szLog_small hL
    obtain ⟨k, hk⟩ : ∃ k, 1100000 < k := ⟨_, Nat.lt_succ_self _⟩
    refine ⟨k + 2, ?_⟩
    have hL' : (l0.map entryOf).length ≤ 1048576 := by simpa using hL
    have e1 := fun j => toLog_eq (k + j) l0 hL (by omega)
    have q1 := fun j => eqLog_self (k + j) (l0.map entryOf) hL' (by omega)
    have s1 := fun j => specLong_eq (k := k + j) (l := l0.map entryOf) (by omega)
    have i1 := implLong_eq hL'
    generalize resLong (l0.map entryOf) = res at *
    unfold laws_FnExactLongestUp.f
    rw [hn]
    simp only [Option.bind_some]
    rw [if_neg hn0]
    simp [laws_FnExactLongestUp.j0, e1, q1, s1, i1]
  · refine ⟨0, ?_⟩
    unfold laws_FnExactLongestUp.f
    rw [szLog_big h00 hL]
    rfl

end Go.Proofs.Ytidkniacmcbgiaa.G.Pure
end

section

end
