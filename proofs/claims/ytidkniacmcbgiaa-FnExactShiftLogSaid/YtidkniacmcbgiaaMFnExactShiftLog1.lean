/- The law's functions, their contracts, and the plain lemmas: texts of this claim, laid together. -/
import Derived.Deep.Slices
import Derived.Deep.Fields
import Derived.ChangeSame
import Derived.OpenShut
import Derived.Test.YtidkniacmcbgiaaMFnExactShiftLog0
section
namespace Go.Proofs.Ytidkniacmcbgiaa.G
open Go.RowKit Go.Proofs.YtidkniacmcbgiaaW.PrintWords Go.Proofs.YtidkniacmcbgiaaW.PrintLast Go.Proofs.YtidkniacmcbgiaaW.PrintMore
attribute [local go_sem] max2_int min2_int max_two min_two max_three min_three max_four min_four
set_option linter.unusedVariables false
set_option linter.unusedSimpArgs false

/-! ### spec_l07Ok: function 74 -/
def spec_l07Ok.l0 : Nat → List (S73) → Int → Int → Option (Bool)
  | 0, _, _, _ => none
  | k + 1, x0, x3, x4 => if x4 < (x0.length : Int) then (if 0 ≤ x4 then ((spec_l00In.f ((rd_T73 x0 x4).f0) x3 100000).bind fun t106 => (if t106 = true then ((spec_l00In.f ((rd_T73 x0 x4).f1) 0 9999).bind fun t108 => (if t108 = true then (spec_l07Ok.l0 k x0 ((rd_T73 x0 x4).f0) (wrap64 (x4 + 1))) else (some false))) else (some false))) else (none)) else ((spec_l07Up.f k x0 (x0.length : Int)).bind fun bt101 => (some bt101.2))
def spec_l07Ok.f (k : Nat) (l0 : List (S73)) : Option (Bool) := if (l0.length : Int) > 60 then (some false) else (spec_l07Ok.l0 k l0 0 0)
set_option maxHeartbeats 8000000 in
set_option maxRecDepth 100000 in
theorem spec_l07Ok.calls (k : Nat) (A0 : Option Addr) (c0 : Nat) (l0 : List (S73)) (r : Bool) (w : World) (hr0 : Kd.C k73 w A0 l0.length l0) (hc0 : l0.length ≤ c0) (h : spec_l07Ok.f k l0 = some r) :
    Calls Try.prog 74 #[.slice A0 l0.length c0] w fun e w' => e = .returned (.bool r) ∧ Below w.heap.size w w' := by
  have HR0 := Aside0.mk hr0
  have HC0 := Aside0.mk hc0
  clear hr0 hc0
  have HB := Aside0.mk (Below.refl w.heap.size w)
  have H : (if (l0.length : Int) > 60 then (some false) else (spec_l07Ok.l0 k l0 0 0)) = some r := h
  clear h
  by_cases c2 : (l0.length : Int) > 60
  · rw [if_pos c2] at H
    have c2b0 : decide (60 < (l0.length : Int)) = true := decide_eq_true c2
    have c2b1 : decide (60 < l0.length) = true := decide_eq_true (by omega)
    clear c2
    obtain rfl := Option.some.inj H
    go_enter Try.func74, Try.ntmps74
    go_wp2
    go_ret
    exact ⟨by first | rfl | (simp [errW_none, errW_some, IntKind.wrap_i64, wrap64]; done) | (simp [errW_none, errW_some] <;> rfl) | (simp [*, errW_none, errW_some] <;> rfl), by repeat (first | (with_reducible first | exact HB.out | apply below_alloc | apply pw_below_drewN | apply below_drew1) | exact HB.out)⟩
  · rw [if_neg c2] at H
    have c2b0 : decide (60 < (l0.length : Int)) = false := decide_eq_false c2
    have c2b1 : decide (60 < l0.length) = false := decide_eq_false (by omega)
    clear c2
    have H' := Aside0.mk H
    clear H
    go_enter Try.func74, Try.ntmps74
    go_wp2
    go_loopg [3, 4] k (fun kq v3 v4 w' => ∃ (x3_1 : Int) (x4_1 : Int), v3 = .int .i64 x3_1 ∧ v4 = .int .i64 x4_1 ∧ Aside0 (spec_l07Ok.l0 kq l0 x3_1 x4_1 = some r) ∧ Aside0 (kq ≤ k) ∧ Aside0 (Below w.heap.size w w'))
    case atStart => exact ⟨(0), (0), (by first | rfl | (simp only [IntKind.wrap_i64, wrap64]; done) | (simp; done) | (simp [*]; done)), (by first | rfl | (simp only [IntKind.wrap_i64, wrap64]; done) | (simp; done) | (simp [*]; done)), H', ⟨Nat.le_refl _⟩, ⟨by repeat (first | (with_reducible first | exact HB.out | apply below_alloc | apply pw_below_drewN | apply below_drew1) | exact HB.out)⟩⟩
    case round =>
      clear H'
      try clear c2
      try clear c2b0
      try clear c2b1
      try clear p2
      obtain ⟨x3_1, x4_1, rfl, rfl, HA, HK1, HB⟩ := hrel
      cases gk with
      | zero => exact absurd HA.out (by simp [spec_l07Ok.l0])
      | succ k1 =>
        have H := HA.out
        clear HA
        simp only [spec_l07Ok.l0] at H
        by_cases c3 : x4_1 < (l0.length : Int)
        · rw [if_pos c3] at H
          have c3b0 : decide (x4_1 < (l0.length : Int)) = true := decide_eq_true c3
          clear c3
          by_cases c4 : 0 ≤ x4_1
          · rw [if_pos c4] at H
            have c4b0 : decide (0 ≤ x4_1) = true := decide_eq_true c4
            clear c4
            replace H := Option.bind_eq_some_iff.mp H
            obtain ⟨t106, A50, H⟩ := H
            replace H : (if t106 = true then ((spec_l00In.f ((rd_T73 l0 x4_1).f1) 0 9999).bind fun t108 => (if t108 = true then (spec_l07Ok.l0 k1 l0 ((rd_T73 l0 x4_1).f0) (wrap64 (x4_1 + 1))) else (some false))) else (some false)) = some r := H
            have A5 := Aside0.mk A50
            clear A50
            by_cases c6 : t106 = true
            · subst c6
              have H1 : ((spec_l00In.f ((rd_T73 l0 x4_1).f1) 0 9999).bind fun t108 => (if t108 = true then (spec_l07Ok.l0 k1 l0 ((rd_T73 l0 x4_1).f0) (wrap64 (x4_1 + 1))) else (some false))) = some r := by rw [if_pos rfl] at H; exact H
              clear H
              have H := H1
              clear H1
              replace H := Option.bind_eq_some_iff.mp H
              obtain ⟨t108, A70, H⟩ := H
              replace H : (if t108 = true then (spec_l07Ok.l0 k1 l0 ((rd_T73 l0 x4_1).f0) (wrap64 (x4_1 + 1))) else (some false)) = some r := H
              have A7 := Aside0.mk A70
              clear A70
              by_cases c8 : t108 = true
              · subst c8
                have H1 : (spec_l07Ok.l0 k1 l0 ((rd_T73 l0 x4_1).f0) (wrap64 (x4_1 + 1))) = some r := by rw [if_pos rfl] at H; exact H
                clear H
                have H := H1
                clear H1
                have H' := Aside0.mk H
                clear H
                have p105 : 0 ≤ (x4_1 : Int) := of_decide_eq_true (by first | (with_reducible assumption) | assumption)
                have q105 : x4_1 < (l0.length : Int) := of_decide_eq_true (by first | (with_reducible assumption) | assumption)
                obtain ⟨ad105, e105, hx105_0, hx105_1, hx105_2⟩ := at_T73 HR0.out x4_1 p105 q105
                cases e105
                replace hx105_0 := (HB.out.cell (World.block_lt_of_cell? w _ hx105_0)).trans hx105_0
                replace hx105_1 := (HB.out.cell (World.block_lt_of_cell? w _ hx105_1)).trans hx105_1
                replace hx105_2 := (HB.out.cell (World.block_lt_of_cell? w _ hx105_2)).trans hx105_2
                replace p105 := eq_true p105
                replace q105 := eq_true q105
                go_wp2_with (first | ((with_reducible refine gate_callee (f := 77) rfl ?_); refine goesL_ (some 22) rfl rfl Try.func77 (by kernel_rfl) rfl #[.int .i64 ((rd_T73 l0 x4_1).f0), .int .i64 x3_1, .int .i64 100000] rfl (by (try simp only [List.map_toArray, List.map_cons, List.map_nil]); first | done | rfl | (simp only [List.length_drop, List.length_take]; rfl)) ?_; (with_reducible refine (spec_l00In.calls ((rd_T73 l0 x4_1).f0) x3_1 100000 true _ A5.out).mono ?_); rintro e w' ⟨rfl, ⟨nd, rfl⟩⟩; refine ⟨_, rfl, ?_⟩; have p107 : 0 ≤ (x4_1 : Int) := of_decide_eq_true (by first | (with_reducible assumption) | assumption); have q107 : x4_1 < (l0.length : Int) := of_decide_eq_true (by first | (with_reducible assumption) | assumption); obtain ⟨ad107, e107, hx107_0, hx107_1, hx107_2⟩ := at_T73 HR0.out x4_1 p107 q107; obtain rfl : ad105 = ad107 := (by injection e107); replace hx107_0 := (HB.out.cell (World.block_lt_of_cell? w _ hx107_0)).trans hx107_0; replace hx107_1 := (HB.out.cell (World.block_lt_of_cell? w _ hx107_1)).trans hx107_1; replace hx107_2 := (HB.out.cell (World.block_lt_of_cell? w _ hx107_2)).trans hx107_2; replace p107 := eq_true p107; replace q107 := eq_true q107) | (go_at_call 77; (with_reducible refine (spec_l00In.calls ((rd_T73 l0 x4_1).f1) 0 9999 true _ A7.out).mono ?_); rintro e w' ⟨rfl, ⟨nd, rfl⟩⟩; have p109 : 0 ≤ (x4_1 : Int) := of_decide_eq_true (by first | (with_reducible assumption) | assumption); have q109 : x4_1 < (l0.length : Int) := of_decide_eq_true (by first | (with_reducible assumption) | assumption); obtain ⟨ad109, e109, hx109_0, hx109_1, hx109_2⟩ := at_T73 HR0.out x4_1 p109 q109; obtain rfl : ad105 = ad109 := (by injection e109); replace hx109_0 := (HB.out.cell (World.block_lt_of_cell? w _ hx109_0)).trans hx109_0; replace hx109_1 := (HB.out.cell (World.block_lt_of_cell? w _ hx109_1)).trans hx109_1; replace hx109_2 := (HB.out.cell (World.block_lt_of_cell? w _ hx109_2)).trans hx109_2; replace p109 := eq_true p109; replace q109 := eq_true q109))
                go_roundg k1
                case measure => have := HK1.out; omega
                case rel => exact ⟨((rd_T73 l0 x4_1).f0), (wrap64 (x4_1 + 1)), (by first | rfl | (simp only [IntKind.wrap_i64, wrap64]; done) | (simp; done) | (simp [*]; done)), (by first | rfl | (simp only [IntKind.wrap_i64, wrap64]; done) | (simp; done) | (simp [*]; done)), H', ⟨by have := HK1.out; omega⟩, ⟨by repeat (first | (with_reducible first | exact HB.out | apply below_alloc | apply pw_below_drewN | apply below_drew1) | exact HB.out)⟩⟩
              · replace c8 := Bool.eq_false_iff.mpr c8
                subst c8
                have H1 : (some false) = some r := by rw [if_neg (show ¬ (false = true) by decide)] at H; exact H
                clear H
                have H := H1
                clear H1
                obtain rfl := Option.some.inj H
                have p105 : 0 ≤ (x4_1 : Int) := of_decide_eq_true (by first | (with_reducible assumption) | assumption)
                have q105 : x4_1 < (l0.length : Int) := of_decide_eq_true (by first | (with_reducible assumption) | assumption)
                obtain ⟨ad105, e105, hx105_0, hx105_1, hx105_2⟩ := at_T73 HR0.out x4_1 p105 q105
                cases e105
                replace hx105_0 := (HB.out.cell (World.block_lt_of_cell? w _ hx105_0)).trans hx105_0
                replace hx105_1 := (HB.out.cell (World.block_lt_of_cell? w _ hx105_1)).trans hx105_1
                replace hx105_2 := (HB.out.cell (World.block_lt_of_cell? w _ hx105_2)).trans hx105_2
                replace p105 := eq_true p105
                replace q105 := eq_true q105
                go_wp2_with (first | ((with_reducible refine gate_callee (f := 77) rfl ?_); refine goesL_ (some 22) rfl rfl Try.func77 (by kernel_rfl) rfl #[.int .i64 ((rd_T73 l0 x4_1).f0), .int .i64 x3_1, .int .i64 100000] rfl (by (try simp only [List.map_toArray, List.map_cons, List.map_nil]); first | done | rfl | (simp only [List.length_drop, List.length_take]; rfl)) ?_; (with_reducible refine (spec_l00In.calls ((rd_T73 l0 x4_1).f0) x3_1 100000 true _ A5.out).mono ?_); rintro e w' ⟨rfl, ⟨nd, rfl⟩⟩; refine ⟨_, rfl, ?_⟩; have p107 : 0 ≤ (x4_1 : Int) := of_decide_eq_true (by first | (with_reducible assumption) | assumption); have q107 : x4_1 < (l0.length : Int) := of_decide_eq_true (by first | (with_reducible assumption) | assumption); obtain ⟨ad107, e107, hx107_0, hx107_1, hx107_2⟩ := at_T73 HR0.out x4_1 p107 q107; obtain rfl : ad105 = ad107 := (by injection e107); replace hx107_0 := (HB.out.cell (World.block_lt_of_cell? w _ hx107_0)).trans hx107_0; replace hx107_1 := (HB.out.cell (World.block_lt_of_cell? w _ hx107_1)).trans hx107_1; replace hx107_2 := (HB.out.cell (World.block_lt_of_cell? w _ hx107_2)).trans hx107_2; replace p107 := eq_true p107; replace q107 := eq_true q107) | (go_at_call 77; (with_reducible refine (spec_l00In.calls ((rd_T73 l0 x4_1).f1) 0 9999 false _ A7.out).mono ?_); rintro e w' ⟨rfl, ⟨nd, rfl⟩⟩))
                go_ret
                exact ⟨by first | rfl | (simp [errW_none, errW_some, IntKind.wrap_i64, wrap64]; done) | (simp [errW_none, errW_some] <;> rfl) | (simp [*, errW_none, errW_some] <;> rfl), by repeat (first | (with_reducible first | exact HB.out | apply below_alloc | apply pw_below_drewN | apply below_drew1) | exact HB.out)⟩
            · replace c6 := Bool.eq_false_iff.mpr c6
              subst c6
              have H1 : (some false) = some r := by rw [if_neg (show ¬ (false = true) by decide)] at H; exact H
              clear H
              have H := H1
              clear H1
              obtain rfl := Option.some.inj H
              have p105 : 0 ≤ (x4_1 : Int) := of_decide_eq_true (by first | (with_reducible assumption) | assumption)
              have q105 : x4_1 < (l0.length : Int) := of_decide_eq_true (by first | (with_reducible assumption) | assumption)
              obtain ⟨ad105, e105, hx105_0, hx105_1, hx105_2⟩ := at_T73 HR0.out x4_1 p105 q105
              cases e105
              replace hx105_0 := (HB.out.cell (World.block_lt_of_cell? w _ hx105_0)).trans hx105_0
              replace hx105_1 := (HB.out.cell (World.block_lt_of_cell? w _ hx105_1)).trans hx105_1
              replace hx105_2 := (HB.out.cell (World.block_lt_of_cell? w _ hx105_2)).trans hx105_2
              replace p105 := eq_true p105
              replace q105 := eq_true q105
              go_wp2_with (first | ((with_reducible refine gate_callee (f := 77) rfl ?_); refine goesL_ (some 22) rfl rfl Try.func77 (by kernel_rfl) rfl #[.int .i64 ((rd_T73 l0 x4_1).f0), .int .i64 x3_1, .int .i64 100000] rfl (by (try simp only [List.map_toArray, List.map_cons, List.map_nil]); first | done | rfl | (simp only [List.length_drop, List.length_take]; rfl)) ?_; (with_reducible refine (spec_l00In.calls ((rd_T73 l0 x4_1).f0) x3_1 100000 false _ A5.out).mono ?_); rintro e w' ⟨rfl, ⟨nd, rfl⟩⟩; refine ⟨_, rfl, ?_⟩))
              go_ret
              exact ⟨by first | rfl | (simp [errW_none, errW_some, IntKind.wrap_i64, wrap64]; done) | (simp [errW_none, errW_some] <;> rfl) | (simp [*, errW_none, errW_some] <;> rfl), by repeat (first | (with_reducible first | exact HB.out | apply below_alloc | apply pw_below_drewN | apply below_drew1) | exact HB.out)⟩
          · rw [if_neg c4] at H
            exact absurd H (by simp)
        · rw [if_neg c3] at H
          have c3b0 : decide (x4_1 < (l0.length : Int)) = false := decide_eq_false c3
          clear c3
          replace H := Option.bind_eq_some_iff.mp H
          obtain ⟨⟨t101, t102⟩, A90, H⟩ := H
          replace H : (some t102) = some r := H
          have A9 := Aside0.mk A90
          clear A90
          obtain rfl := Option.some.inj H
          go_wp2_with (first | ((with_reducible refine gate_callee (f := 76) rfl ?_); refine goesL_ (some 42) rfl rfl Try.func76 (by kernel_rfl) rfl #[.slice A0 l0.length c0, .int .i64 (l0.length : Int)] rfl (by (try simp only [List.map_toArray, List.map_cons, List.map_nil]); first | done | rfl | (simp only [List.length_drop, List.length_take]; rfl)) ?_; (with_reducible refine (spec_l07Up.calls k1 _ _ l0 (l0.length : Int) t101 t102 _ ?side1 ?side2 A9.out).mono ?_); (case side1 => repeat (first | exact (Kd.C_below HR0.out HB.out) | (with_reducible refine Kd.C_alloc ?_ _) | (with_reducible refine Kd.C_drewN ?_ _) | (with_reducible refine Kd.C_drew ?_))); (case side2 => exact HC0.out); rintro e w10 ⟨v103, rfl, ho0, hb⟩; refine ⟨_, rfl, ?_⟩; have n0_ := Aside0.mk (Kd.R_lower ho0 (below_size (by repeat (first | (with_reducible first | exact HB.out | apply below_alloc | apply pw_below_drewN | apply below_drew1) | exact HB.out)))); have n1_ := Aside0.mk (below_step (by repeat (first | (with_reducible first | exact HB.out | apply below_alloc | apply pw_below_drewN | apply below_drew1) | exact HB.out)) hb); clear HB; have HO104 := n0_; have HB := n1_; clear n0_ n1_; (try clear hb); (try clear hb2); (try clear hk); (try clear hi); (try clear ho0)))
          go_ret
          exact ⟨by first | rfl | (simp [errW_none, errW_some, IntKind.wrap_i64, wrap64]; done) | (simp [errW_none, errW_some] <;> rfl) | (simp [*, errW_none, errW_some] <;> rfl), by repeat (first | (with_reducible first | exact HB.out | apply below_alloc | apply pw_below_drewN | apply below_drew1) | exact HB.out)⟩

end Go.Proofs.Ytidkniacmcbgiaa.G
end

section
namespace Go.Proofs.Ytidkniacmcbgiaa.G
open Go.RowKit Go.Proofs.YtidkniacmcbgiaaW.PrintWords Go.Proofs.YtidkniacmcbgiaaW.PrintLast Go.Proofs.YtidkniacmcbgiaaW.PrintMore
attribute [local go_sem] max2_int min2_int max_two min_two max_three min_three max_four min_four
set_option linter.unusedVariables false
set_option linter.unusedSimpArgs false

/-! ### spec_l07Time: function 78 -/
def spec_l07Time.f (a0 : Int) : Option (Bool) := (spec_l00In.f a0 0 100000).bind fun t101 => (some t101)
set_option maxHeartbeats 8000000 in
set_option maxRecDepth 100000 in
theorem spec_l07Time.calls (a0 : Int) (r : Bool) (w : World) (h : spec_l07Time.f a0 = some r) :
    Calls Try.prog 78 #[.int .i64 a0] w fun e w' => e = .returned (.bool r) ∧ Drawn0 w w' := by
  have H : ((spec_l00In.f a0 0 100000).bind fun t101 => (some t101)) = some r := h
  clear h
  replace H := Option.bind_eq_some_iff.mp H
  obtain ⟨t101, A20, H⟩ := H
  replace H : (some t101) = some r := H
  have A2 := Aside0.mk A20
  clear A20
  obtain rfl := Option.some.inj H
  go_enter Try.func78, Try.ntmps78
  go_wp2_with (first | ((with_reducible refine gate_callee (f := 77) rfl ?_); refine goesL_ (some 4) rfl rfl Try.func77 (by kernel_rfl) rfl #[.int .i64 a0, .int .i64 0, .int .i64 100000] rfl (by (try simp only [List.map_toArray, List.map_cons, List.map_nil]); first | done | rfl | (simp only [List.length_drop, List.length_take]; rfl)) ?_; (with_reducible refine (spec_l00In.calls a0 0 100000 t101 _ A2.out).mono ?_); rintro e w' ⟨rfl, ⟨nd, rfl⟩⟩; refine ⟨_, rfl, ?_⟩))
  go_ret
  exact ⟨by first | rfl | (simp only [IntKind.wrap_i64, wrap64]; done) | (simp; done) | (simp [*]; done), by repeat (first | exact Drawn0.refl _ | apply Drawn0.step)⟩

end Go.Proofs.Ytidkniacmcbgiaa.G
end

section
namespace Go.Proofs.Ytidkniacmcbgiaa.G
open Go.RowKit Go.Proofs.YtidkniacmcbgiaaW.PrintWords Go.Proofs.YtidkniacmcbgiaaW.PrintLast Go.Proofs.YtidkniacmcbgiaaW.PrintMore
attribute [local go_sem] max2_int min2_int max_two min_two max_three min_three max_four min_four
set_option linter.unusedVariables false
set_option linter.unusedSimpArgs false

/-! ### spec_ShiftLog: function 28 -/
mutual
def spec_ShiftLog.j1 : Nat → List (S73) → Int → Bool → Option ((List (S73)) × Int)
  | 0, _, _, _ => none
  | k + 1, x0, x1, x6 => if x6 = true then (spec_ShiftLog.l1 k x0 x1 (([] : List (S73))) 0) else (some ((([] : List (S73))), 2))
def spec_ShiftLog.l1 : Nat → List (S73) → Int → List (S73) → Int → Option ((List (S73)) × Int)
  | 0, _, _, _, _ => none
  | k + 1, x0, x1, x8, x9 => if x9 < (x0.length : Int) then (if 0 ≤ x9 then (if x8.length < 5864062014805 then (spec_ShiftLog.l1 k x0 x1 (x8 ++ [(⟨wrap64 (((rd_T73 x0 x9).f0) + x1), (rd_T73 x0 x9).f1, (rd_T73 x0 x9).f2⟩ : S73)]) (wrap64 (x9 + 1))) else (none)) else (none)) else (some (x8, 0))
def spec_ShiftLog.l0 : Nat → List (S73) → Int → Bool → Int → Option ((List (S73)) × Int)
  | 0, _, _, _, _ => none
  | k + 1, x0, x1, x6, x7 => if x7 < (x0.length : Int) then (if x6 = true then (if 0 ≤ x7 then ((spec_l07Time.f (wrap64 (((rd_T73 x0 x7).f0) + x1))).bind fun t107 => (spec_ShiftLog.l0 k x0 x1 t107 (wrap64 (x7 + 1)))) else (none)) else (spec_ShiftLog.j1 k x0 x1 x6)) else (spec_ShiftLog.j1 k x0 x1 x6)
end
def spec_ShiftLog.f (k : Nat) (l0 : List (S73)) (a1 : Int) : Option ((List (S73)) × Int) := (spec_l07Ok.f k l0).bind fun t101 => (if t101 = true then ((spec_l00In.f a1 (-100000) 100000).bind fun t105 => (spec_ShiftLog.l0 k l0 a1 t105 0)) else (some ((([] : List (S73))), 1)))
def spec_ShiftLog.T14 : Bool × List (List Nat × List Nat) := (true, [([], []), ([], []), ([], []), ([1, 2], [1, 2]), ([3], [3]), ([4], [4]), ([], []), ([5, 6], [5, 6]), ([], []), ([], []), ([8, 9], [8, 9]), ([10], [10]), ([11], [11]), ([], []), ([], []), ([13, 14], [13, 14]), ([15], [15]), ([16], [16]), ([7, 12, 17], [7, 12, 17]), ([18], [18]), ([0, 19], [0, 19]), ([20, 20, 0, 1, 2, 3, 4, 5, 6, 7, 8, 9, 10, 11, 12, 13, 14, 15, 16, 17, 18, 19, 20], [0, 20])])
def spec_ShiftLog.B14 : List Nat := [0, 0, 0, 6, 14, 30, 0, 126, 0, 0, 768, 1792, 3840, 0, 0, 24576, 57344, 122880, 262142, 524286, 1048575, 2097151]
theorem spec_ShiftLog.tab14 : rtab .any (opsOf Try.f28 14) = spec_ShiftLog.T14 := by kernel_rfl
theorem spec_ShiftLog.bits14 : waitsOk spec_ShiftLog.T14.2 spec_ShiftLog.B14 = true := by kernel_rfl
set_option maxHeartbeats 8000000 in
set_option maxRecDepth 100000 in
theorem spec_ShiftLog.calls (k : Nat) (A0 : Option Addr) (c0 : Nat) (l0 : List (S73)) (a1 : Int) (r1 : List (S73)) (r2 : Int) (w : World) (hr0 : Kd.C k73 w A0 l0.length l0) (hc0 : l0.length ≤ c0) (h : spec_ShiftLog.f k l0 a1 = some (r1, r2)) :
    Calls Try.prog 28 #[.slice A0 l0.length c0, .int .i64 a1] w fun e w' => ∃ v0_ : Value, e = .returned (.tuple #[v0_, .int .i64 r2]) ∧ Kd.R k73 73 w' w.heap.size (fun _ => True) v0_ r1 ∧ Below w.heap.size w w' := by
  have hu73 := Try.underlying73
  have HR0 := Aside0.mk hr0
  have HC0 := Aside0.mk hc0
  clear hr0 hc0
  have HB := Aside0.mk (Below.refl w.heap.size w)
  have H : ((spec_l07Ok.f k l0).bind fun t101 => (if t101 = true then ((spec_l00In.f a1 (-100000) 100000).bind fun t105 => (spec_ShiftLog.l0 k l0 a1 t105 0)) else (some ((([] : List (S73))), 1)))) = some (r1, r2) := h
  clear h
  replace H := Option.bind_eq_some_iff.mp H
  obtain ⟨t101, A30, H⟩ := H
  replace H : (if t101 = true then ((spec_l00In.f a1 (-100000) 100000).bind fun t105 => (spec_ShiftLog.l0 k l0 a1 t105 0)) else (some ((([] : List (S73))), 1))) = some (r1, r2) := H
  have A3 := Aside0.mk A30
  clear A30
  by_cases c4 : t101 = true
  · subst c4
    have H1 : ((spec_l00In.f a1 (-100000) 100000).bind fun t105 => (spec_ShiftLog.l0 k l0 a1 t105 0)) = some (r1, r2) := by rw [if_pos rfl] at H; exact H
    clear H
    have H := H1
    clear H1
    replace H := Option.bind_eq_some_iff.mp H
    obtain ⟨t105, A50, H⟩ := H
    replace H : (spec_ShiftLog.l0 k l0 a1 t105 0) = some (r1, r2) := H
    have A5 := Aside0.mk A50
    clear A50
    have HC6 := Aside0.mk H
    clear H
    go_enter Try.func28, Try.ntmps28
    go_upto_block 0 with (first | ((with_reducible refine gate_callee (f := 74) rfl ?_); refine goesL_ (some 11) rfl rfl Try.func74 (by kernel_rfl) rfl #[.slice A0 l0.length c0] rfl (by (try simp only [List.map_toArray, List.map_cons, List.map_nil]); first | done | rfl | (simp only [List.length_drop, List.length_take]; rfl)) ?_; (with_reducible refine (spec_l07Ok.calls k _ _ l0 true _ ?side1 ?side2 A3.out).mono ?_); (case side1 => repeat (first | exact HR0.out | (with_reducible refine Kd.C_alloc ?_ _) | (with_reducible refine Kd.C_drewN ?_ _) | (with_reducible refine Kd.C_drew ?_))); (case side2 => exact HC0.out); rintro e w7 ⟨rfl, hb⟩; refine ⟨_, rfl, ?_⟩; have n0_ := Aside0.mk (below_step (by repeat (first | (with_reducible first | exact HB.out | apply below_alloc | apply pw_below_drewN | apply below_drew1) | exact HB.out)) hb); clear HB; have HB := n0_; clear n0_; (try clear hb); (try clear hb2); (try clear hk); (try clear hi)) | ((with_reducible refine gate_callee (f := 77) rfl ?_); refine goesL_ (some 15) rfl rfl Try.func77 (by kernel_rfl) rfl #[.int .i64 a1, .int .i64 (-100000), .int .i64 100000] rfl (by (try simp only [List.map_toArray, List.map_cons, List.map_nil]); first | done | rfl | (simp only [List.length_drop, List.length_take]; rfl)) ?_; (with_reducible refine (spec_l00In.calls a1 (-100000) 100000 t105 _ A5.out).mono ?_); rintro e w' ⟨rfl, ⟨nd, rfl⟩⟩; refine ⟨_, rfl, ?_⟩))
    (try simp only [Act.put, List.setIfInBounds_toArray, List.set_cons_zero, List.set_cons_succ])
    go_cut [6] (fun v6 wc => ∃ (kq : Nat) (x6_5 : Bool), v6 = .bool x6_5 ∧ Aside0 (spec_ShiftLog.j1 kq l0 a1 x6_5 = some (r1, r2)) ∧ Aside0 (kq ≤ k) ∧ Aside0 (Below w.heap.size w wc))
    case first =>
      have H := HC6.out
      clear HC6
      have H' := Aside0.mk H
      clear H
      go_wp2
      go_loopg [6, 7] k (fun kq v6 v7 w' => ∃ (x6_1 : Bool) (x7_1 : Int), v6 = .bool x6_1 ∧ v7 = .int .i64 x7_1 ∧ Aside0 (spec_ShiftLog.l0 kq l0 a1 x6_1 x7_1 = some (r1, r2)) ∧ Aside0 (kq ≤ k) ∧ Aside0 (Below w.heap.size w w'))
      case atStart => exact ⟨(t105), (0), (by first | rfl | (simp only [IntKind.wrap_i64, wrap64]; done) | (simp; done) | (simp [*]; done)), (by first | rfl | (simp only [IntKind.wrap_i64, wrap64]; done) | (simp; done) | (simp [*]; done)), H', ⟨Nat.le_refl _⟩, ⟨by repeat (first | (with_reducible first | exact HB.out | apply below_alloc | apply pw_below_drewN | apply below_drew1) | exact HB.out)⟩⟩
      case round =>
        clear H'
        try clear c2
        try clear p2
        try clear c4
        try clear c7
        obtain ⟨x6_1, x7_1, rfl, rfl, HA, HK1, HB⟩ := hrel
        cases gk with
        | zero => exact absurd HA.out (by simp [spec_ShiftLog.l0])
        | succ k1 =>
          have H := HA.out
          clear HA
          simp only [spec_ShiftLog.l0] at H
          by_cases c8 : x7_1 < (l0.length : Int)
          · rw [if_pos c8] at H
            have c8b0 : decide (x7_1 < (l0.length : Int)) = true := decide_eq_true c8
            clear c8
            (first | rw [c8b0] | (simp only [i64_w, i32_w]; rw [c8b0]) | skip)
            by_cases c9 : x6_1 = true
            · subst c9
              have H1 : (if 0 ≤ x7_1 then ((spec_l07Time.f (wrap64 (((rd_T73 l0 x7_1).f0) + a1))).bind fun t107 => (spec_ShiftLog.l0 k1 l0 a1 t107 (wrap64 (x7_1 + 1)))) else (none)) = some (r1, r2) := by rw [if_pos rfl] at H; exact H
              clear H
              have H := H1
              clear H1
              by_cases c10 : 0 ≤ x7_1
              · rw [if_pos c10] at H
                have c10b0 : decide (0 ≤ x7_1) = true := decide_eq_true c10
                clear c10
                replace H := Option.bind_eq_some_iff.mp H
                obtain ⟨t107, A110, H⟩ := H
                replace H : (spec_ShiftLog.l0 k1 l0 a1 t107 (wrap64 (x7_1 + 1))) = some (r1, r2) := H
                have A11 := Aside0.mk A110
                clear A110
                have H' := Aside0.mk H
                clear H
                have p106 : 0 ≤ (x7_1 : Int) := of_decide_eq_true (by first | (with_reducible assumption) | assumption)
                have q106 : x7_1 < (l0.length : Int) := of_decide_eq_true (by first | (with_reducible assumption) | assumption)
                obtain ⟨ad106, e106, hx106_0, hx106_1, hx106_2⟩ := at_T73 HR0.out x7_1 p106 q106
                cases e106
                replace hx106_0 := (HB.out.cell (World.block_lt_of_cell? w _ hx106_0)).trans hx106_0
                replace hx106_1 := (HB.out.cell (World.block_lt_of_cell? w _ hx106_1)).trans hx106_1
                replace hx106_2 := (HB.out.cell (World.block_lt_of_cell? w _ hx106_2)).trans hx106_2
                replace p106 := eq_true p106
                replace q106 := eq_true q106
                go_wp2_with (first | ((with_reducible refine gate_callee (f := 78) rfl ?_); refine goesL_ (some 32) rfl rfl Try.func78 (by kernel_rfl) rfl #[.int .i64 (wrap64 (((rd_T73 l0 x7_1).f0) + a1))] rfl (by (try simp only [List.map_toArray, List.map_cons, List.map_nil]); first | done | rfl | (simp only [List.length_drop, List.length_take]; rfl)) ?_; (with_reducible refine (spec_l07Time.calls (wrap64 (((rd_T73 l0 x7_1).f0) + a1)) t107 _ A11.out).mono ?_); rintro e w' ⟨rfl, ⟨nd, rfl⟩⟩; refine ⟨_, rfl, ?_⟩))
                go_roundg k1
                case measure => have := HK1.out; omega
                case rel => exact ⟨(t107), (wrap64 (x7_1 + 1)), (by first | rfl | (simp only [IntKind.wrap_i64, wrap64]; done) | (simp; done) | (simp [*]; done)), (by first | rfl | (simp only [IntKind.wrap_i64, wrap64]; done) | (simp; done) | (simp [*]; done)), H', ⟨by have := HK1.out; omega⟩, ⟨by repeat (first | (with_reducible first | exact HB.out | apply below_alloc | apply pw_below_drewN | apply below_drew1) | exact HB.out)⟩⟩
              · rw [if_neg c10] at H
                exact absurd H (by simp)
            · replace c9 := Bool.eq_false_iff.mpr c9
              subst c9
              have H1 : (spec_ShiftLog.j1 k1 l0 a1 false) = some (r1, r2) := by rw [if_neg (show ¬ (false = true) by decide)] at H; exact H
              clear H
              have H := H1
              clear H1
              have H' := Aside0.mk H
              clear H
              go_wp2
              go_meet
              case rel => exact ⟨_, (false), (by first | rfl | (simp only [IntKind.wrap_i64, wrap64]; done) | (simp; done) | (simp [*]; done)), H', ⟨by have := HK1.out; first | omega | exact Nat.le_refl _⟩, ⟨by repeat (first | (with_reducible first | exact HB.out | apply below_alloc | apply pw_below_drewN | apply below_drew1) | exact HB.out)⟩⟩
          · rw [if_neg c8] at H
            have c8b0 : decide (x7_1 < (l0.length : Int)) = false := decide_eq_false c8
            clear c8
            (first | rw [c8b0] | (simp only [i64_w, i32_w]; rw [c8b0]) | skip)
            have H' := Aside0.mk H
            clear H
            go_wp2
            go_meet
            case rel => exact ⟨_, (x6_1), (by first | rfl | (simp only [IntKind.wrap_i64, wrap64]; done) | (simp; done) | (simp [*]; done)), H', ⟨by have := HK1.out; first | omega | exact Nat.le_refl _⟩, ⟨by repeat (first | (with_reducible first | exact HB.out | apply below_alloc | apply pw_below_drewN | apply below_drew1) | exact HB.out)⟩⟩
    case rest =>
      clear HC6
      try clear c1
      try clear p1
      try clear q1
      try clear hx1
      try clear c2
      try clear p2
      try clear c4
      try clear p6
      try clear c7
      try clear c8
      try clear c8b0
      try clear c9
      try clear c10
      try clear c10b0
      try clear p10
      try clear q10
      try clear hx10
      try clear hx106_0
      try clear hx106_1
      try clear hx106_2
      try clear p106
      try clear p2
      try clear q106
      obtain ⟨kq, x6_5, rfl, HA, HJ5, HB⟩ := hcut
      cases kq with
      | zero => exact absurd HA.out (by simp [spec_ShiftLog.j1])
      | succ kj5 =>
        have H := HA.out
        clear HA
        simp only [spec_ShiftLog.j1] at H
        by_cases c12 : x6_5 = true
        · subst c12
          have H1 : (spec_ShiftLog.l1 kj5 l0 a1 (([] : List (S73))) 0) = some (r1, r2) := by rw [if_pos rfl] at H; exact H
          clear H
          have H := H1
          clear H1
          obtain ⟨y111, hy111⟩ : ∃ y_ : List (S73), y_ = (([] : List (S73))) := ⟨_, rfl⟩
          replace H : (spec_ShiftLog.l1 kj5 l0 a1 y111 0) = some (r1, r2) := by first | (rw [hy111]; with_reducible exact H) | (have H2_ := (Option.bind_some _ _).symm.trans H; rw [hy111]; with_reducible exact H2_) | (have H2_ := (Option.bind_some _ _).symm.trans H; with_reducible exact H2_) | with_reducible exact H | (rw [hy111]; exact H) | exact H
          have Ny111 := Aside0.mk hy111
          clear hy111
          have H' := Aside0.mk H
          clear H
          go_wp2_with (first | ((with_reducible refine gate_dst (N := 36) rfl ?_); refine Kd.R_lit k73 _ 73 ?hg (N := 36) ?hd (xs := ([] : List (S73))) (inner := []) (ok := fun _ => True) (okp := fun _ => True) ?hr ?hp (fun _ hk => hk) trivial (Below.refl _ _) (Nat.le_refl _) (by simp) ?_; (case hd => rfl); (case hg => rfl); (case hr => first | (go_simp; done) | (go_simp; rfl)); (case hp => exact (Reps.none _ _)); intro v112 w13 ho14 hb hg_ hnew_; clear hg_ hnew_; (first | rw [← Ny111.out] at ho14 | (simp only [Int.reduceToNat] at ho14; rw [← Ny111.out] at ho14)); have n0_ := Aside0.mk (Kd.R_lower ho14 (below_size (by repeat (first | (with_reducible first | exact HB.out | apply below_alloc | apply pw_below_drewN | apply below_drew1) | exact HB.out)))); have n1_ := Aside0.mk (below_step (by repeat (first | (with_reducible first | exact HB.out | apply below_alloc | apply pw_below_drewN | apply below_drew1) | exact HB.out)) hb); clear HB; have HO113 := n0_; have HB := n1_; clear n0_ n1_; clear hb ho14))
          go_loopg [8, 9] kj5 (fun kq v8 v9 w' => ∃ (x8_2 : List (S73)) (x9_2 : Int), v9 = .int .i64 x9_2 ∧ Aside0 (spec_ShiftLog.l1 kq l0 a1 x8_2 x9_2 = some (r1, r2)) ∧ Aside0 (kq ≤ kj5) ∧ Aside0 (Kd.R k73 73 w' w.heap.size (fun _ => True) v8 x8_2) ∧ Aside0 (Below w.heap.size w w'))
          case atStart => exact ⟨(y111), (0), (by first | rfl | (simp only [IntKind.wrap_i64, wrap64]; done) | (simp; done) | (simp [*]; done)), H', ⟨Nat.le_refl _⟩, ⟨by (with_reducible repeat (first | apply Kd.R_alloc | apply Kd.R_drewN | apply Kd.R_drew)); exact HO113.out⟩, ⟨by repeat (first | (with_reducible first | exact HB.out | apply below_alloc | apply pw_below_drewN | apply below_drew1) | exact HB.out)⟩⟩
          case round =>
            clear H'
            try clear c1
            try clear p1
            try clear q1
            try clear hx1
            try clear c2
            try clear p2
            try clear c4
            try clear p6
            try clear c7
            try clear c8
            try clear c8b0
            try clear c9
            try clear c10
            try clear c10b0
            try clear p10
            try clear q10
            try clear hx10
            try clear c12
            try clear hx106_0
            try clear hx106_1
            try clear hx106_2
            try clear p1
            try clear p10
            try clear p106
            try clear p2
            try clear p6
            try clear q1
            try clear q10
            try clear q106
            obtain ⟨x8_2, x9_2, rfl, HA, HK2, HO_8, HB⟩ := hrel
            cases gk with
            | zero => exact absurd HA.out (by simp [spec_ShiftLog.l1])
            | succ k2 =>
              have H := HA.out
              clear HA
              simp only [spec_ShiftLog.l1] at H
              by_cases c15 : x9_2 < (l0.length : Int)
              · rw [if_pos c15] at H
                have c15b0 : decide (x9_2 < (l0.length : Int)) = true := decide_eq_true c15
                clear c15
                by_cases c16 : 0 ≤ x9_2
                · rw [if_pos c16] at H
                  have c16b0 : decide (0 ≤ x9_2) = true := decide_eq_true c16
                  clear c16
                  by_cases c17 : x8_2.length < 5864062014805
                  · rw [if_pos c17] at H
                    have LMc17 := Aside0.mk c17
                    clear c17
                    obtain ⟨y117, hy117⟩ : ∃ y_ : List (S73), y_ = (x8_2 ++ [(⟨wrap64 (((rd_T73 l0 x9_2).f0) + a1), (rd_T73 l0 x9_2).f1, (rd_T73 l0 x9_2).f2⟩ : S73)]) := ⟨_, rfl⟩
                    replace H : (spec_ShiftLog.l1 k2 l0 a1 y117 (wrap64 (x9_2 + 1))) = some (r1, r2) := by first | (rw [hy117]; with_reducible exact H) | (have H2_ := (Option.bind_some _ _).symm.trans H; rw [hy117]; with_reducible exact H2_) | (have H2_ := (Option.bind_some _ _).symm.trans H; with_reducible exact H2_) | with_reducible exact H | (rw [hy117]; exact H) | exact H
                    have Ny117 := Aside0.mk hy117
                    clear hy117
                    have H' := Aside0.mk H
                    clear H
                    try go_wp2
                    have n0_ := Aside0.mk (Kd.R_drew HO_8.out)
                    have n1_ := Aside0.mk (below_drew1 HB.out)
                    clear HO_8
                    clear HB
                    have HO_8 := n0_
                    have HB := n1_
                    clear n0_ n1_
                    have p114 : 0 ≤ (x9_2 : Int) := of_decide_eq_true (by first | (with_reducible assumption) | assumption)
                    have q114 : x9_2 < (l0.length : Int) := of_decide_eq_true (by first | (with_reducible assumption) | assumption)
                    obtain ⟨ad114, e114, hx114_0, hx114_1, hx114_2⟩ := at_T73 HR0.out x9_2 p114 q114
                    have hw114_2 := hx114_2
                    have hw114_1 := hx114_1
                    have hw114_0 := hx114_0
                    cases e114
                    replace hx114_0 := (HB.out.cell (World.block_lt_of_cell? w _ hx114_0)).trans hx114_0
                    replace hx114_1 := (HB.out.cell (World.block_lt_of_cell? w _ hx114_1)).trans hx114_1
                    replace hx114_2 := (HB.out.cell (World.block_lt_of_cell? w _ hx114_2)).trans hx114_2
                    replace p114 := eq_true p114
                    replace q114 := eq_true q114
                    have p115 : 0 ≤ (x9_2 : Int) := of_decide_eq_true (by first | (with_reducible assumption) | assumption)
                    have q115 : x9_2 < (l0.length : Int) := of_decide_eq_true (by first | (with_reducible assumption) | assumption)
                    obtain ⟨ad115, e115, hx115_0, hx115_1, hx115_2⟩ := at_T73 HR0.out x9_2 p115 q115
                    have hw115_2 := hx115_2
                    have hw115_1 := hx115_1
                    have hw115_0 := hx115_0
                    obtain rfl : ad114 = ad115 := (by injection e115)
                    replace hx115_0 := (HB.out.cell (World.block_lt_of_cell? w _ hx115_0)).trans hx115_0
                    replace hx115_1 := (HB.out.cell (World.block_lt_of_cell? w _ hx115_1)).trans hx115_1
                    replace hx115_2 := (HB.out.cell (World.block_lt_of_cell? w _ hx115_2)).trans hx115_2
                    replace p115 := eq_true p115
                    replace q115 := eq_true q115
                    have p116 : 0 ≤ (x9_2 : Int) := of_decide_eq_true (by first | (with_reducible assumption) | assumption)
                    have q116 : x9_2 < (l0.length : Int) := of_decide_eq_true (by first | (with_reducible assumption) | assumption)
                    obtain ⟨ad116, e116, hx116_0, hx116_1, hx116_2⟩ := at_T73 HR0.out x9_2 p116 q116
                    have hw116_2 := hx116_2
                    have hw116_1 := hx116_1
                    have hw116_0 := hx116_0
                    obtain rfl : ad114 = ad116 := (by injection e116)
                    replace hx116_0 := (HB.out.cell (World.block_lt_of_cell? w _ hx116_0)).trans hx116_0
                    replace hx116_1 := (HB.out.cell (World.block_lt_of_cell? w _ hx116_1)).trans hx116_1
                    replace hx116_2 := (HB.out.cell (World.block_lt_of_cell? w _ hx116_2)).trans hx116_2
                    replace p116 := eq_true p116
                    replace q116 := eq_true q116
                    refine start_ (n := 22) (S := fun w' => w'.cell? (ad114.add ((x9_2).toNat * 3)) = some (.int .i64 ((rd_T73 l0 x9_2).f0)) ∧ w'.cell? ⟨(ad114.add ((x9_2).toNat * 3)).block, (ad114.add ((x9_2).toNat * 3)).off + 1, none⟩ = some (.int .i64 ((rd_T73 l0 x9_2).f1)) ∧ w'.cell? ⟨(ad114.add ((x9_2).toNat * 3)).block, (ad114.add ((x9_2).toNat * 3)).off + 2, none⟩ = some (.bool ((rd_T73 l0 x9_2).f2)) ∧ w'.cell? (ad114.add ((x9_2).toNat * 3)) = some (.int .i64 ((rd_T73 l0 x9_2).f0)) ∧ w'.cell? ⟨(ad114.add ((x9_2).toNat * 3)).block, (ad114.add ((x9_2).toNat * 3)).off + 1, none⟩ = some (.int .i64 ((rd_T73 l0 x9_2).f1)) ∧ w'.cell? ⟨(ad114.add ((x9_2).toNat * 3)).block, (ad114.add ((x9_2).toNat * 3)).off + 2, none⟩ = some (.bool ((rd_T73 l0 x9_2).f2)) ∧ w'.cell? (ad114.add ((x9_2).toNat * 3)) = some (.int .i64 ((rd_T73 l0 x9_2).f0)) ∧ w'.cell? ⟨(ad114.add ((x9_2).toNat * 3)).block, (ad114.add ((x9_2).toNat * 3)).off + 1, none⟩ = some (.int .i64 ((rd_T73 l0 x9_2).f1)) ∧ w'.cell? ⟨(ad114.add ((x9_2).toNat * 3)).block, (ad114.add ((x9_2).toNat * 3)).off + 2, none⟩ = some (.bool ((rd_T73 l0 x9_2).f2))) (ds := []) #[false, false, false, false, false, false, false, false, false, false, false, false, false, false, false, false, false, false, false, false, false, false] (by kernel_rfl) rfl rfl ⟨((HB.out.cell (World.block_lt_of_cell? w _ hw114_0)).trans hw114_0), ((HB.out.cell (World.block_lt_of_cell? w _ hw114_1)).trans hw114_1), ((HB.out.cell (World.block_lt_of_cell? w _ hw114_2)).trans hw114_2), ((HB.out.cell (World.block_lt_of_cell? w _ hw115_0)).trans hw115_0), ((HB.out.cell (World.block_lt_of_cell? w _ hw115_1)).trans hw115_1), ((HB.out.cell (World.block_lt_of_cell? w _ hw115_2)).trans hw115_2), ((HB.out.cell (World.block_lt_of_cell? w _ hw116_0)).trans hw116_0), ((HB.out.cell (World.block_lt_of_cell? w _ hw116_1)).trans hw116_1), ((HB.out.cell (World.block_lt_of_cell? w _ hw116_2)).trans hw116_2)⟩ (fun hHeld => ?_); refine with_tabW spec_ShiftLog.tab14 spec_ShiftLog.bits14 (fun HT_ HW_ => ?_)
                    generalize wr.drew = w18 at HO_8 HB hx114_0 hx114_1 hx114_2 hx115_0 hx115_1 hx115_2 hx116_0 hx116_1 hx116_2 hHeld ⊢
                    refine pure_ (i := 0) (N := some 43) (v := ?_) (a' := ?_) #[true, false, false, false, false, false, false, false, false, false, false, false, false, false, false, false, false, false, false, false, false, false] rfl rfl (any_of HT_.out (by kernel_rfl)) (fun _ _ _ h => h) (Or.inl ⟨by rfl, ?_⟩) ?_ ?_
                    rotate_left
                    · intro w'
                      go_simp
                      with_reducible rfl
                    rotate_left
                    · simp only [Act.put, List.setIfInBounds_toArray, List.set_cons_zero, List.set_cons_succ, i64_w, i32_w]
                      rfl
                    refine pure_ (i := 1) (N := some 44) (v := ?_) (a' := ?_) #[true, true, false, false, false, false, false, false, false, false, false, false, false, false, false, false, false, false, false, false, false, false] rfl rfl (any_of HT_.out (by kernel_rfl)) (fun _ _ _ h => h) (Or.inl ⟨by rfl, ?_⟩) ?_ ?_
                    rotate_left
                    · intro w'
                      go_simp
                      with_reducible rfl
                    rotate_left
                    · simp only [Act.put, List.setIfInBounds_toArray, List.set_cons_zero, List.set_cons_succ, i64_w, i32_w]
                      rfl
                    refine pure_ (i := 2) (N := some 45) (v := ?_) (a' := ?_) #[true, true, true, false, false, false, false, false, false, false, false, false, false, false, false, false, false, false, false, false, false, false] rfl rfl (any_of HT_.out (by kernel_rfl)) (fun _ _ _ h => h) (Or.inl ⟨by rfl, ?_⟩) ?_ ?_
                    rotate_left
                    · intro w'
                      go_simp
                      with_reducible rfl
                    rotate_left
                    · simp only [Act.put, List.setIfInBounds_toArray, List.set_cons_zero, List.set_cons_succ, i64_w, i32_w]
                      rfl
                    refine pure_ (i := 3) (N := some 46) (v := ?_) (a' := ?_) #[true, true, true, true, false, false, false, false, false, false, false, false, false, false, false, false, false, false, false, false, false, false] rfl rfl (any_of HT_.out (by kernel_rfl)) (fun _ _ _ h => h) (Or.inl ⟨by rfl, ?_⟩) ?_ ?_
                    rotate_left
                    · intro w'
                      go_simp
                      with_reducible rfl
                    rotate_left
                    · simp only [Act.put, List.setIfInBounds_toArray, List.set_cons_zero, List.set_cons_succ, i64_w, i32_w]
                      rfl
                    refine pure_ (i := 4) (N := some 47) (v := ?_) (a' := ?_) #[true, true, true, true, true, false, false, false, false, false, false, false, false, false, false, false, false, false, false, false, false, false] rfl rfl (any_of HT_.out (by kernel_rfl)) (fun _ _ _ h => h) (Or.inl ⟨by rfl, ?_⟩) ?_ ?_
                    rotate_left
                    · intro w'
                      go_simp
                      with_reducible rfl
                    rotate_left
                    · simp only [Act.put, List.setIfInBounds_toArray, List.set_cons_zero, List.set_cons_succ, i64_w, i32_w]
                      rfl
                    refine pure_ (i := 6) (N := some 49) (v := ?_) (a' := ?_) #[true, true, true, true, true, false, true, false, false, false, false, false, false, false, false, false, false, false, false, false, false, false] rfl rfl (any_of HT_.out (by kernel_rfl)) (fun _ _ _ h => h) (Or.inl ⟨by rfl, ?_⟩) ?_ ?_
                    rotate_left
                    · intro w'
                      go_simp
                      with_reducible rfl
                    rotate_left
                    · simp only [Act.put, List.setIfInBounds_toArray, List.set_cons_zero, List.set_cons_succ, i64_w, i32_w]
                      rfl
                    refine pure_ (i := 8) (N := some 51) (v := ?_) (a' := ?_) #[true, true, true, true, true, false, true, false, true, false, false, false, false, false, false, false, false, false, false, false, false, false] rfl rfl (any_of HT_.out (by kernel_rfl)) (fun _ _ _ h => h) (Or.inl ⟨by rfl, ?_⟩) ?_ ?_
                    rotate_left
                    · intro w'
                      go_simp
                      with_reducible rfl
                    rotate_left
                    · simp only [Act.put, List.setIfInBounds_toArray, List.set_cons_zero, List.set_cons_succ, i64_w, i32_w]
                      rfl
                    refine pure_ (i := 9) (N := some 52) (v := ?_) (a' := ?_) #[true, true, true, true, true, false, true, false, true, true, false, false, false, false, false, false, false, false, false, false, false, false] rfl rfl (any_of HT_.out (by kernel_rfl)) (fun _ _ _ h => h) (Or.inl ⟨by rfl, ?_⟩) ?_ ?_
                    rotate_left
                    · intro w'
                      go_simp
                      with_reducible rfl
                    rotate_left
                    · simp only [Act.put, List.setIfInBounds_toArray, List.set_cons_zero, List.set_cons_succ, i64_w, i32_w]
                      rfl
                    refine pure_ (i := 10) (N := some 53) (v := ?_) (a' := ?_) #[true, true, true, true, true, false, true, false, true, true, true, false, false, false, false, false, false, false, false, false, false, false] rfl rfl (any_of HT_.out (by kernel_rfl)) (fun _ _ _ h => h) (Or.inl ⟨by rfl, ?_⟩) ?_ ?_
                    rotate_left
                    · intro w'
                      go_simp
                      with_reducible rfl
                    rotate_left
                    · simp only [Act.put, List.setIfInBounds_toArray, List.set_cons_zero, List.set_cons_succ, i64_w, i32_w]
                      rfl
                    refine pure_ (i := 11) (N := some 54) (v := ?_) (a' := ?_) #[true, true, true, true, true, false, true, false, true, true, true, true, false, false, false, false, false, false, false, false, false, false] rfl rfl (any_of HT_.out (by kernel_rfl)) (fun _ _ _ h => h) (Or.inl ⟨by rfl, ?_⟩) ?_ ?_
                    rotate_left
                    · intro w'
                      go_simp
                      with_reducible rfl
                    rotate_left
                    · simp only [Act.put, List.setIfInBounds_toArray, List.set_cons_zero, List.set_cons_succ, i64_w, i32_w]
                      rfl
                    refine pure_ (i := 13) (N := some 56) (v := ?_) (a' := ?_) #[true, true, true, true, true, false, true, false, true, true, true, true, false, true, false, false, false, false, false, false, false, false] rfl rfl (any_of HT_.out (by kernel_rfl)) (fun _ _ _ h => h) (Or.inl ⟨by rfl, ?_⟩) ?_ ?_
                    rotate_left
                    · intro w'
                      go_simp
                      with_reducible rfl
                    rotate_left
                    · simp only [Act.put, List.setIfInBounds_toArray, List.set_cons_zero, List.set_cons_succ, i64_w, i32_w]
                      rfl
                    refine pure_ (i := 14) (N := some 57) (v := ?_) (a' := ?_) #[true, true, true, true, true, false, true, false, true, true, true, true, false, true, true, false, false, false, false, false, false, false] rfl rfl (any_of HT_.out (by kernel_rfl)) (fun _ _ _ h => h) (Or.inl ⟨by rfl, ?_⟩) ?_ ?_
                    rotate_left
                    · intro w'
                      go_simp
                      with_reducible rfl
                    rotate_left
                    · simp only [Act.put, List.setIfInBounds_toArray, List.set_cons_zero, List.set_cons_succ, i64_w, i32_w]
                      rfl
                    refine pure_ (i := 15) (N := some 58) (v := ?_) (a' := ?_) #[true, true, true, true, true, false, true, false, true, true, true, true, false, true, true, true, false, false, false, false, false, false] rfl rfl (any_of HT_.out (by kernel_rfl)) (fun _ _ _ h => h) (Or.inl ⟨by rfl, ?_⟩) ?_ ?_
                    rotate_left
                    · intro w'
                      go_simp
                      with_reducible rfl
                    rotate_left
                    · simp only [Act.put, List.setIfInBounds_toArray, List.set_cons_zero, List.set_cons_succ, i64_w, i32_w]
                      rfl
                    refine pure_ (i := 16) (N := some 59) (v := ?_) (a' := ?_) #[true, true, true, true, true, false, true, false, true, true, true, true, false, true, true, true, true, false, false, false, false, false] rfl rfl (any_of HT_.out (by kernel_rfl)) (fun _ _ _ h => h) (Or.inl ⟨by rfl, ?_⟩) ?_ ?_
                    rotate_left
                    · intro w'
                      go_simp
                      with_reducible rfl
                    rotate_left
                    · simp only [Act.put, List.setIfInBounds_toArray, List.set_cons_zero, List.set_cons_succ, i64_w, i32_w]
                      rfl
                    refine take_ (i := 5) (N := some 48) (v := ?_) (a' := ?_) #[true, true, true, true, true, true, true, false, true, true, true, true, false, true, true, true, true, false, false, false, false, false] rfl rfl (take_ofW HT_.out HW_.out (by kernel_rfl)) (fun _ _ _ h => h) (Or.inl ⟨by rfl, ?_⟩) hHeld ?_ ?_
                    rotate_left
                    · rintro w' ⟨s0, s1, s2, s3, s4, s5, s6, s7, s8⟩
                      go_simp
                      with_reducible rfl
                    rotate_left
                    · simp only [Act.put, List.setIfInBounds_toArray, List.set_cons_zero, List.set_cons_succ, i64_w, i32_w]
                      rfl
                    refine pure_ (i := 7) (N := some 50) (v := ?_) (a' := ?_) #[true, true, true, true, true, true, true, true, true, true, true, true, false, true, true, true, true, false, false, false, false, false] rfl rfl (any_of HT_.out (by kernel_rfl)) (fun _ _ _ h => h) (Or.inl ⟨by rfl, ?_⟩) ?_ ?_
                    rotate_left
                    · intro w'
                      go_simp
                      with_reducible rfl
                    rotate_left
                    · simp only [Act.put, List.setIfInBounds_toArray, List.set_cons_zero, List.set_cons_succ, i64_w, i32_w]
                      rfl
                    refine take_ (i := 12) (N := some 55) (v := ?_) (a' := ?_) #[true, true, true, true, true, true, true, true, true, true, true, true, true, true, true, true, true, false, false, false, false, false] rfl rfl (take_ofW HT_.out HW_.out (by kernel_rfl)) (fun _ _ _ h => h) (Or.inl ⟨by rfl, ?_⟩) hHeld ?_ ?_
                    rotate_left
                    · rintro w' ⟨s0, s1, s2, s3, s4, s5, s6, s7, s8⟩
                      go_simp
                      with_reducible rfl
                    rotate_left
                    · simp only [Act.put, List.setIfInBounds_toArray, List.set_cons_zero, List.set_cons_succ, i64_w, i32_w]
                      rfl
                    refine take_ (i := 17) (N := some 60) (v := ?_) (a' := ?_) #[true, true, true, true, true, true, true, true, true, true, true, true, true, true, true, true, true, true, false, false, false, false] rfl rfl (take_ofW HT_.out HW_.out (by kernel_rfl)) (fun _ _ _ h => h) (Or.inl ⟨by rfl, ?_⟩) hHeld ?_ ?_
                    rotate_left
                    · rintro w' ⟨s0, s1, s2, s3, s4, s5, s6, s7, s8⟩
                      go_simp
                      with_reducible rfl
                    rotate_left
                    · simp only [Act.put, List.setIfInBounds_toArray, List.set_cons_zero, List.set_cons_succ, i64_w, i32_w]
                      rfl
                    refine pure_ (i := 18) (N := some 61) (v := ?_) (a' := ?_) #[true, true, true, true, true, true, true, true, true, true, true, true, true, true, true, true, true, true, true, false, false, false] rfl rfl (any_of HT_.out (by kernel_rfl)) (fun _ _ _ h => h) (Or.inl ⟨by rfl, ?_⟩) ?_ ?_
                    rotate_left
                    · intro w'
                      go_simp
                      with_reducible rfl
                    rotate_left
                    · simp only [Act.put, List.setIfInBounds_toArray, List.set_cons_zero, List.set_cons_succ, i64_w, i32_w]
                      rfl
                    refine one_ (i := 19) (N := some 62) #[true, true, true, true, true, true, true, true, true, true, true, true, true, true, true, true, true, true, true, true, false, false] rfl rfl (one_of HT_.out (by kernel_rfl)) (by decide) (fun K hK => ?_)
                    refine value_ (w1 := ?_) (v := ?_) (by rfl) rfl ?_ ?_
                    rotate_left 2
                    · go_simp
                      constructor
                      · rfl
                      · rfl
                    refine hK.out _ _ ⟨(World.cell?_alloc_lt _ _ _ (World.block_lt_of_cell? _ _ (((HB.out.cell (World.block_lt_of_cell? w _ hw114_0)).trans hw114_0)))).trans (((HB.out.cell (World.block_lt_of_cell? w _ hw114_0)).trans hw114_0)), (World.cell?_alloc_lt _ _ _ (World.block_lt_of_cell? _ _ (((HB.out.cell (World.block_lt_of_cell? w _ hw114_1)).trans hw114_1)))).trans (((HB.out.cell (World.block_lt_of_cell? w _ hw114_1)).trans hw114_1)), (World.cell?_alloc_lt _ _ _ (World.block_lt_of_cell? _ _ (((HB.out.cell (World.block_lt_of_cell? w _ hw114_2)).trans hw114_2)))).trans (((HB.out.cell (World.block_lt_of_cell? w _ hw114_2)).trans hw114_2)), (World.cell?_alloc_lt _ _ _ (World.block_lt_of_cell? _ _ (((HB.out.cell (World.block_lt_of_cell? w _ hw115_0)).trans hw115_0)))).trans (((HB.out.cell (World.block_lt_of_cell? w _ hw115_0)).trans hw115_0)), (World.cell?_alloc_lt _ _ _ (World.block_lt_of_cell? _ _ (((HB.out.cell (World.block_lt_of_cell? w _ hw115_1)).trans hw115_1)))).trans (((HB.out.cell (World.block_lt_of_cell? w _ hw115_1)).trans hw115_1)), (World.cell?_alloc_lt _ _ _ (World.block_lt_of_cell? _ _ (((HB.out.cell (World.block_lt_of_cell? w _ hw115_2)).trans hw115_2)))).trans (((HB.out.cell (World.block_lt_of_cell? w _ hw115_2)).trans hw115_2)), (World.cell?_alloc_lt _ _ _ (World.block_lt_of_cell? _ _ (((HB.out.cell (World.block_lt_of_cell? w _ hw116_0)).trans hw116_0)))).trans (((HB.out.cell (World.block_lt_of_cell? w _ hw116_0)).trans hw116_0)), (World.cell?_alloc_lt _ _ _ (World.block_lt_of_cell? _ _ (((HB.out.cell (World.block_lt_of_cell? w _ hw116_1)).trans hw116_1)))).trans (((HB.out.cell (World.block_lt_of_cell? w _ hw116_1)).trans hw116_1)), (World.cell?_alloc_lt _ _ _ (World.block_lt_of_cell? _ _ (((HB.out.cell (World.block_lt_of_cell? w _ hw116_2)).trans hw116_2)))).trans (((HB.out.cell (World.block_lt_of_cell? w _ hw116_2)).trans hw116_2))⟩ (fun hHeld => ?_)
                    clear hK K
                    refine norm_ (a' := ?_) ?_ ?_
                    rotate_left
                    · show Act.put _ (some 62) _ = _
                      simp only [Act.put, List.setIfInBounds_toArray, List.set_cons_zero, List.set_cons_succ, i64_w, i32_w]
                      rfl
                    refine one_ (i := 20) (N := some 63) #[true, true, true, true, true, true, true, true, true, true, true, true, true, true, true, true, true, true, true, true, true, false] rfl rfl (one_of HT_.out (by kernel_rfl)) (by decide) (fun K hK => ?_)
                    refine Kd.R_append_step k73 (w0 := w) w.heap.size (by rfl) (.tmp 43) (.tmp 62) 26 73 (.agg #[(.int .i64 0), (.int .i64 0), (.bool false)]) 24 rfl Try.underlying26 info73 rfl (by decide) (by omega) u8 x8_2 (⟨wrap64 (((rd_T73 l0 x9_2).f0) + a1), (rd_T73 l0 x9_2).f1, (rd_T73 l0 x9_2).f2⟩ : S73) [.int .i64 (wrap64 (((rd_T73 l0 x9_2).f0) + a1)), .int .i64 ((rd_T73 l0 x9_2).f1), .bool ((rd_T73 l0 x9_2).f2)] (fun _ => True) (fun _ => False) rfl rfl ?aP (fun _ hk => hk.elim) ?aF ?aO ?aB ?aS ?aL ?_
                    (case aP => exact k73_mkM _ _ _ (⟨wrap64 (((rd_T73 l0 x9_2).f0) + a1), (rd_T73 l0 x9_2).f1, (rd_T73 l0 x9_2).f2⟩ : S73))
                    (case aB => exact (by repeat (first | (with_reducible first | exact HB.out | apply below_alloc | apply pw_below_drewN | apply below_drew1) | exact HB.out)))
                    (case aF => exact (fun _ _ => trivial))
                    (case aO => exact (by (with_reducible repeat (first | apply Kd.R_alloc | apply Kd.R_drewN | apply Kd.R_drew)); exact HO_8.out))
                    (case aS => exact (below_size (by repeat (first | (with_reducible first | exact HB.out | apply below_alloc | apply pw_below_drewN | apply below_drew1) | exact HB.out))))
                    (case aL => have := LMc17.out; omega)
                    intro v118 w19 ho hb hg hat
                    rw [← Ny117.out] at ho
                    have n0_ := Aside0.mk (hb)
                    have n1_ := Aside0.mk (ho)
                    clear HB
                    clear HO_8
                    have HB := n0_
                    have HO119 := n1_
                    clear n0_ n1_
                    clear ho hb hg hat
                    refine hK.out _ _ ⟨((HB.out.cell (World.block_lt_of_cell? w _ hw114_0)).trans hw114_0), ((HB.out.cell (World.block_lt_of_cell? w _ hw114_1)).trans hw114_1), ((HB.out.cell (World.block_lt_of_cell? w _ hw114_2)).trans hw114_2), ((HB.out.cell (World.block_lt_of_cell? w _ hw115_0)).trans hw115_0), ((HB.out.cell (World.block_lt_of_cell? w _ hw115_1)).trans hw115_1), ((HB.out.cell (World.block_lt_of_cell? w _ hw115_2)).trans hw115_2), ((HB.out.cell (World.block_lt_of_cell? w _ hw116_0)).trans hw116_0), ((HB.out.cell (World.block_lt_of_cell? w _ hw116_1)).trans hw116_1), ((HB.out.cell (World.block_lt_of_cell? w _ hw116_2)).trans hw116_2)⟩ (fun hHeld => ?_)
                    clear hK K
                    refine norm_ (a' := ?_) ?_ ?_
                    rotate_left
                    · show Act.put _ (some 63) _ = _
                      simp only [Act.put, List.setIfInBounds_toArray, List.set_cons_zero, List.set_cons_succ, i64_w, i32_w]
                      rfl
                    refine pure_ (i := 21) (N := some 8) (v := ?_) (a' := ?_) #[true, true, true, true, true, true, true, true, true, true, true, true, true, true, true, true, true, true, true, true, true, true] rfl rfl (any_of HT_.out (by kernel_rfl)) (fun _ _ _ h => h) (Or.inl ⟨by rfl, ?_⟩) ?_ ?_
                    rotate_left
                    · intro w'
                      go_simp
                      with_reducible rfl
                    rotate_left
                    · simp only [Act.put, List.setIfInBounds_toArray, List.set_cons_zero, List.set_cons_succ, i64_w, i32_w]
                      rfl
                    refine done_ (done_of HT_.out (by kernel_rfl)) ?_
                    try go_wp2
                    go_roundg k2
                    case measure => have := HJ5.out; have := HK2.out; omega
                    case rel => exact ⟨(y117), (wrap64 (x9_2 + 1)), (by first | rfl | (simp only [IntKind.wrap_i64, wrap64]; done) | (simp; done) | (simp [*]; done)), H', ⟨by have := HJ5.out; have := HK2.out; omega⟩, ⟨by (with_reducible repeat (first | apply Kd.R_alloc | apply Kd.R_drewN | apply Kd.R_drew)); exact HO119.out⟩, ⟨by repeat (first | (with_reducible first | exact HB.out | apply below_alloc | apply pw_below_drewN | apply below_drew1) | exact HB.out)⟩⟩
                  · rw [if_neg c17] at H
                    exact absurd H (by simp)
                · rw [if_neg c16] at H
                  exact absurd H (by simp)
              · rw [if_neg c15] at H
                have c15b0 : decide (x9_2 < (l0.length : Int)) = false := decide_eq_false c15
                clear c15
                simp only [Option.some.injEq, Prod.mk.injEq] at H
                obtain ⟨rfl, rfl⟩ := H
                go_wp2
                go_ret2
                exact ⟨_, by first | rfl | (simp [errW_none, errW_some, IntKind.wrap_i64, wrap64]; done) | (simp [errW_none, errW_some] <;> rfl) | (simp [*, errW_none, errW_some] <;> rfl), by (with_reducible repeat (first | apply Kd.R_alloc | apply Kd.R_drewN | apply Kd.R_drew)); exact HO_8.out, by repeat (first | (with_reducible first | exact HB.out | apply below_alloc | apply pw_below_drewN | apply below_drew1) | exact HB.out)⟩
        · replace c12 := Bool.eq_false_iff.mpr c12
          subst c12
          have H1 : (some ((([] : List (S73))), 2)) = some (r1, r2) := by rw [if_neg (show ¬ (false = true) by decide)] at H; exact H
          clear H
          have H := H1
          clear H1
          obtain ⟨y108, hy108⟩ : ∃ y_ : List (S73), y_ = (([] : List (S73))) := ⟨_, rfl⟩
          replace H : (some (y108, 2)) = some (r1, r2) := by first | (rw [hy108]; with_reducible exact H) | (have H2_ := (Option.bind_some _ _).symm.trans H; rw [hy108]; with_reducible exact H2_) | (have H2_ := (Option.bind_some _ _).symm.trans H; with_reducible exact H2_) | with_reducible exact H | (rw [hy108]; exact H) | exact H
          have Ny108 := Aside0.mk hy108
          clear hy108
          simp only [Option.some.injEq, Prod.mk.injEq] at H
          obtain ⟨rfl, rfl⟩ := H
          go_wp2_with (first | ((with_reducible refine gate_dst (N := 35) rfl ?_); refine Kd.R_lit k73 _ 73 ?hg (N := 35) ?hd (xs := ([] : List (S73))) (inner := []) (ok := fun _ => True) (okp := fun _ => True) ?hr ?hp (fun _ hk => hk) trivial (Below.refl _ _) (Nat.le_refl _) (by simp) ?_; (case hd => rfl); (case hg => rfl); (case hr => first | (go_simp; done) | (go_simp; rfl)); (case hp => exact (Reps.none _ _)); intro v109 w20 ho21 hb hg_ hnew_; clear hg_ hnew_; (first | rw [← Ny108.out] at ho21 | (simp only [Int.reduceToNat] at ho21; rw [← Ny108.out] at ho21)); have n0_ := Aside0.mk (Kd.R_lower ho21 (below_size (by repeat (first | (with_reducible first | exact HB.out | apply below_alloc | apply pw_below_drewN | apply below_drew1) | exact HB.out)))); have n1_ := Aside0.mk (below_step (by repeat (first | (with_reducible first | exact HB.out | apply below_alloc | apply pw_below_drewN | apply below_drew1) | exact HB.out)) hb); clear HB; have HO110 := n0_; have HB := n1_; clear n0_ n1_; clear hb ho21))
          go_ret2
          exact ⟨_, by first | rfl | (simp [errW_none, errW_some, IntKind.wrap_i64, wrap64]; done) | (simp [errW_none, errW_some] <;> rfl) | (simp [*, errW_none, errW_some] <;> rfl), by (with_reducible repeat (first | apply Kd.R_alloc | apply Kd.R_drewN | apply Kd.R_drew)); exact HO110.out, by repeat (first | (with_reducible first | exact HB.out | apply below_alloc | apply pw_below_drewN | apply below_drew1) | exact HB.out)⟩
  · replace c4 := Bool.eq_false_iff.mpr c4
    subst c4
    have H1 : (some ((([] : List (S73))), 1)) = some (r1, r2) := by rw [if_neg (show ¬ (false = true) by decide)] at H; exact H
    clear H
    have H := H1
    clear H1
    obtain ⟨y102, hy102⟩ : ∃ y_ : List (S73), y_ = (([] : List (S73))) := ⟨_, rfl⟩
    replace H : (some (y102, 1)) = some (r1, r2) := by first | (rw [hy102]; with_reducible exact H) | (have H2_ := (Option.bind_some _ _).symm.trans H; rw [hy102]; with_reducible exact H2_) | (have H2_ := (Option.bind_some _ _).symm.trans H; with_reducible exact H2_) | with_reducible exact H | (rw [hy102]; exact H) | exact H
    have Ny102 := Aside0.mk hy102
    clear hy102
    simp only [Option.some.injEq, Prod.mk.injEq] at H
    obtain ⟨rfl, rfl⟩ := H
    go_enter Try.func28, Try.ntmps28
    go_wp2_with (first | ((with_reducible refine gate_callee (f := 74) rfl ?_); refine goesL_ (some 11) rfl rfl Try.func74 (by kernel_rfl) rfl #[.slice A0 l0.length c0] rfl (by (try simp only [List.map_toArray, List.map_cons, List.map_nil]); first | done | rfl | (simp only [List.length_drop, List.length_take]; rfl)) ?_; (with_reducible refine (spec_l07Ok.calls k _ _ l0 false _ ?side1 ?side2 A3.out).mono ?_); (case side1 => repeat (first | exact HR0.out | (with_reducible refine Kd.C_alloc ?_ _) | (with_reducible refine Kd.C_drewN ?_ _) | (with_reducible refine Kd.C_drew ?_))); (case side2 => exact HC0.out); rintro e w22 ⟨rfl, hb⟩; refine ⟨_, rfl, ?_⟩; have n0_ := Aside0.mk (below_step (by repeat (first | (with_reducible first | exact HB.out | apply below_alloc | apply pw_below_drewN | apply below_drew1) | exact HB.out)) hb); clear HB; have HB := n0_; clear n0_; (try clear hb); (try clear hb2); (try clear hk); (try clear hi)) | ((with_reducible refine gate_dst (N := 13) rfl ?_); refine Kd.R_lit k73 _ 73 ?hg (N := 13) ?hd (xs := ([] : List (S73))) (inner := []) (ok := fun _ => True) (okp := fun _ => True) ?hr ?hp (fun _ hk => hk) trivial (Below.refl _ _) (Nat.le_refl _) (by simp) ?_; (case hd => rfl); (case hg => rfl); (case hr => first | (go_simp; done) | (go_simp; rfl)); (case hp => exact (Reps.none _ _)); intro v103 w23 ho24 hb hg_ hnew_; clear hg_ hnew_; (first | rw [← Ny102.out] at ho24 | (simp only [Int.reduceToNat] at ho24; rw [← Ny102.out] at ho24)); have n0_ := Aside0.mk (Kd.R_lower ho24 (below_size (by repeat (first | (with_reducible first | exact HB.out | apply below_alloc | apply pw_below_drewN | apply below_drew1) | exact HB.out)))); have n1_ := Aside0.mk (below_step (by repeat (first | (with_reducible first | exact HB.out | apply below_alloc | apply pw_below_drewN | apply below_drew1) | exact HB.out)) hb); clear HB; have HO104 := n0_; have HB := n1_; clear n0_ n1_; clear hb ho24))
    go_ret2
    exact ⟨_, by first | rfl | (simp [errW_none, errW_some, IntKind.wrap_i64, wrap64]; done) | (simp [errW_none, errW_some] <;> rfl) | (simp [*, errW_none, errW_some] <;> rfl), by (with_reducible repeat (first | apply Kd.R_alloc | apply Kd.R_drewN | apply Kd.R_drew)); exact HO104.out, by repeat (first | (with_reducible first | exact HB.out | apply below_alloc | apply pw_below_drewN | apply below_drew1) | exact HB.out)⟩

end Go.Proofs.Ytidkniacmcbgiaa.G
end

section
namespace Go.Proofs.Ytidkniacmcbgiaa.G
open Go.RowKit Go.Proofs.YtidkniacmcbgiaaW.PrintWords Go.Proofs.YtidkniacmcbgiaaW.PrintLast Go.Proofs.YtidkniacmcbgiaaW.PrintMore
attribute [local go_sem] max2_int min2_int max_two min_two max_three min_three max_four min_four
set_option linter.unusedVariables false
set_option linter.unusedSimpArgs false

/-! ### laws_FnExactShiftLog: function 6 -/
mutual
def laws_FnExactShiftLog.j0 : Nat → List (S75) → Int → List (S73) → Int → List (S73) → List (S73) → Int → Bool → Option (Bool)
  | 0, _, _, _, _, _, _, _, _ => none
  | k + 1, x0, x1, x6, x7, x8, x9, x10, x44 => if x44 = true then (some false) else ((laws_toLog.f k x0).bind fun t117 => ((laws_eqLog.f k x8 t117).bind fun t120 => (if t120 = true then ((laws_markLog.f k x8 1).bind fun bt121 => (if bt121.1 < 0 then (laws_FnExactShiftLog.j1 k x0 x1 x6 x7 x9 true) else ((laws_eqLog.f k x9 x6).bind fun t123 => (if t123 = true then (laws_FnExactShiftLog.j1 k x0 x1 x6 x7 x9 (x10 != x7)) else (laws_FnExactShiftLog.j1 k x0 x1 x6 x7 x9 true))))) else (some false))))
def laws_FnExactShiftLog.j1 : Nat → List (S75) → Int → List (S73) → Int → List (S73) → Bool → Option (Bool)
  | 0, _, _, _, _, _, _ => none
  | k + 1, x0, x1, x6, x7, x9, x65 => if x65 = true then (some false) else ((laws_markLog.f k x9 1).bind fun bt124 => ((laws_heldLog.f k bt124.2 1).bind fun t126 => (if t126 < 0 then (some false) else (if t126 = bt124.1 then ((laws_toLog.f k x0).bind fun t127 => ((impl_ShiftLog.f k t127 x1).bind fun bt130 => ((laws_eqLog.f k bt130.1 x6).bind fun t134 => (if t134 = true then (laws_FnExactShiftLog.j2 k bt124.2 bt124.1 (bt130.2 != x7)) else (laws_FnExactShiftLog.j2 k bt124.2 bt124.1 true))))) else (some false)))))
def laws_FnExactShiftLog.j2 : Nat → List (S73) → Int → Bool → Option (Bool)
  | 0, _, _, _ => none
  | k + 1, x9, x12, x92 => if x92 = true then (some false) else ((laws_heldLog.f k x9 1).bind fun t135 => (if t135 < 0 then (some false) else (if t135 = x12 then (some true) else (some false))))
end
def laws_FnExactShiftLog.f (k : Nat) (l0 : List (S75)) (a1 : Int) : Option (Bool) := (laws_szLog.f l0 1048576).bind fun t101 => (if t101 < 0 then (some true) else ((laws_toLog.f k l0).bind fun t102 => ((spec_ShiftLog.f k t102 a1).bind fun bt105 => ((laws_toLog.f k l0).bind fun t109 => ((impl_ShiftLog.f k t109 a1).bind fun bt112 => ((laws_eqLog.f k bt112.1 bt105.1).bind fun t116 => (if t116 = true then (laws_FnExactShiftLog.j0 k l0 a1 bt105.1 bt105.2 t109 bt112.1 bt112.2 (bt112.2 != bt105.2)) else (laws_FnExactShiftLog.j0 k l0 a1 bt105.1 bt105.2 t109 bt112.1 bt112.2 true))))))))
set_option maxHeartbeats 8000000 in
set_option maxRecDepth 100000 in
theorem laws_FnExactShiftLog.calls (k : Nat) (A0 : Option Addr) (c0 : Nat) (l0 : List (S75)) (a1 : Int) (r : Bool) (w : World) (hr0 : Kd.C k75 w A0 l0.length l0) (hc0 : l0.length ≤ c0) (h : laws_FnExactShiftLog.f k l0 a1 = some r) :
    Calls Try.prog 6 #[.slice A0 l0.length c0, .int .i64 a1] w fun e w' => e = .returned (.bool r) ∧ Below w.heap.size w w' := by
  have HR0 := Aside0.mk hr0
  have HC0 := Aside0.mk hc0
  clear hr0 hc0
  have HB := Aside0.mk (Below.refl w.heap.size w)
  have H : ((laws_szLog.f l0 1048576).bind fun t101 => (if t101 < 0 then (some true) else ((laws_toLog.f k l0).bind fun t102 => ((spec_ShiftLog.f k t102 a1).bind fun bt105 => ((laws_toLog.f k l0).bind fun t109 => ((impl_ShiftLog.f k t109 a1).bind fun bt112 => ((laws_eqLog.f k bt112.1 bt105.1).bind fun t116 => (if t116 = true then (laws_FnExactShiftLog.j0 k l0 a1 bt105.1 bt105.2 t109 bt112.1 bt112.2 (bt112.2 != bt105.2)) else (laws_FnExactShiftLog.j0 k l0 a1 bt105.1 bt105.2 t109 bt112.1 bt112.2 true))))))))) = some r := h
  clear h
  replace H := Option.bind_eq_some_iff.mp H
  obtain ⟨t101, A30, H⟩ := H
  replace H : (if t101 < 0 then (some true) else ((laws_toLog.f k l0).bind fun t102 => ((spec_ShiftLog.f k t102 a1).bind fun bt105 => ((laws_toLog.f k l0).bind fun t109 => ((impl_ShiftLog.f k t109 a1).bind fun bt112 => ((laws_eqLog.f k bt112.1 bt105.1).bind fun t116 => (if t116 = true then (laws_FnExactShiftLog.j0 k l0 a1 bt105.1 bt105.2 t109 bt112.1 bt112.2 (bt112.2 != bt105.2)) else (laws_FnExactShiftLog.j0 k l0 a1 bt105.1 bt105.2 t109 bt112.1 bt112.2 true)))))))) = some r := H
  have A3 := Aside0.mk A30
  clear A30
  by_cases c4 : t101 < 0
  · rw [if_pos c4] at H
    have c4b0 : decide (t101 < 0) = true := decide_eq_true c4
    clear c4
    obtain rfl := Option.some.inj H
    go_enter Try.func6, Try.ntmps6
    go_wp2_with (first | ((with_reducible refine gate_callee (f := 19) rfl ?_); refine goesL_ (some 18) rfl rfl Try.func19 (by kernel_rfl) rfl #[.slice A0 l0.length c0, .int .i64 1048576] rfl (by (try simp only [List.map_toArray, List.map_cons, List.map_nil]); first | done | rfl | (simp only [List.length_drop, List.length_take]; rfl)) ?_; (with_reducible refine (laws_szLog.calls _ _ l0 1048576 t101 _ ?side1 ?side2 A3.out).mono ?_); (case side1 => repeat (first | exact HR0.out | (with_reducible refine Kd.C_alloc ?_ _) | (with_reducible refine Kd.C_drewN ?_ _) | (with_reducible refine Kd.C_drew ?_))); (case side2 => exact HC0.out); rintro e w' ⟨rfl, ⟨nd, rfl⟩⟩; refine ⟨_, rfl, ?_⟩))
    go_ret
    exact ⟨by first | rfl | (simp [errW_none, errW_some, IntKind.wrap_i64, wrap64]; done) | (simp [errW_none, errW_some] <;> rfl) | (simp [*, errW_none, errW_some] <;> rfl), by repeat (first | (with_reducible first | exact HB.out | apply below_alloc | apply pw_below_drewN | apply below_drew1) | exact HB.out)⟩
  · rw [if_neg c4] at H
    have c4b0 : decide (t101 < 0) = false := decide_eq_false c4
    clear c4
    replace H := Option.bind_eq_some_iff.mp H
    obtain ⟨t102, A50, H⟩ := H
    replace H : ((spec_ShiftLog.f k t102 a1).bind fun bt105 => ((laws_toLog.f k l0).bind fun t109 => ((impl_ShiftLog.f k t109 a1).bind fun bt112 => ((laws_eqLog.f k bt112.1 bt105.1).bind fun t116 => (if t116 = true then (laws_FnExactShiftLog.j0 k l0 a1 bt105.1 bt105.2 t109 bt112.1 bt112.2 (bt112.2 != bt105.2)) else (laws_FnExactShiftLog.j0 k l0 a1 bt105.1 bt105.2 t109 bt112.1 bt112.2 true)))))) = some r := H
    have A5 := Aside0.mk A50
    clear A50
    replace H := Option.bind_eq_some_iff.mp H
    obtain ⟨⟨t105, t106⟩, A60, H⟩ := H
    replace H : ((laws_toLog.f k l0).bind fun t109 => ((impl_ShiftLog.f k t109 a1).bind fun bt112 => ((laws_eqLog.f k bt112.1 t105).bind fun t116 => (if t116 = true then (laws_FnExactShiftLog.j0 k l0 a1 t105 t106 t109 bt112.1 bt112.2 (bt112.2 != t106)) else (laws_FnExactShiftLog.j0 k l0 a1 t105 t106 t109 bt112.1 bt112.2 true))))) = some r := H
    have A6 := Aside0.mk A60
    clear A60
    replace H := Option.bind_eq_some_iff.mp H
    obtain ⟨t109, A70, H⟩ := H
    replace H : ((impl_ShiftLog.f k t109 a1).bind fun bt112 => ((laws_eqLog.f k bt112.1 t105).bind fun t116 => (if t116 = true then (laws_FnExactShiftLog.j0 k l0 a1 t105 t106 t109 bt112.1 bt112.2 (bt112.2 != t106)) else (laws_FnExactShiftLog.j0 k l0 a1 t105 t106 t109 bt112.1 bt112.2 true)))) = some r := H
    have A7 := Aside0.mk A70
    clear A70
    replace H := Option.bind_eq_some_iff.mp H
    obtain ⟨⟨t112, t113⟩, A80, H⟩ := H
    replace H : ((laws_eqLog.f k t112 t105).bind fun t116 => (if t116 = true then (laws_FnExactShiftLog.j0 k l0 a1 t105 t106 t109 t112 t113 (t113 != t106)) else (laws_FnExactShiftLog.j0 k l0 a1 t105 t106 t109 t112 t113 true))) = some r := H
    have A8 := Aside0.mk A80
    clear A80
    have HC9 := Aside0.mk H
    clear H
    go_enter Try.func6, Try.ntmps6
    go_upto_region 8 with (first | ((with_reducible refine gate_callee (f := 19) rfl ?_); refine goesL_ (some 18) rfl rfl Try.func19 (by kernel_rfl) rfl #[.slice A0 l0.length c0, .int .i64 1048576] rfl (by (try simp only [List.map_toArray, List.map_cons, List.map_nil]); first | done | rfl | (simp only [List.length_drop, List.length_take]; rfl)) ?_; (with_reducible refine (laws_szLog.calls _ _ l0 1048576 t101 _ ?side1 ?side2 A3.out).mono ?_); (case side1 => repeat (first | exact HR0.out | (with_reducible refine Kd.C_alloc ?_ _) | (with_reducible refine Kd.C_drewN ?_ _) | (with_reducible refine Kd.C_drew ?_))); (case side2 => exact HC0.out); rintro e w' ⟨rfl, ⟨nd, rfl⟩⟩; refine ⟨_, rfl, ?_⟩) | ((with_reducible refine gate_callee (f := 21) rfl ?_); refine goesL_ (some 23) rfl rfl Try.func21 (by kernel_rfl) rfl #[.slice A0 l0.length c0] rfl (by (try simp only [List.map_toArray, List.map_cons, List.map_nil]); first | done | rfl | (simp only [List.length_drop, List.length_take]; rfl)) ?_; (with_reducible refine (laws_toLog.calls k _ _ l0 t102 _ ?side1 ?side2 A5.out).mono ?_); (case side1 => repeat (first | exact HR0.out | (with_reducible refine Kd.C_alloc ?_ _) | (with_reducible refine Kd.C_drewN ?_ _) | (with_reducible refine Kd.C_drew ?_))); (case side2 => exact HC0.out); rintro e w10 ⟨v103, rfl, ho0, hb⟩; refine ⟨_, rfl, ?_⟩; have n0_ := Aside0.mk (Kd.R_lower ho0 (below_size (by repeat (first | (with_reducible first | exact HB.out | apply below_alloc | apply pw_below_drewN | apply below_drew1) | exact HB.out)))); have n1_ := Aside0.mk (below_step (by repeat (first | (with_reducible first | exact HB.out | apply below_alloc | apply pw_below_drewN | apply below_drew1) | exact HB.out)) hb); clear HB; have HO104 := n0_; have HB := n1_; clear n0_ n1_; (try clear hb); (try clear hb2); (try clear hk); (try clear hi); (try clear ho0); obtain ⟨Ao11, co11, eo11⟩ := Kd.R_slice HO104.out; subst eo11) | ((with_reducible refine gate_callee (f := 28) rfl ?_); refine goesL_ (some 25) rfl rfl Try.func28 (by kernel_rfl) rfl #[.slice Ao11 t102.length co11, .int .i64 a1] rfl (by (try simp only [List.map_toArray, List.map_cons, List.map_nil]); first | done | rfl | (simp only [List.length_drop, List.length_take]; rfl)) ?_; (with_reducible refine (spec_ShiftLog.calls k _ _ t102 a1 t105 t106 _ ?side1 ?side2 A6.out).mono ?_); (case side1 => repeat (first | exact (Kd.R_reads' HO104.out).2.2 | (with_reducible refine Kd.C_alloc ?_ _) | (with_reducible refine Kd.C_drewN ?_ _) | (with_reducible refine Kd.C_drew ?_))); (case side2 => exact (Kd.R_reads' HO104.out).2.1); rintro e w12 ⟨v107, rfl, ho0, hb⟩; refine ⟨_, rfl, ?_⟩; have n0_ := Aside0.mk (Kd.R_elder' (by (with_reducible repeat (first | apply Kd.R_alloc | apply Kd.R_drewN | apply Kd.R_drew)); exact HO104.out) (Kd.R_base ho0) hb); have n1_ := Aside0.mk (Kd.R_lower (Kd.R_new' ho0 (Kd.R_lt (by (with_reducible repeat (first | apply Kd.R_alloc | apply Kd.R_drewN | apply Kd.R_drew)); exact HO104.out))) (below_size (by repeat (first | (with_reducible first | exact HB.out | apply below_alloc | apply pw_below_drewN | apply below_drew1) | exact HB.out)))); have n2_ := Aside0.mk (below_step (by repeat (first | (with_reducible first | exact HB.out | apply below_alloc | apply pw_below_drewN | apply below_drew1) | exact HB.out)) hb); clear HO104; clear HB; have HO104 := n0_; have HO108 := n1_; have HB := n2_; clear n0_ n1_ n2_; (try clear hb); (try clear hb2); (try clear hk); (try clear hi); (try clear ho0)) | ((with_reducible refine gate_callee (f := 21) rfl ?_); refine goesL_ (some 29) rfl rfl Try.func21 (by kernel_rfl) rfl #[.slice A0 l0.length c0] rfl (by (try simp only [List.map_toArray, List.map_cons, List.map_nil]); first | done | rfl | (simp only [List.length_drop, List.length_take]; rfl)) ?_; (with_reducible refine (laws_toLog.calls k _ _ l0 t109 _ ?side1 ?side2 A7.out).mono ?_); (case side1 => repeat (first | exact (Kd.C_below HR0.out HB.out) | (with_reducible refine Kd.C_alloc ?_ _) | (with_reducible refine Kd.C_drewN ?_ _) | (with_reducible refine Kd.C_drew ?_))); (case side2 => exact HC0.out); rintro e w13 ⟨v110, rfl, ho0, hb⟩; refine ⟨_, rfl, ?_⟩; have n0_ := Aside0.mk (Kd.R_elder' (by (with_reducible repeat (first | apply Kd.R_alloc | apply Kd.R_drewN | apply Kd.R_drew)); exact HO104.out) (Kd.R_base ho0) hb); have n1_ := Aside0.mk (Kd.R_elder' (by (with_reducible repeat (first | apply Kd.R_alloc | apply Kd.R_drewN | apply Kd.R_drew)); exact HO108.out) (Kd.R_base ho0) hb); have n2_ := Aside0.mk (Kd.R_lower (Kd.R_new' (Kd.R_new' ho0 (Kd.R_lt (by (with_reducible repeat (first | apply Kd.R_alloc | apply Kd.R_drewN | apply Kd.R_drew)); exact HO104.out))) (Kd.R_lt (by (with_reducible repeat (first | apply Kd.R_alloc | apply Kd.R_drewN | apply Kd.R_drew)); exact HO108.out))) (below_size (by repeat (first | (with_reducible first | exact HB.out | apply below_alloc | apply pw_below_drewN | apply below_drew1) | exact HB.out)))); have n3_ := Aside0.mk (below_step (by repeat (first | (with_reducible first | exact HB.out | apply below_alloc | apply pw_below_drewN | apply below_drew1) | exact HB.out)) hb); clear HO104; clear HO108; clear HB; have HO104 := n0_; have HO108 := n1_; have HO111 := n2_; have HB := n3_; clear n0_ n1_ n2_ n3_; (try clear hb); (try clear hb2); (try clear hk); (try clear hi); (try clear ho0); obtain ⟨Ao14, co14, eo14⟩ := Kd.R_slice HO111.out; subst eo14) | ((with_reducible refine gate_callee (f := 29) rfl ?_); refine goesL_ (some 33) rfl rfl Try.func29 (by kernel_rfl) rfl #[.slice Ao14 t109.length co14, .int .i64 a1] rfl (by (try simp only [List.map_toArray, List.map_cons, List.map_nil]); first | done | rfl | (simp only [List.length_drop, List.length_take]; rfl)) ?_; (with_reducible refine (impl_ShiftLog.calls k _ _ t109 a1 t112 t113 _ ?side1 ?side2 A8.out).mono ?_); (case side1 => repeat (first | exact (Kd.R_reads' HO111.out).2.2 | (with_reducible refine Kd.C_alloc ?_ _) | (with_reducible refine Kd.C_drewN ?_ _) | (with_reducible refine Kd.C_drew ?_))); (case side2 => exact (Kd.R_reads' HO111.out).2.1); rintro e w15 ⟨v114, rfl, ho0, hb⟩; refine ⟨_, rfl, ?_⟩; have n0_ := Aside0.mk (Kd.R_elder' (by (with_reducible repeat (first | apply Kd.R_alloc | apply Kd.R_drewN | apply Kd.R_drew)); exact HO104.out) (Kd.R_base ho0) hb); have n1_ := Aside0.mk (Kd.R_elder' (by (with_reducible repeat (first | apply Kd.R_alloc | apply Kd.R_drewN | apply Kd.R_drew)); exact HO108.out) (Kd.R_base ho0) hb); have n2_ := Aside0.mk (Kd.R_elder' (by (with_reducible repeat (first | apply Kd.R_alloc | apply Kd.R_drewN | apply Kd.R_drew)); exact HO111.out) (Kd.R_base ho0) hb); have n3_ := Aside0.mk (Kd.R_lower (Kd.R_new' (Kd.R_new' (Kd.R_new' ho0 (Kd.R_lt (by (with_reducible repeat (first | apply Kd.R_alloc | apply Kd.R_drewN | apply Kd.R_drew)); exact HO104.out))) (Kd.R_lt (by (with_reducible repeat (first | apply Kd.R_alloc | apply Kd.R_drewN | apply Kd.R_drew)); exact HO108.out))) (Kd.R_lt (by (with_reducible repeat (first | apply Kd.R_alloc | apply Kd.R_drewN | apply Kd.R_drew)); exact HO111.out))) (below_size (by repeat (first | (with_reducible first | exact HB.out | apply below_alloc | apply pw_below_drewN | apply below_drew1) | exact HB.out)))); have n4_ := Aside0.mk (below_step (by repeat (first | (with_reducible first | exact HB.out | apply below_alloc | apply pw_below_drewN | apply below_drew1) | exact HB.out)) hb); clear HO104; clear HO108; clear HO111; clear HB; have HO104 := n0_; have HO108 := n1_; have HO111 := n2_; have HO115 := n3_; have HB := n4_; clear n0_ n1_ n2_ n3_ n4_; (try clear hb); (try clear hb2); (try clear hk); (try clear hi); (try clear ho0)))
    (try simp only [Act.put, List.setIfInBounds_toArray, List.set_cons_zero, List.set_cons_succ])
    go_cut [44] (fun v44 wc => ∃ (kq : Nat) (x44_8 : Bool), v44 = .bool x44_8 ∧ Aside0 (laws_FnExactShiftLog.j0 kq l0 a1 t105 t106 t109 t112 t113 x44_8 = some r) ∧ Aside0 (kq ≤ k) ∧ Aside0 (Kd.R k73 73 wc w.heap.size (fun k_ => some k_ ≠ ((.slice Ao14 t109.length co14) : Value).ownBlock ∧ some k_ ≠ (v114 : Value).ownBlock) v107 t105) ∧ Aside0 (Kd.R k73 73 wc w.heap.size (fun k_ => some k_ ≠ (v107 : Value).ownBlock ∧ some k_ ≠ (v114 : Value).ownBlock) (.slice Ao14 t109.length co14) t109) ∧ Aside0 (Kd.R k73 73 wc w.heap.size (fun k_ => some k_ ≠ (v107 : Value).ownBlock ∧ some k_ ≠ ((.slice Ao14 t109.length co14) : Value).ownBlock) v114 t112) ∧ Aside0 (Below w.heap.size w wc))
    case first =>
      have H := HC9.out
      clear HC9
      replace H := Option.bind_eq_some_iff.mp H
      obtain ⟨t116, A160, H⟩ := H
      replace H : (if t116 = true then (laws_FnExactShiftLog.j0 k l0 a1 t105 t106 t109 t112 t113 (t113 != t106)) else (laws_FnExactShiftLog.j0 k l0 a1 t105 t106 t109 t112 t113 true)) = some r := H
      have A16 := Aside0.mk A160
      clear A160
      by_cases c17 : t116 = true
      · subst c17
        have H1 : (laws_FnExactShiftLog.j0 k l0 a1 t105 t106 t109 t112 t113 (t113 != t106)) = some r := by rw [if_pos rfl] at H; exact H
        clear H
        have H := H1
        clear H1
        have H' := Aside0.mk H
        clear H
        obtain ⟨Ao18, co18, eo18⟩ := Kd.R_slice HO115.out
        subst eo18
        obtain ⟨Ao19, co19, eo19⟩ := Kd.R_slice HO108.out
        subst eo19
        go_wp2_with (first | ((with_reducible refine gate_callee (f := 23) rfl ?_); refine goesL_ (some 38) rfl rfl Try.func23 (by kernel_rfl) rfl #[.slice Ao18 t112.length co18, .slice Ao19 t105.length co19] rfl (by (try simp only [List.map_toArray, List.map_cons, List.map_nil]); first | done | rfl | (simp only [List.length_drop, List.length_take]; rfl)) ?_; (with_reducible refine (laws_eqLog.calls k _ _ t112 _ _ t105 true _ ?side1 ?side2 ?side3 ?side4 A16.out).mono ?_); (case side1 => repeat (first | exact (Kd.R_reads' HO115.out).2.2 | (with_reducible refine Kd.C_alloc ?_ _) | (with_reducible refine Kd.C_drewN ?_ _) | (with_reducible refine Kd.C_drew ?_))); (case side2 => exact (Kd.R_reads' HO115.out).2.1); (case side3 => repeat (first | exact (Kd.R_reads' HO108.out).2.2 | (with_reducible refine Kd.C_alloc ?_ _) | (with_reducible refine Kd.C_drewN ?_ _) | (with_reducible refine Kd.C_drew ?_))); (case side4 => exact (Kd.R_reads' HO108.out).2.1); rintro e w20 ⟨rfl, hb⟩; refine ⟨_, rfl, ?_⟩; have n0_ := Aside0.mk (Kd.R_below (by (with_reducible repeat (first | apply Kd.R_alloc | apply Kd.R_drewN | apply Kd.R_drew)); exact HO104.out) hb); have n1_ := Aside0.mk (Kd.R_below (by (with_reducible repeat (first | apply Kd.R_alloc | apply Kd.R_drewN | apply Kd.R_drew)); exact HO108.out) hb); have n2_ := Aside0.mk (Kd.R_below (by (with_reducible repeat (first | apply Kd.R_alloc | apply Kd.R_drewN | apply Kd.R_drew)); exact HO111.out) hb); have n3_ := Aside0.mk (Kd.R_below (by (with_reducible repeat (first | apply Kd.R_alloc | apply Kd.R_drewN | apply Kd.R_drew)); exact HO115.out) hb); have n4_ := Aside0.mk (below_step (by repeat (first | (with_reducible first | exact HB.out | apply below_alloc | apply pw_below_drewN | apply below_drew1) | exact HB.out)) hb); clear HO104; clear HO108; clear HO111; clear HO115; clear HB; have HO104 := n0_; have HO108 := n1_; have HO111 := n2_; have HO115 := n3_; have HB := n4_; clear n0_ n1_ n2_ n3_ n4_; (try clear hb); (try clear hb2); (try clear hk); (try clear hi)))
        go_meet
        case rel => exact ⟨_, ((t113 != t106)), (by first | rfl | (simp only [IntKind.wrap_i64, wrap64]; done) | (simp; done) | (simp [*]; done)), H', ⟨by first | omega | exact Nat.le_refl _⟩, ⟨by (with_reducible repeat (first | apply Kd.R_alloc | apply Kd.R_drewN | apply Kd.R_drew)); exact Kd.R_mono HO108.out (fun _ hk => ⟨hk.1.2, hk.2⟩)⟩, ⟨by (with_reducible repeat (first | apply Kd.R_alloc | apply Kd.R_drewN | apply Kd.R_drew)); exact Kd.R_mono HO111.out (fun _ hk => ⟨hk.1.2, hk.2⟩)⟩, ⟨by (with_reducible repeat (first | apply Kd.R_alloc | apply Kd.R_drewN | apply Kd.R_drew)); exact Kd.R_mono HO115.out (fun _ hk => ⟨hk.1.2, hk.2⟩)⟩, ⟨by repeat (first | (with_reducible first | exact HB.out | apply below_alloc | apply pw_below_drewN | apply below_drew1) | exact HB.out)⟩⟩
      · replace c17 := Bool.eq_false_iff.mpr c17
        subst c17
        have H1 : (laws_FnExactShiftLog.j0 k l0 a1 t105 t106 t109 t112 t113 true) = some r := by rw [if_neg (show ¬ (false = true) by decide)] at H; exact H
        clear H
        have H := H1
        clear H1
        have H' := Aside0.mk H
        clear H
        obtain ⟨Ao21, co21, eo21⟩ := Kd.R_slice HO115.out
        subst eo21
        obtain ⟨Ao22, co22, eo22⟩ := Kd.R_slice HO108.out
        subst eo22
        go_wp2_with (first | ((with_reducible refine gate_callee (f := 23) rfl ?_); refine goesL_ (some 38) rfl rfl Try.func23 (by kernel_rfl) rfl #[.slice Ao21 t112.length co21, .slice Ao22 t105.length co22] rfl (by (try simp only [List.map_toArray, List.map_cons, List.map_nil]); first | done | rfl | (simp only [List.length_drop, List.length_take]; rfl)) ?_; (with_reducible refine (laws_eqLog.calls k _ _ t112 _ _ t105 false _ ?side1 ?side2 ?side3 ?side4 A16.out).mono ?_); (case side1 => repeat (first | exact (Kd.R_reads' HO115.out).2.2 | (with_reducible refine Kd.C_alloc ?_ _) | (with_reducible refine Kd.C_drewN ?_ _) | (with_reducible refine Kd.C_drew ?_))); (case side2 => exact (Kd.R_reads' HO115.out).2.1); (case side3 => repeat (first | exact (Kd.R_reads' HO108.out).2.2 | (with_reducible refine Kd.C_alloc ?_ _) | (with_reducible refine Kd.C_drewN ?_ _) | (with_reducible refine Kd.C_drew ?_))); (case side4 => exact (Kd.R_reads' HO108.out).2.1); rintro e w23 ⟨rfl, hb⟩; refine ⟨_, rfl, ?_⟩; have n0_ := Aside0.mk (Kd.R_below (by (with_reducible repeat (first | apply Kd.R_alloc | apply Kd.R_drewN | apply Kd.R_drew)); exact HO104.out) hb); have n1_ := Aside0.mk (Kd.R_below (by (with_reducible repeat (first | apply Kd.R_alloc | apply Kd.R_drewN | apply Kd.R_drew)); exact HO108.out) hb); have n2_ := Aside0.mk (Kd.R_below (by (with_reducible repeat (first | apply Kd.R_alloc | apply Kd.R_drewN | apply Kd.R_drew)); exact HO111.out) hb); have n3_ := Aside0.mk (Kd.R_below (by (with_reducible repeat (first | apply Kd.R_alloc | apply Kd.R_drewN | apply Kd.R_drew)); exact HO115.out) hb); have n4_ := Aside0.mk (below_step (by repeat (first | (with_reducible first | exact HB.out | apply below_alloc | apply pw_below_drewN | apply below_drew1) | exact HB.out)) hb); clear HO104; clear HO108; clear HO111; clear HO115; clear HB; have HO104 := n0_; have HO108 := n1_; have HO111 := n2_; have HO115 := n3_; have HB := n4_; clear n0_ n1_ n2_ n3_ n4_; (try clear hb); (try clear hb2); (try clear hk); (try clear hi)))
        go_meet
        case rel => exact ⟨_, (true), (by first | rfl | (simp only [IntKind.wrap_i64, wrap64]; done) | (simp; done) | (simp [*]; done)), H', ⟨by first | omega | exact Nat.le_refl _⟩, ⟨by (with_reducible repeat (first | apply Kd.R_alloc | apply Kd.R_drewN | apply Kd.R_drew)); exact Kd.R_mono HO108.out (fun _ hk => ⟨hk.1.2, hk.2⟩)⟩, ⟨by (with_reducible repeat (first | apply Kd.R_alloc | apply Kd.R_drewN | apply Kd.R_drew)); exact Kd.R_mono HO111.out (fun _ hk => ⟨hk.1.2, hk.2⟩)⟩, ⟨by (with_reducible repeat (first | apply Kd.R_alloc | apply Kd.R_drewN | apply Kd.R_drew)); exact Kd.R_mono HO115.out (fun _ hk => ⟨hk.1.2, hk.2⟩)⟩, ⟨by repeat (first | (with_reducible first | exact HB.out | apply below_alloc | apply pw_below_drewN | apply below_drew1) | exact HB.out)⟩⟩
    case rest =>
      clear HC9
      try clear c1
      try clear c2
      try clear p2
      try clear c4
      try clear c4b0
      try clear c6
      try clear c17
      try clear c19
      try clear c21
      try clear c23
      obtain ⟨kq, x44_8, rfl, HA, HJ8, HO_6, HO_8, HO_9, HB⟩ := hcut
      cases kq with
      | zero => exact absurd HA.out (by simp [laws_FnExactShiftLog.j0])
      | succ kj8 =>
        have H := HA.out
        clear HA
        simp only [laws_FnExactShiftLog.j0] at H
        by_cases c24 : x44_8 = true
        · subst c24
          have H1 : (some false) = some r := by rw [if_pos rfl] at H; exact H
          clear H
          have H := H1
          clear H1
          obtain rfl := Option.some.inj H
          go_wp2
          go_ret
          exact ⟨by first | rfl | (simp [errW_none, errW_some, IntKind.wrap_i64, wrap64]; done) | (simp [errW_none, errW_some] <;> rfl) | (simp [*, errW_none, errW_some] <;> rfl), by repeat (first | (with_reducible first | exact HB.out | apply below_alloc | apply pw_below_drewN | apply below_drew1) | exact HB.out)⟩
        · replace c24 := Bool.eq_false_iff.mpr c24
          subst c24
          have H1 : ((laws_toLog.f kj8 l0).bind fun t117 => ((laws_eqLog.f kj8 t109 t117).bind fun t120 => (if t120 = true then ((laws_markLog.f kj8 t109 1).bind fun bt121 => (if bt121.1 < 0 then (laws_FnExactShiftLog.j1 kj8 l0 a1 t105 t106 t112 true) else ((laws_eqLog.f kj8 t112 t105).bind fun t123 => (if t123 = true then (laws_FnExactShiftLog.j1 kj8 l0 a1 t105 t106 t112 (t113 != t106)) else (laws_FnExactShiftLog.j1 kj8 l0 a1 t105 t106 t112 true))))) else (some false)))) = some r := by rw [if_neg (show ¬ (false = true) by decide)] at H; exact H
          clear H
          have H := H1
          clear H1
          replace H := Option.bind_eq_some_iff.mp H
          obtain ⟨t117, A250, H⟩ := H
          replace H : ((laws_eqLog.f kj8 t109 t117).bind fun t120 => (if t120 = true then ((laws_markLog.f kj8 t109 1).bind fun bt121 => (if bt121.1 < 0 then (laws_FnExactShiftLog.j1 kj8 l0 a1 t105 t106 t112 true) else ((laws_eqLog.f kj8 t112 t105).bind fun t123 => (if t123 = true then (laws_FnExactShiftLog.j1 kj8 l0 a1 t105 t106 t112 (t113 != t106)) else (laws_FnExactShiftLog.j1 kj8 l0 a1 t105 t106 t112 true))))) else (some false))) = some r := H
          have A25 := Aside0.mk A250
          clear A250
          replace H := Option.bind_eq_some_iff.mp H
          obtain ⟨t120, A260, H⟩ := H
          replace H : (if t120 = true then ((laws_markLog.f kj8 t109 1).bind fun bt121 => (if bt121.1 < 0 then (laws_FnExactShiftLog.j1 kj8 l0 a1 t105 t106 t112 true) else ((laws_eqLog.f kj8 t112 t105).bind fun t123 => (if t123 = true then (laws_FnExactShiftLog.j1 kj8 l0 a1 t105 t106 t112 (t113 != t106)) else (laws_FnExactShiftLog.j1 kj8 l0 a1 t105 t106 t112 true))))) else (some false)) = some r := H
          have A26 := Aside0.mk A260
          clear A260
          by_cases c27 : t120 = true
          · subst c27
            have H1 : ((laws_markLog.f kj8 t109 1).bind fun bt121 => (if bt121.1 < 0 then (laws_FnExactShiftLog.j1 kj8 l0 a1 t105 t106 t112 true) else ((laws_eqLog.f kj8 t112 t105).bind fun t123 => (if t123 = true then (laws_FnExactShiftLog.j1 kj8 l0 a1 t105 t106 t112 (t113 != t106)) else (laws_FnExactShiftLog.j1 kj8 l0 a1 t105 t106 t112 true))))) = some r := by rw [if_pos rfl] at H; exact H
            clear H
            have H := H1
            clear H1
            replace H := Option.bind_eq_some_iff.mp H
            obtain ⟨⟨t121, t122⟩, A280, H⟩ := H
            replace H : (if t121 < 0 then (laws_FnExactShiftLog.j1 kj8 l0 a1 t105 t106 t112 true) else ((laws_eqLog.f kj8 t112 t105).bind fun t123 => (if t123 = true then (laws_FnExactShiftLog.j1 kj8 l0 a1 t105 t106 t112 (t113 != t106)) else (laws_FnExactShiftLog.j1 kj8 l0 a1 t105 t106 t112 true)))) = some r := H
            have A28 := Aside0.mk A280
            clear A280
            have HC29 := Aside0.mk H
            clear H
            go_upto_region 14 with (first | ((with_reducible refine gate_callee (f := 21) rfl ?_); refine goesL_ (some 47) rfl rfl Try.func21 (by kernel_rfl) rfl #[.slice A0 l0.length c0] rfl (by (try simp only [List.map_toArray, List.map_cons, List.map_nil]); first | done | rfl | (simp only [List.length_drop, List.length_take]; rfl)) ?_; (with_reducible refine (laws_toLog.calls kj8 _ _ l0 t117 _ ?side1 ?side2 A25.out).mono ?_); (case side1 => repeat (first | exact (Kd.C_below HR0.out HB.out) | (with_reducible refine Kd.C_alloc ?_ _) | (with_reducible refine Kd.C_drewN ?_ _) | (with_reducible refine Kd.C_drew ?_))); (case side2 => exact HC0.out); rintro e w30 ⟨v118, rfl, ho0, hb⟩; refine ⟨_, rfl, ?_⟩; have n0_ := Aside0.mk (Kd.R_elder' (by (with_reducible repeat (first | apply Kd.R_alloc | apply Kd.R_drewN | apply Kd.R_drew)); exact HO_6.out) (Kd.R_base ho0) hb); have n1_ := Aside0.mk (Kd.R_elder' (by (with_reducible repeat (first | apply Kd.R_alloc | apply Kd.R_drewN | apply Kd.R_drew)); exact HO_8.out) (Kd.R_base ho0) hb); have n2_ := Aside0.mk (Kd.R_elder' (by (with_reducible repeat (first | apply Kd.R_alloc | apply Kd.R_drewN | apply Kd.R_drew)); exact HO_9.out) (Kd.R_base ho0) hb); have n3_ := Aside0.mk (Kd.R_lower (Kd.R_new' (Kd.R_new' (Kd.R_new' ho0 (Kd.R_lt (by (with_reducible repeat (first | apply Kd.R_alloc | apply Kd.R_drewN | apply Kd.R_drew)); exact HO_6.out))) (Kd.R_lt (by (with_reducible repeat (first | apply Kd.R_alloc | apply Kd.R_drewN | apply Kd.R_drew)); exact HO_8.out))) (Kd.R_lt (by (with_reducible repeat (first | apply Kd.R_alloc | apply Kd.R_drewN | apply Kd.R_drew)); exact HO_9.out))) (below_size (by repeat (first | (with_reducible first | exact HB.out | apply below_alloc | apply pw_below_drewN | apply below_drew1) | exact HB.out)))); have n4_ := Aside0.mk (below_step (by repeat (first | (with_reducible first | exact HB.out | apply below_alloc | apply pw_below_drewN | apply below_drew1) | exact HB.out)) hb); clear HO_6; clear HO_8; clear HO_9; clear HB; have HO_6 := n0_; have HO_8 := n1_; have HO_9 := n2_; have HO119 := n3_; have HB := n4_; clear n0_ n1_ n2_ n3_ n4_; (try clear hb); (try clear hb2); (try clear hk); (try clear hi); (try clear ho0); obtain ⟨Ao31, co31, eo31⟩ := Kd.R_slice HO119.out; subst eo31) | ((with_reducible refine gate_callee (f := 23) rfl ?_); refine goesL_ (some 48) rfl rfl Try.func23 (by kernel_rfl) rfl #[.slice Ao14 t109.length co14, .slice Ao31 t117.length co31] rfl (by (try simp only [List.map_toArray, List.map_cons, List.map_nil]); first | done | rfl | (simp only [List.length_drop, List.length_take]; rfl)) ?_; (with_reducible refine (laws_eqLog.calls kj8 _ _ t109 _ _ t117 true _ ?side1 ?side2 ?side3 ?side4 A26.out).mono ?_); (case side1 => repeat (first | exact (Kd.R_reads' HO_8.out).2.2 | (with_reducible refine Kd.C_alloc ?_ _) | (with_reducible refine Kd.C_drewN ?_ _) | (with_reducible refine Kd.C_drew ?_))); (case side2 => exact (Kd.R_reads' HO_8.out).2.1); (case side3 => repeat (first | exact (Kd.R_reads' HO119.out).2.2 | (with_reducible refine Kd.C_alloc ?_ _) | (with_reducible refine Kd.C_drewN ?_ _) | (with_reducible refine Kd.C_drew ?_))); (case side4 => exact (Kd.R_reads' HO119.out).2.1); rintro e w32 ⟨rfl, hb⟩; refine ⟨_, rfl, ?_⟩; have n0_ := Aside0.mk (Kd.R_below (by (with_reducible repeat (first | apply Kd.R_alloc | apply Kd.R_drewN | apply Kd.R_drew)); exact HO_6.out) hb); have n1_ := Aside0.mk (Kd.R_below (by (with_reducible repeat (first | apply Kd.R_alloc | apply Kd.R_drewN | apply Kd.R_drew)); exact HO_8.out) hb); have n2_ := Aside0.mk (Kd.R_below (by (with_reducible repeat (first | apply Kd.R_alloc | apply Kd.R_drewN | apply Kd.R_drew)); exact HO_9.out) hb); have n3_ := Aside0.mk (Kd.R_below (by (with_reducible repeat (first | apply Kd.R_alloc | apply Kd.R_drewN | apply Kd.R_drew)); exact HO119.out) hb); have n4_ := Aside0.mk (below_step (by repeat (first | (with_reducible first | exact HB.out | apply below_alloc | apply pw_below_drewN | apply below_drew1) | exact HB.out)) hb); clear HO_6; clear HO_8; clear HO_9; clear HO119; clear HB; have HO_6 := n0_; have HO_8 := n1_; have HO_9 := n2_; have HO119 := n3_; have HB := n4_; clear n0_ n1_ n2_ n3_ n4_; (try clear hb); (try clear hb2); (try clear hk); (try clear hi)) | ((with_reducible refine gate_callee (f := 30) rfl ?_); refine goesL_ (some 52) rfl rfl Try.func30 (by kernel_rfl) rfl #[.slice Ao14 t109.length co14, .int .i64 1] rfl (by (try simp only [List.map_toArray, List.map_cons, List.map_nil]); first | done | rfl | (simp only [List.length_drop, List.length_take]; rfl)) ?_; (with_reducible refine (laws_markLog.calls kj8 (fun k_ => some k_ = (.slice Ao14 t109.length co14 : Value).ownBlock) (.slice Ao14 t109.length co14) t109 1 t121 t122 w _ ?side1 ?side2 A28.out).mono ?_); (case side1 => repeat (first | (with_reducible first | exact HB.out | apply below_alloc | apply pw_below_drewN | apply below_drew1) | exact HB.out)); (case side2 => exact Kd.R_tight rfl HO_8.out); rintro e w33 ⟨rfl, hy0, hb, hkp⟩; refine ⟨_, rfl, ?_⟩; have n0_ := Aside0.mk (Kd.R_mono (ok' := fun k_ => some k_ ≠ (.slice Ao14 t109.length co14 : Value).ownBlock ∧ some k_ ≠ (v114 : Value).ownBlock ∧ some k_ ≠ (.slice Ao31 t117.length co31 : Value).ownBlock) (Kd.R_keptB (HO_6.out) hkp (fun k_ hk_ hs_ => (hk_.1.1) hs_)) (fun k_ hk_ => ⟨hk_.1.1.1, hk_.1.1.2, hk_.1.2⟩)); have n1_ := Aside0.mk (Kd.R_reok rfl hy0 (fun k_ e_ => HO_8.out.1 k_ e_)); have n2_ := Aside0.mk (Kd.R_mono (ok' := fun k_ => some k_ ≠ (v107 : Value).ownBlock ∧ some k_ ≠ (.slice Ao14 t109.length co14 : Value).ownBlock ∧ some k_ ≠ (.slice Ao31 t117.length co31 : Value).ownBlock) (Kd.R_keptB (HO_9.out) hkp (fun k_ hk_ hs_ => (hk_.1.2) hs_)) (fun k_ hk_ => ⟨hk_.1.1.1, hk_.1.1.2, hk_.1.2⟩)); have n3_ := Aside0.mk (Kd.R_mono (ok' := fun k_ => some k_ ≠ (v107 : Value).ownBlock ∧ some k_ ≠ (.slice Ao14 t109.length co14 : Value).ownBlock ∧ some k_ ≠ (v114 : Value).ownBlock) (Kd.R_keptB (HO119.out) hkp (fun k_ hk_ hs_ => (hk_.1.2) hs_)) (fun k_ hk_ => ⟨hk_.1.1.1.2, hk_.1.1.2, hk_.1.2⟩)); have n4_ := Aside0.mk (hb); clear HO_6; clear HO_8; clear HO_9; clear HO119; clear HB; have HO_6 := n0_; have HO_8 := n1_; have HO_9 := n2_; have HO119 := n3_; have HB := n4_; clear n0_ n1_ n2_ n3_ n4_; (try clear hb); (try clear hkp); (try clear hy0)))
            (try simp only [Act.put, List.setIfInBounds_toArray, List.set_cons_zero, List.set_cons_succ])
            go_cut [65] (fun v65 wc => ∃ (kq : Nat) (x65_28 : Bool), v65 = .bool x65_28 ∧ Aside0 (laws_FnExactShiftLog.j1 kq l0 a1 t105 t106 t112 x65_28 = some r) ∧ Aside0 (kq ≤ kj8) ∧ Aside0 (Kd.R k73 73 wc w.heap.size (fun k_ => some k_ ≠ (v114 : Value).ownBlock) v107 t105) ∧ Aside0 (Kd.R k73 73 wc w.heap.size (fun k_ => some k_ ≠ (v107 : Value).ownBlock) v114 t112) ∧ Aside0 (Below w.heap.size w wc))
            case first =>
              have H := HC29.out
              clear HC29
              by_cases c34 : t121 < 0
              · rw [if_pos c34] at H
                have c34b0 : decide (t121 < 0) = true := decide_eq_true c34
                clear c34
                (first | rw [c34b0] | (simp only [i64_w, i32_w]; rw [c34b0]) | skip)
                have H' := Aside0.mk H
                clear H
                go_wp2
                go_meet
                case rel => exact ⟨_, (true), (by first | rfl | (simp only [IntKind.wrap_i64, wrap64]; done) | (simp; done) | (simp [*]; done)), H', ⟨by have := HJ8.out; first | omega | exact Nat.le_refl _⟩, ⟨by (with_reducible repeat (first | apply Kd.R_alloc | apply Kd.R_drewN | apply Kd.R_drew)); exact Kd.R_mono HO_6.out (fun _ hk => hk.2.1)⟩, ⟨by (with_reducible repeat (first | apply Kd.R_alloc | apply Kd.R_drewN | apply Kd.R_drew)); exact Kd.R_mono HO_9.out (fun _ hk => hk.1)⟩, ⟨by repeat (first | (with_reducible first | exact HB.out | apply below_alloc | apply pw_below_drewN | apply below_drew1) | exact HB.out)⟩⟩
              · rw [if_neg c34] at H
                have c34b0 : decide (t121 < 0) = false := decide_eq_false c34
                clear c34
                (first | rw [c34b0] | (simp only [i64_w, i32_w]; rw [c34b0]) | skip)
                replace H := Option.bind_eq_some_iff.mp H
                obtain ⟨t123, A350, H⟩ := H
                replace H : (if t123 = true then (laws_FnExactShiftLog.j1 kj8 l0 a1 t105 t106 t112 (t113 != t106)) else (laws_FnExactShiftLog.j1 kj8 l0 a1 t105 t106 t112 true)) = some r := H
                have A35 := Aside0.mk A350
                clear A350
                by_cases c36 : t123 = true
                · subst c36
                  have H1 : (laws_FnExactShiftLog.j1 kj8 l0 a1 t105 t106 t112 (t113 != t106)) = some r := by rw [if_pos rfl] at H; exact H
                  clear H
                  have H := H1
                  clear H1
                  have H' := Aside0.mk H
                  clear H
                  obtain ⟨Ao37, co37, eo37⟩ := Kd.R_slice HO_9.out
                  subst eo37
                  obtain ⟨Ao38, co38, eo38⟩ := Kd.R_slice HO_6.out
                  subst eo38
                  go_wp2_with (first | (go_at_call 23; (with_reducible refine (laws_eqLog.calls kj8 _ _ t112 _ _ t105 true _ ?side1 ?side2 ?side3 ?side4 A35.out).mono ?_); (case side1 => repeat (first | exact (Kd.R_reads' HO_9.out).2.2 | (with_reducible refine Kd.C_alloc ?_ _) | (with_reducible refine Kd.C_drewN ?_ _) | (with_reducible refine Kd.C_drew ?_))); (case side2 => exact (Kd.R_reads' HO_9.out).2.1); (case side3 => repeat (first | exact (Kd.R_reads' HO_6.out).2.2 | (with_reducible refine Kd.C_alloc ?_ _) | (with_reducible refine Kd.C_drewN ?_ _) | (with_reducible refine Kd.C_drew ?_))); (case side4 => exact (Kd.R_reads' HO_6.out).2.1); rintro e w39 ⟨rfl, hb⟩; have n0_ := Aside0.mk (Kd.R_below (by (with_reducible repeat (first | apply Kd.R_alloc | apply Kd.R_drewN | apply Kd.R_drew)); exact HO_6.out) hb); have n1_ := Aside0.mk (Kd.R_below (by (with_reducible repeat (first | apply Kd.R_alloc | apply Kd.R_drewN | apply Kd.R_drew)); exact HO_8.out) hb); have n2_ := Aside0.mk (Kd.R_below (by (with_reducible repeat (first | apply Kd.R_alloc | apply Kd.R_drewN | apply Kd.R_drew)); exact HO_9.out) hb); have n3_ := Aside0.mk (Kd.R_below (by (with_reducible repeat (first | apply Kd.R_alloc | apply Kd.R_drewN | apply Kd.R_drew)); exact HO119.out) hb); have n4_ := Aside0.mk (below_step (by repeat (first | (with_reducible first | exact HB.out | apply below_alloc | apply pw_below_drewN | apply below_drew1) | exact HB.out)) hb); clear HO_6; clear HO_8; clear HO_9; clear HO119; clear HB; have HO_6 := n0_; have HO_8 := n1_; have HO_9 := n2_; have HO119 := n3_; have HB := n4_; clear n0_ n1_ n2_ n3_ n4_; (try clear hb); (try clear hb2); (try clear hk); (try clear hi)))
                  go_meet
                  case rel => exact ⟨_, ((t113 != t106)), (by first | rfl | (simp only [IntKind.wrap_i64, wrap64]; done) | (simp; done) | (simp [*]; done)), H', ⟨by have := HJ8.out; first | omega | exact Nat.le_refl _⟩, ⟨by (with_reducible repeat (first | apply Kd.R_alloc | apply Kd.R_drewN | apply Kd.R_drew)); exact Kd.R_mono HO_6.out (fun _ hk => hk.2.1)⟩, ⟨by (with_reducible repeat (first | apply Kd.R_alloc | apply Kd.R_drewN | apply Kd.R_drew)); exact Kd.R_mono HO_9.out (fun _ hk => hk.1)⟩, ⟨by repeat (first | (with_reducible first | exact HB.out | apply below_alloc | apply pw_below_drewN | apply below_drew1) | exact HB.out)⟩⟩
                · replace c36 := Bool.eq_false_iff.mpr c36
                  subst c36
                  have H1 : (laws_FnExactShiftLog.j1 kj8 l0 a1 t105 t106 t112 true) = some r := by rw [if_neg (show ¬ (false = true) by decide)] at H; exact H
                  clear H
                  have H := H1
                  clear H1
                  have H' := Aside0.mk H
                  clear H
                  obtain ⟨Ao40, co40, eo40⟩ := Kd.R_slice HO_9.out
                  subst eo40
                  obtain ⟨Ao41, co41, eo41⟩ := Kd.R_slice HO_6.out
                  subst eo41
                  go_wp2_with (first | (go_at_call 23; (with_reducible refine (laws_eqLog.calls kj8 _ _ t112 _ _ t105 false _ ?side1 ?side2 ?side3 ?side4 A35.out).mono ?_); (case side1 => repeat (first | exact (Kd.R_reads' HO_9.out).2.2 | (with_reducible refine Kd.C_alloc ?_ _) | (with_reducible refine Kd.C_drewN ?_ _) | (with_reducible refine Kd.C_drew ?_))); (case side2 => exact (Kd.R_reads' HO_9.out).2.1); (case side3 => repeat (first | exact (Kd.R_reads' HO_6.out).2.2 | (with_reducible refine Kd.C_alloc ?_ _) | (with_reducible refine Kd.C_drewN ?_ _) | (with_reducible refine Kd.C_drew ?_))); (case side4 => exact (Kd.R_reads' HO_6.out).2.1); rintro e w42 ⟨rfl, hb⟩; have n0_ := Aside0.mk (Kd.R_below (by (with_reducible repeat (first | apply Kd.R_alloc | apply Kd.R_drewN | apply Kd.R_drew)); exact HO_6.out) hb); have n1_ := Aside0.mk (Kd.R_below (by (with_reducible repeat (first | apply Kd.R_alloc | apply Kd.R_drewN | apply Kd.R_drew)); exact HO_8.out) hb); have n2_ := Aside0.mk (Kd.R_below (by (with_reducible repeat (first | apply Kd.R_alloc | apply Kd.R_drewN | apply Kd.R_drew)); exact HO_9.out) hb); have n3_ := Aside0.mk (Kd.R_below (by (with_reducible repeat (first | apply Kd.R_alloc | apply Kd.R_drewN | apply Kd.R_drew)); exact HO119.out) hb); have n4_ := Aside0.mk (below_step (by repeat (first | (with_reducible first | exact HB.out | apply below_alloc | apply pw_below_drewN | apply below_drew1) | exact HB.out)) hb); clear HO_6; clear HO_8; clear HO_9; clear HO119; clear HB; have HO_6 := n0_; have HO_8 := n1_; have HO_9 := n2_; have HO119 := n3_; have HB := n4_; clear n0_ n1_ n2_ n3_ n4_; (try clear hb); (try clear hb2); (try clear hk); (try clear hi)))
                  go_meet
                  case rel => exact ⟨_, (true), (by first | rfl | (simp only [IntKind.wrap_i64, wrap64]; done) | (simp; done) | (simp [*]; done)), H', ⟨by have := HJ8.out; first | omega | exact Nat.le_refl _⟩, ⟨by (with_reducible repeat (first | apply Kd.R_alloc | apply Kd.R_drewN | apply Kd.R_drew)); exact Kd.R_mono HO_6.out (fun _ hk => hk.2.1)⟩, ⟨by (with_reducible repeat (first | apply Kd.R_alloc | apply Kd.R_drewN | apply Kd.R_drew)); exact Kd.R_mono HO_9.out (fun _ hk => hk.1)⟩, ⟨by repeat (first | (with_reducible first | exact HB.out | apply below_alloc | apply pw_below_drewN | apply below_drew1) | exact HB.out)⟩⟩
            case rest =>
              clear HC29
              try clear c1
              try clear c2
              try clear p2
              try clear c3
              try clear c4
              try clear c4b0
              try clear c6
              try clear c17
              try clear c19
              try clear c21
              try clear c23
              try clear c24
              try clear c27
              try clear c28
              try clear c29
              try clear c30
              try clear c34
              try clear c34b0
              try clear c36
              try clear p2
              obtain ⟨kq, x65_28, rfl, HA, HJ28, HO_6, HO_9, HB⟩ := hcut
              cases kq with
              | zero => exact absurd HA.out (by simp [laws_FnExactShiftLog.j1])
              | succ kj28 =>
                have H := HA.out
                clear HA
                simp only [laws_FnExactShiftLog.j1] at H
                by_cases c43 : x65_28 = true
                · subst c43
                  have H1 : (some false) = some r := by rw [if_pos rfl] at H; exact H
                  clear H
                  have H := H1
                  clear H1
                  obtain rfl := Option.some.inj H
                  go_wp2
                  go_ret
                  exact ⟨by first | rfl | (simp [errW_none, errW_some, IntKind.wrap_i64, wrap64]; done) | (simp [errW_none, errW_some] <;> rfl) | (simp [*, errW_none, errW_some] <;> rfl), by repeat (first | (with_reducible first | exact HB.out | apply below_alloc | apply pw_below_drewN | apply below_drew1) | exact HB.out)⟩
                · replace c43 := Bool.eq_false_iff.mpr c43
                  subst c43
                  have H1 : ((laws_markLog.f kj28 t112 1).bind fun bt124 => ((laws_heldLog.f kj28 bt124.2 1).bind fun t126 => (if t126 < 0 then (some false) else (if t126 = bt124.1 then ((laws_toLog.f kj28 l0).bind fun t127 => ((impl_ShiftLog.f kj28 t127 a1).bind fun bt130 => ((laws_eqLog.f kj28 bt130.1 t105).bind fun t134 => (if t134 = true then (laws_FnExactShiftLog.j2 kj28 bt124.2 bt124.1 (bt130.2 != t106)) else (laws_FnExactShiftLog.j2 kj28 bt124.2 bt124.1 true))))) else (some false))))) = some r := by rw [if_neg (show ¬ (false = true) by decide)] at H; exact H
                  clear H
                  have H := H1
                  clear H1
                  replace H := Option.bind_eq_some_iff.mp H
                  obtain ⟨⟨t124, t125⟩, A440, H⟩ := H
                  replace H : ((laws_heldLog.f kj28 t125 1).bind fun t126 => (if t126 < 0 then (some false) else (if t126 = t124 then ((laws_toLog.f kj28 l0).bind fun t127 => ((impl_ShiftLog.f kj28 t127 a1).bind fun bt130 => ((laws_eqLog.f kj28 bt130.1 t105).bind fun t134 => (if t134 = true then (laws_FnExactShiftLog.j2 kj28 t125 t124 (bt130.2 != t106)) else (laws_FnExactShiftLog.j2 kj28 t125 t124 true))))) else (some false)))) = some r := H
                  have A44 := Aside0.mk A440
                  clear A440
                  replace H := Option.bind_eq_some_iff.mp H
                  obtain ⟨t126, A450, H⟩ := H
                  replace H : (if t126 < 0 then (some false) else (if t126 = t124 then ((laws_toLog.f kj28 l0).bind fun t127 => ((impl_ShiftLog.f kj28 t127 a1).bind fun bt130 => ((laws_eqLog.f kj28 bt130.1 t105).bind fun t134 => (if t134 = true then (laws_FnExactShiftLog.j2 kj28 t125 t124 (bt130.2 != t106)) else (laws_FnExactShiftLog.j2 kj28 t125 t124 true))))) else (some false))) = some r := H
                  have A45 := Aside0.mk A450
                  clear A450
                  by_cases c46 : t126 < 0
                  · rw [if_pos c46] at H
                    have c46b0 : decide (t126 < 0) = true := decide_eq_true c46
                    clear c46
                    obtain rfl := Option.some.inj H
                    obtain ⟨Ao47, co47, eo47⟩ := Kd.R_slice HO_9.out
                    subst eo47
                    go_wp2_with (first | ((with_reducible refine gate_callee (f := 30) rfl ?_); refine goesL_ (some 68) rfl rfl Try.func30 (by kernel_rfl) rfl #[.slice Ao47 t112.length co47, .int .i64 1] rfl (by (try simp only [List.map_toArray, List.map_cons, List.map_nil]); first | done | rfl | (simp only [List.length_drop, List.length_take]; rfl)) ?_; (with_reducible refine (laws_markLog.calls kj28 (fun k_ => some k_ = (.slice Ao47 t112.length co47 : Value).ownBlock) (.slice Ao47 t112.length co47) t112 1 t124 t125 w _ ?side1 ?side2 A44.out).mono ?_); (case side1 => repeat (first | (with_reducible first | exact HB.out | apply below_alloc | apply pw_below_drewN | apply below_drew1) | exact HB.out)); (case side2 => exact Kd.R_tight rfl HO_9.out); rintro e w48 ⟨rfl, hy0, hb, hkp⟩; refine ⟨_, rfl, ?_⟩; have n0_ := Aside0.mk (Kd.R_mono (ok' := fun k_ => some k_ ≠ (.slice Ao47 t112.length co47 : Value).ownBlock) (Kd.R_keptB (HO_6.out) hkp (fun k_ hk_ hs_ => (hk_) hs_)) (fun k_ hk_ => hk_.1)); have n1_ := Aside0.mk (Kd.R_reok rfl hy0 (fun k_ e_ => HO_9.out.1 k_ e_)); have n2_ := Aside0.mk (hb); clear HO_6; clear HO_9; clear HB; have HO_6 := n0_; have HO_9 := n1_; have HB := n2_; clear n0_ n1_ n2_; (try clear hb); (try clear hkp); (try clear hy0)) | ((with_reducible refine gate_callee (f := 31) rfl ?_); refine goesL_ (some 71) rfl rfl Try.func31 (by kernel_rfl) rfl #[.slice Ao47 t125.length co47, .int .i64 1] rfl (by (try simp only [List.map_toArray, List.map_cons, List.map_nil]); first | done | (rw [show t125.length = t112.length from (Kd.R_reads' HO_9.out).1.symm] <;> rfl) | rfl | (simp only [List.length_drop, List.length_take]; rfl)) ?_; (with_reducible refine (laws_heldLog.calls kj28 _ _ t125 1 t126 _ ?side1 ?side2 A45.out).mono ?_); (case side1 => repeat (first | exact (Kd.R_reads' HO_9.out).2.2 | (with_reducible refine Kd.C_alloc ?_ _) | (with_reducible refine Kd.C_drewN ?_ _) | (with_reducible refine Kd.C_drew ?_))); (case side2 => rw [show t125.length = t112.length from (Kd.R_reads' HO_9.out).1.symm]; exact (Kd.R_reads' HO_9.out).2.1); rintro e w' ⟨rfl, ⟨nd, rfl⟩⟩; refine ⟨_, rfl, ?_⟩))
                    go_ret
                    exact ⟨by first | rfl | (simp [errW_none, errW_some, IntKind.wrap_i64, wrap64]; done) | (simp [errW_none, errW_some] <;> rfl) | (simp [*, errW_none, errW_some] <;> rfl), by repeat (first | (with_reducible first | exact HB.out | apply below_alloc | apply pw_below_drewN | apply below_drew1) | exact HB.out)⟩
                  · rw [if_neg c46] at H
                    have c46b0 : decide (t126 < 0) = false := decide_eq_false c46
                    clear c46
                    by_cases c49 : t126 = t124
                    · rw [if_pos c49] at H
                      have c49b0 : (t126 == t124) = true := beq_iff_eq.mpr c49
                      have c49b1 : (t126 != t124) = false := bne_eq_false_iff_eq.mpr c49
                      clear c49
                      replace H := Option.bind_eq_some_iff.mp H
                      obtain ⟨t127, A500, H⟩ := H
                      replace H : ((impl_ShiftLog.f kj28 t127 a1).bind fun bt130 => ((laws_eqLog.f kj28 bt130.1 t105).bind fun t134 => (if t134 = true then (laws_FnExactShiftLog.j2 kj28 t125 t124 (bt130.2 != t106)) else (laws_FnExactShiftLog.j2 kj28 t125 t124 true)))) = some r := H
                      have A50 := Aside0.mk A500
                      clear A500
                      replace H := Option.bind_eq_some_iff.mp H
                      obtain ⟨⟨t130, t131⟩, A510, H⟩ := H
                      replace H : ((laws_eqLog.f kj28 t130 t105).bind fun t134 => (if t134 = true then (laws_FnExactShiftLog.j2 kj28 t125 t124 (t131 != t106)) else (laws_FnExactShiftLog.j2 kj28 t125 t124 true))) = some r := H
                      have A51 := Aside0.mk A510
                      clear A510
                      have HC52 := Aside0.mk H
                      clear H
                      obtain ⟨Ao53, co53, eo53⟩ := Kd.R_slice HO_9.out
                      subst eo53
                      go_upto_region 25 with (first | ((with_reducible refine gate_callee (f := 30) rfl ?_); refine goesL_ (some 68) rfl rfl Try.func30 (by kernel_rfl) rfl #[.slice Ao53 t112.length co53, .int .i64 1] rfl (by (try simp only [List.map_toArray, List.map_cons, List.map_nil]); first | done | rfl | (simp only [List.length_drop, List.length_take]; rfl)) ?_; (with_reducible refine (laws_markLog.calls kj28 (fun k_ => some k_ = (.slice Ao53 t112.length co53 : Value).ownBlock) (.slice Ao53 t112.length co53) t112 1 t124 t125 w _ ?side1 ?side2 A44.out).mono ?_); (case side1 => repeat (first | (with_reducible first | exact HB.out | apply below_alloc | apply pw_below_drewN | apply below_drew1) | exact HB.out)); (case side2 => exact Kd.R_tight rfl HO_9.out); rintro e w54 ⟨rfl, hy0, hb, hkp⟩; refine ⟨_, rfl, ?_⟩; have n0_ := Aside0.mk (Kd.R_mono (ok' := fun k_ => some k_ ≠ (.slice Ao53 t112.length co53 : Value).ownBlock) (Kd.R_keptB (HO_6.out) hkp (fun k_ hk_ hs_ => (hk_) hs_)) (fun k_ hk_ => hk_.1)); have n1_ := Aside0.mk (Kd.R_reok rfl hy0 (fun k_ e_ => HO_9.out.1 k_ e_)); have n2_ := Aside0.mk (hb); clear HO_6; clear HO_9; clear HB; have HO_6 := n0_; have HO_9 := n1_; have HB := n2_; clear n0_ n1_ n2_; (try clear hb); (try clear hkp); (try clear hy0)) | ((with_reducible refine gate_callee (f := 31) rfl ?_); refine goesL_ (some 71) rfl rfl Try.func31 (by kernel_rfl) rfl #[.slice Ao53 t125.length co53, .int .i64 1] rfl (by (try simp only [List.map_toArray, List.map_cons, List.map_nil]); first | done | (rw [show t125.length = t112.length from (Kd.R_reads' HO_9.out).1.symm] <;> rfl) | rfl | (simp only [List.length_drop, List.length_take]; rfl)) ?_; (with_reducible refine (laws_heldLog.calls kj28 _ _ t125 1 t126 _ ?side1 ?side2 A45.out).mono ?_); (case side1 => repeat (first | exact (Kd.R_reads' HO_9.out).2.2 | (with_reducible refine Kd.C_alloc ?_ _) | (with_reducible refine Kd.C_drewN ?_ _) | (with_reducible refine Kd.C_drew ?_))); (case side2 => rw [show t125.length = t112.length from (Kd.R_reads' HO_9.out).1.symm]; exact (Kd.R_reads' HO_9.out).2.1); rintro e w' ⟨rfl, ⟨nd, rfl⟩⟩; refine ⟨_, rfl, ?_⟩) | ((with_reducible refine gate_callee (f := 21) rfl ?_); refine goesL_ (some 79) rfl rfl Try.func21 (by kernel_rfl) rfl #[.slice A0 l0.length c0] rfl (by (try simp only [List.map_toArray, List.map_cons, List.map_nil]); first | done | rfl | (simp only [List.length_drop, List.length_take]; rfl)) ?_; (with_reducible refine (laws_toLog.calls kj28 _ _ l0 t127 _ ?side1 ?side2 A50.out).mono ?_); (case side1 => repeat (first | exact (Kd.C_below HR0.out (by repeat (first | (with_reducible first | exact HB.out | apply below_alloc | apply pw_below_drewN | apply below_drew1) | exact HB.out))) | (with_reducible refine Kd.C_alloc ?_ _) | (with_reducible refine Kd.C_drewN ?_ _) | (with_reducible refine Kd.C_drew ?_))); (case side2 => exact HC0.out); rintro e w55 ⟨v128, rfl, ho0, hb⟩; refine ⟨_, rfl, ?_⟩; have n0_ := Aside0.mk (Kd.R_elder' (by (with_reducible repeat (first | apply Kd.R_alloc | apply Kd.R_drewN | apply Kd.R_drew)); exact HO_6.out) (Kd.R_base ho0) hb); have n1_ := Aside0.mk (Kd.R_elder' (by (with_reducible repeat (first | apply Kd.R_alloc | apply Kd.R_drewN | apply Kd.R_drew)); exact HO_9.out) (Kd.R_base ho0) hb); have n2_ := Aside0.mk (Kd.R_lower (Kd.R_new' (Kd.R_new' ho0 (Kd.R_lt (by (with_reducible repeat (first | apply Kd.R_alloc | apply Kd.R_drewN | apply Kd.R_drew)); exact HO_6.out))) (Kd.R_lt (by (with_reducible repeat (first | apply Kd.R_alloc | apply Kd.R_drewN | apply Kd.R_drew)); exact HO_9.out))) (below_size (by repeat (first | (with_reducible first | exact HB.out | apply below_alloc | apply pw_below_drewN | apply below_drew1) | exact HB.out)))); have n3_ := Aside0.mk (below_step (by repeat (first | (with_reducible first | exact HB.out | apply below_alloc | apply pw_below_drewN | apply below_drew1) | exact HB.out)) hb); clear HO_6; clear HO_9; clear HB; have HO_6 := n0_; have HO_9 := n1_; have HO129 := n2_; have HB := n3_; clear n0_ n1_ n2_ n3_; (try clear hb); (try clear hb2); (try clear hk); (try clear hi); (try clear ho0); obtain ⟨Ao56, co56, eo56⟩ := Kd.R_slice HO129.out; subst eo56) | ((with_reducible refine gate_callee (f := 29) rfl ?_); refine goesL_ (some 81) rfl rfl Try.func29 (by kernel_rfl) rfl #[.slice Ao56 t127.length co56, .int .i64 a1] rfl (by (try simp only [List.map_toArray, List.map_cons, List.map_nil]); first | done | rfl | (simp only [List.length_drop, List.length_take]; rfl)) ?_; (with_reducible refine (impl_ShiftLog.calls kj28 _ _ t127 a1 t130 t131 _ ?side1 ?side2 A51.out).mono ?_); (case side1 => repeat (first | exact (Kd.R_reads' HO129.out).2.2 | (with_reducible refine Kd.C_alloc ?_ _) | (with_reducible refine Kd.C_drewN ?_ _) | (with_reducible refine Kd.C_drew ?_))); (case side2 => exact (Kd.R_reads' HO129.out).2.1); rintro e w57 ⟨v132, rfl, ho0, hb⟩; refine ⟨_, rfl, ?_⟩; have n0_ := Aside0.mk (Kd.R_elder' (by (with_reducible repeat (first | apply Kd.R_alloc | apply Kd.R_drewN | apply Kd.R_drew)); exact HO_6.out) (Kd.R_base ho0) hb); have n1_ := Aside0.mk (Kd.R_elder' (by (with_reducible repeat (first | apply Kd.R_alloc | apply Kd.R_drewN | apply Kd.R_drew)); exact HO_9.out) (Kd.R_base ho0) hb); have n2_ := Aside0.mk (Kd.R_elder' (by (with_reducible repeat (first | apply Kd.R_alloc | apply Kd.R_drewN | apply Kd.R_drew)); exact HO129.out) (Kd.R_base ho0) hb); have n3_ := Aside0.mk (Kd.R_lower (Kd.R_new' (Kd.R_new' (Kd.R_new' ho0 (Kd.R_lt (by (with_reducible repeat (first | apply Kd.R_alloc | apply Kd.R_drewN | apply Kd.R_drew)); exact HO_6.out))) (Kd.R_lt (by (with_reducible repeat (first | apply Kd.R_alloc | apply Kd.R_drewN | apply Kd.R_drew)); exact HO_9.out))) (Kd.R_lt (by (with_reducible repeat (first | apply Kd.R_alloc | apply Kd.R_drewN | apply Kd.R_drew)); exact HO129.out))) (below_size (by repeat (first | (with_reducible first | exact HB.out | apply below_alloc | apply pw_below_drewN | apply below_drew1) | exact HB.out)))); have n4_ := Aside0.mk (below_step (by repeat (first | (with_reducible first | exact HB.out | apply below_alloc | apply pw_below_drewN | apply below_drew1) | exact HB.out)) hb); clear HO_6; clear HO_9; clear HO129; clear HB; have HO_6 := n0_; have HO_9 := n1_; have HO129 := n2_; have HO133 := n3_; have HB := n4_; clear n0_ n1_ n2_ n3_ n4_; (try clear hb); (try clear hb2); (try clear hk); (try clear hi); (try clear ho0)))
                      (try simp only [Act.put, List.setIfInBounds_toArray, List.set_cons_zero, List.set_cons_succ])
                      go_cut [92] (fun v92 wc => ∃ (kq : Nat) (x92_51 : Bool), v92 = .bool x92_51 ∧ Aside0 (laws_FnExactShiftLog.j2 kq t125 t124 x92_51 = some r) ∧ Aside0 (kq ≤ kj28) ∧ Aside0 (Kd.R k73 73 wc w.heap.size (fun _ => True) (.slice Ao53 t112.length co53) t125) ∧ Aside0 (Below w.heap.size w wc))
                      case first =>
                        have H := HC52.out
                        clear HC52
                        replace H := Option.bind_eq_some_iff.mp H
                        obtain ⟨t134, A580, H⟩ := H
                        replace H : (if t134 = true then (laws_FnExactShiftLog.j2 kj28 t125 t124 (t131 != t106)) else (laws_FnExactShiftLog.j2 kj28 t125 t124 true)) = some r := H
                        have A58 := Aside0.mk A580
                        clear A580
                        by_cases c59 : t134 = true
                        · subst c59
                          have H1 : (laws_FnExactShiftLog.j2 kj28 t125 t124 (t131 != t106)) = some r := by rw [if_pos rfl] at H; exact H
                          clear H
                          have H := H1
                          clear H1
                          have H' := Aside0.mk H
                          clear H
                          obtain ⟨Ao60, co60, eo60⟩ := Kd.R_slice HO133.out
                          subst eo60
                          obtain ⟨Ao61, co61, eo61⟩ := Kd.R_slice HO_6.out
                          subst eo61
                          go_wp2_with (first | ((with_reducible refine gate_callee (f := 23) rfl ?_); refine goesL_ (some 86) rfl rfl Try.func23 (by kernel_rfl) rfl #[.slice Ao60 t130.length co60, .slice Ao61 t105.length co61] rfl (by (try simp only [List.map_toArray, List.map_cons, List.map_nil]); first | done | rfl | (simp only [List.length_drop, List.length_take]; rfl)) ?_; (with_reducible refine (laws_eqLog.calls kj28 _ _ t130 _ _ t105 true _ ?side1 ?side2 ?side3 ?side4 A58.out).mono ?_); (case side1 => repeat (first | exact (Kd.R_reads' HO133.out).2.2 | (with_reducible refine Kd.C_alloc ?_ _) | (with_reducible refine Kd.C_drewN ?_ _) | (with_reducible refine Kd.C_drew ?_))); (case side2 => exact (Kd.R_reads' HO133.out).2.1); (case side3 => repeat (first | exact (Kd.R_reads' HO_6.out).2.2 | (with_reducible refine Kd.C_alloc ?_ _) | (with_reducible refine Kd.C_drewN ?_ _) | (with_reducible refine Kd.C_drew ?_))); (case side4 => exact (Kd.R_reads' HO_6.out).2.1); rintro e w62 ⟨rfl, hb⟩; refine ⟨_, rfl, ?_⟩; have n0_ := Aside0.mk (Kd.R_below (by (with_reducible repeat (first | apply Kd.R_alloc | apply Kd.R_drewN | apply Kd.R_drew)); exact HO_6.out) hb); have n1_ := Aside0.mk (Kd.R_below (by (with_reducible repeat (first | apply Kd.R_alloc | apply Kd.R_drewN | apply Kd.R_drew)); exact HO_9.out) hb); have n2_ := Aside0.mk (Kd.R_below (by (with_reducible repeat (first | apply Kd.R_alloc | apply Kd.R_drewN | apply Kd.R_drew)); exact HO129.out) hb); have n3_ := Aside0.mk (Kd.R_below (by (with_reducible repeat (first | apply Kd.R_alloc | apply Kd.R_drewN | apply Kd.R_drew)); exact HO133.out) hb); have n4_ := Aside0.mk (below_step (by repeat (first | (with_reducible first | exact HB.out | apply below_alloc | apply pw_below_drewN | apply below_drew1) | exact HB.out)) hb); clear HO_6; clear HO_9; clear HO129; clear HO133; clear HB; have HO_6 := n0_; have HO_9 := n1_; have HO129 := n2_; have HO133 := n3_; have HB := n4_; clear n0_ n1_ n2_ n3_ n4_; (try clear hb); (try clear hb2); (try clear hk); (try clear hi)))
                          go_meet
                          case rel => exact ⟨_, ((t131 != t106)), (by first | rfl | (simp only [IntKind.wrap_i64, wrap64]; done) | (simp; done) | (simp [*]; done)), H', ⟨by have := HJ8.out; have := HJ28.out; first | omega | exact Nat.le_refl _⟩, ⟨by (with_reducible repeat (first | apply Kd.R_alloc | apply Kd.R_drewN | apply Kd.R_drew)); exact Kd.R_mono HO_9.out (fun _ hk => trivial)⟩, ⟨by repeat (first | (with_reducible first | exact HB.out | apply below_alloc | apply pw_below_drewN | apply below_drew1) | exact HB.out)⟩⟩
                        · replace c59 := Bool.eq_false_iff.mpr c59
                          subst c59
                          have H1 : (laws_FnExactShiftLog.j2 kj28 t125 t124 true) = some r := by rw [if_neg (show ¬ (false = true) by decide)] at H; exact H
                          clear H
                          have H := H1
                          clear H1
                          have H' := Aside0.mk H
                          clear H
                          obtain ⟨Ao63, co63, eo63⟩ := Kd.R_slice HO133.out
                          subst eo63
                          obtain ⟨Ao64, co64, eo64⟩ := Kd.R_slice HO_6.out
                          subst eo64
                          go_wp2_with (first | ((with_reducible refine gate_callee (f := 23) rfl ?_); refine goesL_ (some 86) rfl rfl Try.func23 (by kernel_rfl) rfl #[.slice Ao63 t130.length co63, .slice Ao64 t105.length co64] rfl (by (try simp only [List.map_toArray, List.map_cons, List.map_nil]); first | done | rfl | (simp only [List.length_drop, List.length_take]; rfl)) ?_; (with_reducible refine (laws_eqLog.calls kj28 _ _ t130 _ _ t105 false _ ?side1 ?side2 ?side3 ?side4 A58.out).mono ?_); (case side1 => repeat (first | exact (Kd.R_reads' HO133.out).2.2 | (with_reducible refine Kd.C_alloc ?_ _) | (with_reducible refine Kd.C_drewN ?_ _) | (with_reducible refine Kd.C_drew ?_))); (case side2 => exact (Kd.R_reads' HO133.out).2.1); (case side3 => repeat (first | exact (Kd.R_reads' HO_6.out).2.2 | (with_reducible refine Kd.C_alloc ?_ _) | (with_reducible refine Kd.C_drewN ?_ _) | (with_reducible refine Kd.C_drew ?_))); (case side4 => exact (Kd.R_reads' HO_6.out).2.1); rintro e w65 ⟨rfl, hb⟩; refine ⟨_, rfl, ?_⟩; have n0_ := Aside0.mk (Kd.R_below (by (with_reducible repeat (first | apply Kd.R_alloc | apply Kd.R_drewN | apply Kd.R_drew)); exact HO_6.out) hb); have n1_ := Aside0.mk (Kd.R_below (by (with_reducible repeat (first | apply Kd.R_alloc | apply Kd.R_drewN | apply Kd.R_drew)); exact HO_9.out) hb); have n2_ := Aside0.mk (Kd.R_below (by (with_reducible repeat (first | apply Kd.R_alloc | apply Kd.R_drewN | apply Kd.R_drew)); exact HO129.out) hb); have n3_ := Aside0.mk (Kd.R_below (by (with_reducible repeat (first | apply Kd.R_alloc | apply Kd.R_drewN | apply Kd.R_drew)); exact HO133.out) hb); have n4_ := Aside0.mk (below_step (by repeat (first | (with_reducible first | exact HB.out | apply below_alloc | apply pw_below_drewN | apply below_drew1) | exact HB.out)) hb); clear HO_6; clear HO_9; clear HO129; clear HO133; clear HB; have HO_6 := n0_; have HO_9 := n1_; have HO129 := n2_; have HO133 := n3_; have HB := n4_; clear n0_ n1_ n2_ n3_ n4_; (try clear hb); (try clear hb2); (try clear hk); (try clear hi)))
                          go_meet
                          case rel => exact ⟨_, (true), (by first | rfl | (simp only [IntKind.wrap_i64, wrap64]; done) | (simp; done) | (simp [*]; done)), H', ⟨by have := HJ8.out; have := HJ28.out; first | omega | exact Nat.le_refl _⟩, ⟨by (with_reducible repeat (first | apply Kd.R_alloc | apply Kd.R_drewN | apply Kd.R_drew)); exact Kd.R_mono HO_9.out (fun _ hk => trivial)⟩, ⟨by repeat (first | (with_reducible first | exact HB.out | apply below_alloc | apply pw_below_drewN | apply below_drew1) | exact HB.out)⟩⟩
                      case rest =>
                        clear HC52
                        try clear c1
                        try clear c2
                        try clear p2
                        try clear c3
                        try clear c4
                        try clear c4b0
                        try clear c5
                        try clear c6
                        try clear c17
                        try clear c19
                        try clear c21
                        try clear c23
                        try clear c24
                        try clear c27
                        try clear c28
                        try clear c29
                        try clear c30
                        try clear c31
                        try clear c34
                        try clear c34b0
                        try clear c36
                        try clear c43
                        try clear c46
                        try clear c46b0
                        try clear c49
                        try clear c49b0
                        try clear c49b1
                        try clear c59
                        try clear p2
                        obtain ⟨kq, x92_51, rfl, HA, HJ51, HO_9, HB⟩ := hcut
                        have hl9_51 := (Kd.R_reads' HO_9.out).1
                        rw [hl9_51] at HO_9
                        (try simp only [hl9_51])
                        cases kq with
                        | zero => exact absurd HA.out (by simp [laws_FnExactShiftLog.j2])
                        | succ kj51 =>
                          have H := HA.out
                          clear HA
                          simp only [laws_FnExactShiftLog.j2] at H
                          by_cases c66 : x92_51 = true
                          · subst c66
                            have H1 : (some false) = some r := by rw [if_pos rfl] at H; exact H
                            clear H
                            have H := H1
                            clear H1
                            obtain rfl := Option.some.inj H
                            go_wp2
                            go_ret
                            exact ⟨by first | rfl | (simp [errW_none, errW_some, IntKind.wrap_i64, wrap64]; done) | (simp [errW_none, errW_some] <;> rfl) | (simp [*, errW_none, errW_some] <;> rfl), by repeat (first | (with_reducible first | exact HB.out | apply below_alloc | apply pw_below_drewN | apply below_drew1) | exact HB.out)⟩
                          · replace c66 := Bool.eq_false_iff.mpr c66
                            subst c66
                            have H1 : ((laws_heldLog.f kj51 t125 1).bind fun t135 => (if t135 < 0 then (some false) else (if t135 = t124 then (some true) else (some false)))) = some r := by rw [if_neg (show ¬ (false = true) by decide)] at H; exact H
                            clear H
                            have H := H1
                            clear H1
                            replace H := Option.bind_eq_some_iff.mp H
                            obtain ⟨t135, A670, H⟩ := H
                            replace H : (if t135 < 0 then (some false) else (if t135 = t124 then (some true) else (some false))) = some r := H
                            have A67 := Aside0.mk A670
                            clear A670
                            by_cases c68 : t135 < 0
                            · rw [if_pos c68] at H
                              have c68b0 : decide (t135 < 0) = true := decide_eq_true c68
                              clear c68
                              obtain rfl := Option.some.inj H
                              go_wp2_with (first | ((with_reducible refine gate_callee (f := 31) rfl ?_); refine goesL_ (some 95) rfl rfl Try.func31 (by kernel_rfl) rfl #[.slice Ao53 t125.length co53, .int .i64 1] rfl (by (try simp only [List.map_toArray, List.map_cons, List.map_nil]); first | done | rfl | (simp only [List.length_drop, List.length_take]; rfl)) ?_; (with_reducible refine (laws_heldLog.calls kj51 _ _ t125 1 t135 _ ?side1 ?side2 A67.out).mono ?_); (case side1 => repeat (first | exact (Kd.R_reads' HO_9.out).2.2 | (with_reducible refine Kd.C_alloc ?_ _) | (with_reducible refine Kd.C_drewN ?_ _) | (with_reducible refine Kd.C_drew ?_))); (case side2 => exact (Kd.R_reads' HO_9.out).2.1); rintro e w' ⟨rfl, ⟨nd, rfl⟩⟩; refine ⟨_, rfl, ?_⟩))
                              go_ret
                              exact ⟨by first | rfl | (simp [errW_none, errW_some, IntKind.wrap_i64, wrap64]; done) | (simp [errW_none, errW_some] <;> rfl) | (simp [*, errW_none, errW_some] <;> rfl), by repeat (first | (with_reducible first | exact HB.out | apply below_alloc | apply pw_below_drewN | apply below_drew1) | exact HB.out)⟩
                            · rw [if_neg c68] at H
                              have c68b0 : decide (t135 < 0) = false := decide_eq_false c68
                              clear c68
                              by_cases c69 : t135 = t124
                              · rw [if_pos c69] at H
                                have c69b0 : (t135 == t124) = true := beq_iff_eq.mpr c69
                                have c69b1 : (t135 != t124) = false := bne_eq_false_iff_eq.mpr c69
                                clear c69
                                obtain rfl := Option.some.inj H
                                go_wp2_with (first | ((with_reducible refine gate_callee (f := 31) rfl ?_); refine goesL_ (some 95) rfl rfl Try.func31 (by kernel_rfl) rfl #[.slice Ao53 t125.length co53, .int .i64 1] rfl (by (try simp only [List.map_toArray, List.map_cons, List.map_nil]); first | done | rfl | (simp only [List.length_drop, List.length_take]; rfl)) ?_; (with_reducible refine (laws_heldLog.calls kj51 _ _ t125 1 t135 _ ?side1 ?side2 A67.out).mono ?_); (case side1 => repeat (first | exact (Kd.R_reads' HO_9.out).2.2 | (with_reducible refine Kd.C_alloc ?_ _) | (with_reducible refine Kd.C_drewN ?_ _) | (with_reducible refine Kd.C_drew ?_))); (case side2 => exact (Kd.R_reads' HO_9.out).2.1); rintro e w' ⟨rfl, ⟨nd, rfl⟩⟩; refine ⟨_, rfl, ?_⟩))
                                go_ret
                                exact ⟨by first | rfl | (simp [errW_none, errW_some, IntKind.wrap_i64, wrap64]; done) | (simp [errW_none, errW_some] <;> rfl) | (simp [*, errW_none, errW_some] <;> rfl), by repeat (first | (with_reducible first | exact HB.out | apply below_alloc | apply pw_below_drewN | apply below_drew1) | exact HB.out)⟩
                              · rw [if_neg c69] at H
                                have c69b0 : (t135 == t124) = false := beq_eq_false_iff_ne.mpr c69
                                have c69b1 : (t135 != t124) = true := bne_iff_ne.mpr c69
                                obtain rfl := Option.some.inj H
                                go_wp2_with (first | ((with_reducible refine gate_callee (f := 31) rfl ?_); refine goesL_ (some 95) rfl rfl Try.func31 (by kernel_rfl) rfl #[.slice Ao53 t125.length co53, .int .i64 1] rfl (by (try simp only [List.map_toArray, List.map_cons, List.map_nil]); first | done | rfl | (simp only [List.length_drop, List.length_take]; rfl)) ?_; (with_reducible refine (laws_heldLog.calls kj51 _ _ t125 1 t135 _ ?side1 ?side2 A67.out).mono ?_); (case side1 => repeat (first | exact (Kd.R_reads' HO_9.out).2.2 | (with_reducible refine Kd.C_alloc ?_ _) | (with_reducible refine Kd.C_drewN ?_ _) | (with_reducible refine Kd.C_drew ?_))); (case side2 => exact (Kd.R_reads' HO_9.out).2.1); rintro e w' ⟨rfl, ⟨nd, rfl⟩⟩; refine ⟨_, rfl, ?_⟩))
                                go_ret
                                exact ⟨by first | rfl | (simp [errW_none, errW_some, IntKind.wrap_i64, wrap64]; done) | (simp [errW_none, errW_some] <;> rfl) | (simp [*, errW_none, errW_some] <;> rfl), by repeat (first | (with_reducible first | exact HB.out | apply below_alloc | apply pw_below_drewN | apply below_drew1) | exact HB.out)⟩
                    · rw [if_neg c49] at H
                      have c49b0 : (t126 == t124) = false := beq_eq_false_iff_ne.mpr c49
                      have c49b1 : (t126 != t124) = true := bne_iff_ne.mpr c49
                      obtain rfl := Option.some.inj H
                      obtain ⟨Ao70, co70, eo70⟩ := Kd.R_slice HO_9.out
                      subst eo70
                      go_wp2_with (first | ((with_reducible refine gate_callee (f := 30) rfl ?_); refine goesL_ (some 68) rfl rfl Try.func30 (by kernel_rfl) rfl #[.slice Ao70 t112.length co70, .int .i64 1] rfl (by (try simp only [List.map_toArray, List.map_cons, List.map_nil]); first | done | rfl | (simp only [List.length_drop, List.length_take]; rfl)) ?_; (with_reducible refine (laws_markLog.calls kj28 (fun k_ => some k_ = (.slice Ao70 t112.length co70 : Value).ownBlock) (.slice Ao70 t112.length co70) t112 1 t124 t125 w _ ?side1 ?side2 A44.out).mono ?_); (case side1 => repeat (first | (with_reducible first | exact HB.out | apply below_alloc | apply pw_below_drewN | apply below_drew1) | exact HB.out)); (case side2 => exact Kd.R_tight rfl HO_9.out); rintro e w71 ⟨rfl, hy0, hb, hkp⟩; refine ⟨_, rfl, ?_⟩; have n0_ := Aside0.mk (Kd.R_mono (ok' := fun k_ => some k_ ≠ (.slice Ao70 t112.length co70 : Value).ownBlock) (Kd.R_keptB (HO_6.out) hkp (fun k_ hk_ hs_ => (hk_) hs_)) (fun k_ hk_ => hk_.1)); have n1_ := Aside0.mk (Kd.R_reok rfl hy0 (fun k_ e_ => HO_9.out.1 k_ e_)); have n2_ := Aside0.mk (hb); clear HO_6; clear HO_9; clear HB; have HO_6 := n0_; have HO_9 := n1_; have HB := n2_; clear n0_ n1_ n2_; (try clear hb); (try clear hkp); (try clear hy0)) | ((with_reducible refine gate_callee (f := 31) rfl ?_); refine goesL_ (some 71) rfl rfl Try.func31 (by kernel_rfl) rfl #[.slice Ao70 t125.length co70, .int .i64 1] rfl (by (try simp only [List.map_toArray, List.map_cons, List.map_nil]); first | done | (rw [show t125.length = t112.length from (Kd.R_reads' HO_9.out).1.symm] <;> rfl) | rfl | (simp only [List.length_drop, List.length_take]; rfl)) ?_; (with_reducible refine (laws_heldLog.calls kj28 _ _ t125 1 t126 _ ?side1 ?side2 A45.out).mono ?_); (case side1 => repeat (first | exact (Kd.R_reads' HO_9.out).2.2 | (with_reducible refine Kd.C_alloc ?_ _) | (with_reducible refine Kd.C_drewN ?_ _) | (with_reducible refine Kd.C_drew ?_))); (case side2 => rw [show t125.length = t112.length from (Kd.R_reads' HO_9.out).1.symm]; exact (Kd.R_reads' HO_9.out).2.1); rintro e w' ⟨rfl, ⟨nd, rfl⟩⟩; refine ⟨_, rfl, ?_⟩))
                      go_ret
                      exact ⟨by first | rfl | (simp [errW_none, errW_some, IntKind.wrap_i64, wrap64]; done) | (simp [errW_none, errW_some] <;> rfl) | (simp [*, errW_none, errW_some] <;> rfl), by repeat (first | (with_reducible first | exact HB.out | apply below_alloc | apply pw_below_drewN | apply below_drew1) | exact HB.out)⟩
          · replace c27 := Bool.eq_false_iff.mpr c27
            subst c27
            have H1 : (some false) = some r := by rw [if_neg (show ¬ (false = true) by decide)] at H; exact H
            clear H
            have H := H1
            clear H1
            obtain rfl := Option.some.inj H
            go_wp2_with (first | ((with_reducible refine gate_callee (f := 21) rfl ?_); refine goesL_ (some 47) rfl rfl Try.func21 (by kernel_rfl) rfl #[.slice A0 l0.length c0] rfl (by (try simp only [List.map_toArray, List.map_cons, List.map_nil]); first | done | rfl | (simp only [List.length_drop, List.length_take]; rfl)) ?_; (with_reducible refine (laws_toLog.calls kj8 _ _ l0 t117 _ ?side1 ?side2 A25.out).mono ?_); (case side1 => repeat (first | exact (Kd.C_below HR0.out HB.out) | (with_reducible refine Kd.C_alloc ?_ _) | (with_reducible refine Kd.C_drewN ?_ _) | (with_reducible refine Kd.C_drew ?_))); (case side2 => exact HC0.out); rintro e w72 ⟨v118, rfl, ho0, hb⟩; refine ⟨_, rfl, ?_⟩; have n0_ := Aside0.mk (Kd.R_elder' (by (with_reducible repeat (first | apply Kd.R_alloc | apply Kd.R_drewN | apply Kd.R_drew)); exact HO_6.out) (Kd.R_base ho0) hb); have n1_ := Aside0.mk (Kd.R_elder' (by (with_reducible repeat (first | apply Kd.R_alloc | apply Kd.R_drewN | apply Kd.R_drew)); exact HO_8.out) (Kd.R_base ho0) hb); have n2_ := Aside0.mk (Kd.R_elder' (by (with_reducible repeat (first | apply Kd.R_alloc | apply Kd.R_drewN | apply Kd.R_drew)); exact HO_9.out) (Kd.R_base ho0) hb); have n3_ := Aside0.mk (Kd.R_lower (Kd.R_new' (Kd.R_new' (Kd.R_new' ho0 (Kd.R_lt (by (with_reducible repeat (first | apply Kd.R_alloc | apply Kd.R_drewN | apply Kd.R_drew)); exact HO_6.out))) (Kd.R_lt (by (with_reducible repeat (first | apply Kd.R_alloc | apply Kd.R_drewN | apply Kd.R_drew)); exact HO_8.out))) (Kd.R_lt (by (with_reducible repeat (first | apply Kd.R_alloc | apply Kd.R_drewN | apply Kd.R_drew)); exact HO_9.out))) (below_size (by repeat (first | (with_reducible first | exact HB.out | apply below_alloc | apply pw_below_drewN | apply below_drew1) | exact HB.out)))); have n4_ := Aside0.mk (below_step (by repeat (first | (with_reducible first | exact HB.out | apply below_alloc | apply pw_below_drewN | apply below_drew1) | exact HB.out)) hb); clear HO_6; clear HO_8; clear HO_9; clear HB; have HO_6 := n0_; have HO_8 := n1_; have HO_9 := n2_; have HO119 := n3_; have HB := n4_; clear n0_ n1_ n2_ n3_ n4_; (try clear hb); (try clear hb2); (try clear hk); (try clear hi); (try clear ho0); obtain ⟨Ao73, co73, eo73⟩ := Kd.R_slice HO119.out; subst eo73) | ((with_reducible refine gate_callee (f := 23) rfl ?_); refine goesL_ (some 48) rfl rfl Try.func23 (by kernel_rfl) rfl #[.slice Ao14 t109.length co14, .slice Ao73 t117.length co73] rfl (by (try simp only [List.map_toArray, List.map_cons, List.map_nil]); first | done | rfl | (simp only [List.length_drop, List.length_take]; rfl)) ?_; (with_reducible refine (laws_eqLog.calls kj8 _ _ t109 _ _ t117 false _ ?side1 ?side2 ?side3 ?side4 A26.out).mono ?_); (case side1 => repeat (first | exact (Kd.R_reads' HO_8.out).2.2 | (with_reducible refine Kd.C_alloc ?_ _) | (with_reducible refine Kd.C_drewN ?_ _) | (with_reducible refine Kd.C_drew ?_))); (case side2 => exact (Kd.R_reads' HO_8.out).2.1); (case side3 => repeat (first | exact (Kd.R_reads' HO119.out).2.2 | (with_reducible refine Kd.C_alloc ?_ _) | (with_reducible refine Kd.C_drewN ?_ _) | (with_reducible refine Kd.C_drew ?_))); (case side4 => exact (Kd.R_reads' HO119.out).2.1); rintro e w74 ⟨rfl, hb⟩; refine ⟨_, rfl, ?_⟩; have n0_ := Aside0.mk (Kd.R_below (by (with_reducible repeat (first | apply Kd.R_alloc | apply Kd.R_drewN | apply Kd.R_drew)); exact HO_6.out) hb); have n1_ := Aside0.mk (Kd.R_below (by (with_reducible repeat (first | apply Kd.R_alloc | apply Kd.R_drewN | apply Kd.R_drew)); exact HO_8.out) hb); have n2_ := Aside0.mk (Kd.R_below (by (with_reducible repeat (first | apply Kd.R_alloc | apply Kd.R_drewN | apply Kd.R_drew)); exact HO_9.out) hb); have n3_ := Aside0.mk (Kd.R_below (by (with_reducible repeat (first | apply Kd.R_alloc | apply Kd.R_drewN | apply Kd.R_drew)); exact HO119.out) hb); have n4_ := Aside0.mk (below_step (by repeat (first | (with_reducible first | exact HB.out | apply below_alloc | apply pw_below_drewN | apply below_drew1) | exact HB.out)) hb); clear HO_6; clear HO_8; clear HO_9; clear HO119; clear HB; have HO_6 := n0_; have HO_8 := n1_; have HO_9 := n2_; have HO119 := n3_; have HB := n4_; clear n0_ n1_ n2_ n3_ n4_; (try clear hb); (try clear hb2); (try clear hk); (try clear hi)))
            go_ret
            exact ⟨by first | rfl | (simp [errW_none, errW_some, IntKind.wrap_i64, wrap64]; done) | (simp [errW_none, errW_some] <;> rfl) | (simp [*, errW_none, errW_some] <;> rfl), by repeat (first | (with_reducible first | exact HB.out | apply below_alloc | apply pw_below_drewN | apply below_drew1) | exact HB.out)⟩

end Go.Proofs.Ytidkniacmcbgiaa.G
end

section
namespace Go.Proofs.Ytidkniacmcbgiaa.G
open Go.RowKit Go.Proofs.YtidkniacmcbgiaaW.PrintWords Go.Proofs.YtidkniacmcbgiaaW.PrintLast Go.Proofs.YtidkniacmcbgiaaW.PrintMore
attribute [local go_sem] max2_int min2_int max_two min_two max_three min_three max_four min_four
set_option linter.unusedVariables false
set_option linter.unusedSimpArgs false

/-! Values that are read as data are values of a kind. -/
open Go.ChangeShapes Go.WideShapes Go.Deep in
/-- A value of type t that reads as data is a value of kind d, and keeps to Wf. -/
structure Opens {α : Type} (P : Program) (t : TypeId) (d : Kd α) (Wf : α → Prop) : Prop where
  sz : P.cellsOf t = d.sz
  op : ∀ {H : Type} {enc : TypeId × Value → H} {w : World} {base : Nat} {spare : Nat → Bool} {held : Bool} {fuel : Nat} {cs : List Value} {x : DataW H × List MemPlace}, DataW.trod enc P w base spare held fuel t cs = some x → ∃ a : α, d.K w a cs ∧ Wf a
theorem opens_int {P : Program} {t : TypeId} {k : IntKind} (ht : P.underlying t = some (.int k)) (hC : P.cellsOf t = 1) : Opens P t (Kd.int k) (fun n => (Lit.int k n).wf = true) where
  sz := hC
  op := fun h => by
    obtain ⟨n, rfl, _, hw⟩ := DataW.trod_int ht h
    exact ⟨n, rfl, hw⟩
theorem opens_bool {P : Program} {t : TypeId} (ht : P.underlying t = some .bool) (hC : P.cellsOf t = 1) : Opens P t Kd.bool (fun _ => True) where
  sz := hC
  op := fun h => by
    obtain ⟨n, rfl, _⟩ := DataW.trod_bool ht h
    exact ⟨n, rfl, trivial⟩
theorem opens_string {P : Program} {t : TypeId} (ht : P.underlying t = some .string) (hC : P.cellsOf t = 1) : Opens P t Kd.string (fun s => s.size ≤ maxLen) where
  sz := hC
  op := fun h => by
    obtain ⟨n, rfl, _, hw⟩ := DataW.trod_string ht h
    exact ⟨n, rfl, hw⟩
theorem list_of {α : Type} {Q : Nat → α → Prop} : ∀ n, (∀ i, i < n → ∃ y, Q i y) → ∃ l : List α, l.length = n ∧ ∀ i y, l[i]? = some y → Q i y
  | 0, _ => ⟨[], rfl, fun i y h => by simp at h⟩
  | n + 1, h => by
    obtain ⟨l, hl, hq⟩ := list_of n (fun i hi => h i (by omega))
    obtain ⟨y, hy⟩ := h n (by omega)
    refine ⟨l ++ [y], by simp [hl], fun i z hz => ?_⟩
    rcases Nat.lt_or_ge i l.length with hi | hi
    · rw [List.getElem?_append_left hi] at hz
      exact hq i z hz
    · rw [List.getElem?_append_right hi] at hz
      have : i - l.length = 0 := by
        rcases Nat.eq_zero_or_pos (i - l.length) with h0 | h0
        · exact h0
        · rw [List.getElem?_eq_none (by simp; omega)] at hz
          cases hz
      rw [this] at hz
      have e : y = z := by simpa using hz
      subst e
      have : i = n := by omega
      subst this
      exact hy
theorem opens_slice {α : Type} {P : Program} {t e : TypeId} {d : Kd α} {Wf : α → Prop} (ht : P.underlying t = some (.slice e)) (hC : P.cellsOf t = 1) (he : Opens P e d Wf) : Opens P t (Kd.slice e d) (fun l => ∀ x ∈ l, Wf x) where
  sz := hC
  op := fun {H enc w base spare held fuel cs x} h => by
    rcases Go.Deep.open_slice ht h with ⟨rfl, _⟩ | ⟨a, len, cap, m, n, D, Pl, rfl, hb, hl, hm, hmm, _, hi⟩
    · exact ⟨[], ⟨none, 0, rfl, Nat.le_refl _, rfl, by simp, fun h => absurd h (by simp)⟩, by simp⟩
    · have hlen : len ≤ m := by rw [hmm]; split <;> omega
      obtain ⟨l, hll, hq⟩ := list_of (Q := fun i y => (∃ c, c.length = d.sz ∧ d.K w y c ∧ ∀ j u, c[j]? = some u → w.cell? (a.add (i * d.sz + j)) = some u) ∧ Wf y) len (fun i him => by
        obtain ⟨cs', hc, ht'⟩ := hi i (by omega)
        obtain ⟨y, hK, hW⟩ := he.op ht'
        obtain ⟨_, hcl, hat⟩ := World.cells?_some hc
        refine ⟨y, ⟨cs', d.K_len hK, hK, fun j u hu => ?_⟩, hW⟩
        have hj : j < cs'.length := (List.getElem?_eq_some_iff.1 hu).1
        have h1 := hat j (by rw [he.sz, ← d.K_len hK]; exact hj)
        rw [← he.sz, ← Go.Deep.add_add, h1, hu])
      refine ⟨l, ⟨some a, cap, by rw [hll], by rw [hll]; exact hl, rfl, by rw [hll]; have := hm; unfold maxLen at this; omega, fun _ => ⟨a, rfl, fun j p hj => (hq j p hj).1⟩⟩, fun y hy => ?_⟩
      obtain ⟨j, hj, rfl⟩ := List.mem_iff_getElem.1 hy
      exact (hq j _ (List.getElem?_eq_getElem hj)).2
/-- Where field i begins, counted in cells. -/
def offs (P : Program) : List TypeId → Nat → Nat
  | [], _ => 0
  | _ :: _, 0 => 0
  | t :: ts, i + 1 => P.cellsOf t + offs P ts i
/-- Fields one behind the other. -/
def OpensF {α : Type} (P : Program) (ts : List TypeId) (d : Kd α) (Wf : α → Prop) : Prop :=
  ∀ {H : Type} {enc : TypeId × Value → H} {w : World} {base : Nat} {spare : Nat → Bool} {held : Bool} {n : Nat} {cs : List Value}, cs.length = d.sz → (∀ i t, ts[i]? = some t → ∃ x, DataW.trod enc P w base spare held n t ((cs.drop (offs P ts i)).take (P.cellsOf t)) = some x) → ∃ a : α, d.K w a cs ∧ Wf a
theorem opensF_one {α : Type} {P : Program} {t : TypeId} {d : Kd α} {Wf : α → Prop} (h : Opens P t d Wf) : OpensF P [t] d Wf := fun {H enc w base spare held n cs} hl hf => by
  obtain ⟨x, hx⟩ := hf 0 t rfl
  simp only [offs, List.drop_zero] at hx
  rw [List.take_of_length_le (by rw [hl, h.sz]; exact Nat.le_refl _)] at hx
  exact h.op hx
theorem opensF_cons {α β : Type} {P : Program} {t : TypeId} {ts : List TypeId} {d : Kd α} {d' : Kd β} {Wf : α → Prop} {Wf' : β → Prop} (h : Opens P t d Wf) (h' : OpensF P ts d' Wf') : OpensF P (t :: ts) (Kd.pair d d') (fun x => Wf x.1 ∧ Wf' x.2) := fun {H enc w base spare held n cs} hl hf => by
  have hl' : cs.length = d.sz + d'.sz := hl
  obtain ⟨x, hx⟩ := hf 0 t rfl
  simp only [offs, List.drop_zero] at hx
  obtain ⟨a, hK, hW⟩ := h.op hx
  obtain ⟨b, hK', hW'⟩ := h' (enc := enc) (w := w) (base := base) (spare := spare) (held := held) (n := n) (cs := cs.drop d.sz) (by rw [List.length_drop, hl']; omega) (fun i t' ht' => by
    obtain ⟨y, hy⟩ := hf (i + 1) t' (by simpa using ht')
    refine ⟨y, ?_⟩
    rw [List.drop_drop]
    simpa only [offs, h.sz] using hy)
  refine ⟨(a, b), ⟨_, _, (List.take_append_drop d.sz cs).symm, ?_, hK'⟩, hW, hW'⟩
  rw [← h.sz]
  exact hK
theorem opens_struct {α β : Type} {P : Program} {t : TypeId} {fs : Array Field} {d : Kd α} {Wf : α → Prop} (f : β → α) (g : α → β) (hfg : ∀ a, f (g a) = a) (ht : P.underlying t = some (.struct fs)) (hC : P.cellsOf t = d.sz)
    (ho : ((List.range fs.size).all fun i => decide ((fs[i]?.map Field.offset) = some (offs P (fs.toList.map Field.type) i))) = true) (h : OpensF P (fs.toList.map Field.type) d Wf) : Opens P t (Kd.iso d f) (fun x => Wf (f x)) where
  sz := hC
  op := fun {H enc w base spare held fuel cs x} hx => by
    obtain ⟨xs, n, _, _, hlen, hxl, hf⟩ := DataW.trod_struct ht hx
    obtain ⟨a, hK, hW⟩ := h (enc := enc) (w := w) (base := base) (spare := spare) (held := held) (n := n) (cs := cs) (by rw [hlen, hC]) (fun i t' ht' => by
      have hi : i < fs.size := by
        have := (List.getElem?_eq_some_iff.1 ht').1
        simpa using this
      have e : fs[i]? = some fs[i] := Array.getElem?_eq_getElem hi
      have et : fs[i].type = t' := by
        rw [List.getElem?_map] at ht'
        have : fs.toList[i]? = some fs[i] := by simp [hi]
        rw [this] at ht'
        simpa using ht'
      have eo := of_decide_eq_true (List.all_eq_true.1 ho i (List.mem_range.2 hi))
      rw [e] at eo
      have eo' : fs[i].offset = offs P (fs.toList.map Field.type) i := by simpa using eo
      have h1 := hf i fs[i] e
      rw [et, eo'] at h1
      exact ⟨_, h1.trans (List.getElem?_eq_getElem (show i < xs.length by omega))⟩)
    exact ⟨g a, by show d.K w (f (g a)) cs; rw [hfg]; exact hK, by show Wf (f (g a)); rw [hfg]; exact hW⟩

theorem op2 : Opens Try.prog 2 (Kd.int .i64) (fun x : Int => (Lit.int .i64 x).wf = true) := opens_int (k := .i64) Try.underlying2 (by kernel_rfl)
theorem op4 : Opens Try.prog 4 Kd.bool (fun x : Bool => True) := opens_bool Try.underlying4 (by kernel_rfl)
theorem op75 : Opens Try.prog 75 k75 (fun x : S75 => (Lit.int .i64 x.f0).wf = true ∧ (Lit.int .i64 x.f1).wf = true ∧ True) := opens_struct (fun x : S75 => (x.f0, x.f1, x.f2)) (fun a => ⟨a.1, a.2.1, a.2.2⟩) (fun _ => rfl) Try.underlying75 (by kernel_rfl) (by kernel_rfl) (opensF_cons op2 (opensF_cons op2 (opensF_one op4)))
theorem op22 : Opens Try.prog 22 (Kd.slice 75 k75) (fun x : List (S75) => (∀ x_ ∈ x, (Lit.int .i64 x_.f0).wf = true ∧ (Lit.int .i64 x_.f1).wf = true ∧ True)) := opens_slice Try.underlying22 (by kernel_rfl) op75
theorem op103 : Opens Try.prog 103 k103 (fun x : S103 => (Lit.int .i64 x.f0).wf = true ∧ (Lit.int .i64 x.f1).wf = true) := opens_struct (fun x : S103 => (x.f0, x.f1)) (fun a => ⟨a.1, a.2⟩) (fun _ => rfl) Try.underlying103 (by kernel_rfl) (by kernel_rfl) (opensF_cons op2 (opensF_one op2))
theorem op49 : Opens Try.prog 49 (Kd.slice 103 k103) (fun x : List (S103) => (∀ x_ ∈ x, (Lit.int .i64 x_.f0).wf = true ∧ (Lit.int .i64 x_.f1).wf = true)) := opens_slice Try.underlying49 (by kernel_rfl) op103
end Go.Proofs.Ytidkniacmcbgiaa.G
end

section
namespace Go.Proofs.Ytidkniacmcbgiaa.G.Pure
open Go.RowKit Go.Proofs.Ytidkniacmcbgiaa.G Go.Proofs.YtidkniacmcbgiaaW.PrintWords Go.Proofs.YtidkniacmcbgiaaW.PrintLast Go.Proofs.YtidkniacmcbgiaaW.PrintMore
set_option linter.unusedVariables false
set_option linter.unusedSimpArgs false
/-! Plain lemmas on numbers, lists and loops with rounds. -/
theorem w64 {n : Int} (h0 : -9223372036854775808 ≤ n) (h1 : n ≤ 9223372036854775807) : wrap64 n = n := by
  unfold wrap64
  omega
theorem i8b {n : Int} (h : (Lit.int .i8 n).wf = true) : -128 ≤ n ∧ n ≤ 127 := by
  simp [Lit.wf, IntKind.min, IntKind.max, IntKind.signed, IntKind.bits] at h
  omega
theorem i64b {n : Int} (h : (Lit.int .i64 n).wf = true) : -9223372036854775808 ≤ n ∧ n ≤ 9223372036854775807 := by
  simp [Lit.wf, IntKind.min, IntKind.max, IntKind.signed, IntKind.bits] at h
  omega
theorem i8w {n : Int} (h0 : -128 ≤ n) (h1 : n ≤ 127) : IntKind.i8.wrap n = n := by
  simp only [IntKind.wrap, IntKind.signed, IntKind.bits]
  simp
  omega
/-- A loop with an invariant: what it comes to. -/
theorem loop_inv {σ γ : Type} (L : Nat → σ → Option γ) (n : Nat) (I : Nat → σ → Prop) (R : γ → Prop)
    (hs : ∀ k i s, i < n → I i s → (∃ s', I (i + 1) s' ∧ L (k + 1) s = L k s') ∨ (∃ r, R r ∧ L (k + 1) s = some r))
    (he : ∀ k s, I n s → ∃ r, R r ∧ L (k + 1) s = some r) : ∀ k s, I 0 s → n < k → ∃ r, R r ∧ L k s = some r := by
  have go : ∀ d i k s, i + d = n → I i s → d < k → ∃ r, R r ∧ L k s = some r := by
    intro d
    induction d with
    | zero =>
      intro i k s hi hI hk
      obtain ⟨k, rfl⟩ : ∃ m, k = m + 1 := ⟨k - 1, by omega⟩
      obtain rfl : i = n := by omega
      exact he k s hI
    | succ d ih =>
      intro i k s hi hI hk
      obtain ⟨k, rfl⟩ : ∃ m, k = m + 1 := ⟨k - 1, by omega⟩
      rcases hs k i s (by omega) hI with ⟨s', hI', h⟩ | h
      · rw [h]
        exact ih (i + 1) k s' (by omega) hI' (by omega)
      · exact h
  intro k s hI hk
  exact go n 0 k s (by omega) hI hk
theorem bind_if {α β : Type} {c : Prop} [Decidable c] {a b : Option α} {f : α → Option β} : (if c then a else b).bind f = if c then a.bind f else b.bind f := by
  split <;> rfl
theorem take_set_succ {α : Type} {l : List α} {i : Nat} (h : i < l.length) (v : α) : (l.set i v).take (i + 1) = l.take i ++ [v] := by
  rw [List.take_succ_eq_append_getElem (by simpa using h)]
  simp [List.take_set_of_le]
theorem rd_nat {l : List Int} {i : Nat} (h : i < l.length) : rd l (i : Int) = l[i] := by
  simp [rd, List.getD_eq_getElem?_getD, List.getElem?_eq_getElem h]

end Go.Proofs.Ytidkniacmcbgiaa.G.Pure
end

section
namespace Go.Proofs.Ytidkniacmcbgiaa.G.Pure
open Go.RowKit Go.Proofs.Ytidkniacmcbgiaa.G Go.Proofs.YtidkniacmcbgiaaW.PrintWords Go.Proofs.YtidkniacmcbgiaaW.PrintLast Go.Proofs.YtidkniacmcbgiaaW.PrintMore
set_option linter.unusedVariables false
set_option linter.unusedSimpArgs false
/-! The laws' helpers over logs. -/
abbrev En := S73
def entryOf (x : S75) : En := ⟨x.f0, x.f1, x.f2⟩
theorem szLog_eq (l : List (S75)) (a : Int) (h0 : 0 ≤ a) (h1 : a ≤ 1048576) (hl : l.length ≤ 9223372036854775807) : laws_szLog.f l a = some (if a - l.length < 0 then -1 else a - l.length) := by
  unfold laws_szLog.f
  rw [w64 (by omega) (by omega)]
  split <;> rfl
theorem rd_laws_Entry {l : List (S75)} {i : Nat} (h : i < l.length) : rd_T75 l (i : Int) = l[i] := by
  simp [rd_T75, List.getD_eq_getElem?_getD, List.getElem?_eq_getElem h]
theorem toLog_eq (k : Nat) (l : List (S75)) (hl : l.length ≤ 1048576) (hk : l.length < k) : laws_toLog.f k l = some (l.map entryOf) := by
  unfold laws_toLog.f
  rw [if_pos (by omega), if_pos (by omega)]
  obtain ⟨r, hr, h⟩ := loop_inv (fun k (s : List En × Int) => laws_toLog.l0 k l s.1 s.2) l.length (fun i s => s.2 = (i : Int) ∧ s.1.length = l.length ∧ s.1.take i = (l.map entryOf).take i) (fun r => r = l.map entryOf)
    (fun k i s hi ⟨h1, h2, h3⟩ => by
      obtain ⟨acc, x⟩ := s
      simp only at h1 h2 h3
      subst h1
      refine .inl ⟨(acc.set i (entryOf l[i]), ((i + 1 : Nat) : Int)), ⟨rfl, by simpa using h2, ?_⟩, ?_⟩
      · rw [take_set_succ (by omega), h3, List.take_succ_eq_append_getElem (by simpa using hi)]
        simp
      · simp only [laws_toLog.l0]
        rw [if_pos (by omega), if_pos (by omega), rd_laws_Entry hi]
        simp only [laws_toEntry.f, Option.bind_some]
        rw [if_pos (by omega), w64 (by omega) (by omega)]
        rfl)
    (fun k s ⟨h1, h2, h3⟩ => by
      obtain ⟨acc, x⟩ := s
      simp only at h1 h2 h3
      subst h1
      refine ⟨acc, ?_, ?_⟩
      · rw [List.take_of_length_le (by omega), List.take_of_length_le (by simp)] at h3
        exact h3
      · simp only [laws_toLog.l0]
        rw [if_neg (by omega)]) k (List.replicate l.length z73, 0) ⟨rfl, by simp, by simp⟩ hk
  subst hr
  simpa using h
theorem eqEntry_self (a : En) : laws_eqEntry.f a.f0 a.f1 a.f2 a.f0 a.f1 a.f2 = some true := by
  simp [laws_eqEntry.f]
theorem eqLog_self (k : Nat) (a : List En) (hl : a.length ≤ 1048576) (hk : a.length < k) : laws_eqLog.f k a a = some true := by
  unfold laws_eqLog.f
  rw [if_pos rfl]
  obtain ⟨r, hr, h⟩ := loop_inv (fun k (s : Int) => laws_eqLog.l0 k a a s) a.length (fun i s => s = (i : Int)) (fun r => r = true)
    (fun k i s hi h1 => by
      subst h1
      refine .inl ⟨((i + 1 : Nat) : Int), rfl, ?_⟩
      simp only [laws_eqLog.l0]
      rw [if_pos (by omega), if_pos (by omega), if_pos (by omega), eqEntry_self]
      simp only [Option.bind_some, if_true]
      rw [w64 (by omega) (by omega)]
      rfl)
    (fun k s h1 => by
      subst h1
      refine ⟨true, rfl, ?_⟩
      simp only [laws_eqLog.l0]
      rw [if_neg (by omega)]) k 0 rfl hk
  subst hr
  exact h
theorem rd_impl_Entry {l : List En} {i : Nat} (h : i < l.length) : rd_T73 l (i : Int) = l[i] := by
  simp [rd_T73, List.getD_eq_getElem?_getD, List.getElem?_eq_getElem h]
theorem rd_set_Entry {l : List En} {i : Nat} (h : i < l.length) (v : En) : rd_T73 (l.set i v) (i : Int) = v := by
  rw [rd_impl_Entry (by simpa using h)]
  simp

end Go.Proofs.Ytidkniacmcbgiaa.G.Pure
end

section
namespace Go.Proofs.Ytidkniacmcbgiaa.G.Pure
open Go.RowKit Go.Proofs.Ytidkniacmcbgiaa.G Go.Proofs.YtidkniacmcbgiaaW.PrintWords Go.Proofs.YtidkniacmcbgiaaW.PrintLast Go.Proofs.YtidkniacmcbgiaaW.PrintMore
set_option linter.unusedVariables false
set_option linter.unusedSimpArgs false
/-! What is up behind a log. -/
theorem loop_inv2 {σ γ : Type} (L : Nat → σ → Option γ) (n K0 : Nat) (I : Nat → σ → Prop) (R : γ → Prop)
    (hs : ∀ k i s, i < n → K0 ≤ k → I i s → (∃ s', I (i + 1) s' ∧ L (k + 1) s = L k s') ∨ (∃ r, R r ∧ L (k + 1) s = some r))
    (he : ∀ k s, K0 ≤ k → I n s → ∃ r, R r ∧ L (k + 1) s = some r) : ∀ k s, I 0 s → n + K0 < k → ∃ r, R r ∧ L k s = some r := by
  have go : ∀ d i k s, i + d = n → I i s → d + K0 < k → ∃ r, R r ∧ L k s = some r := by
    intro d
    induction d with
    | zero =>
      intro i k s hi hI hk
      obtain ⟨k, rfl⟩ : ∃ m, k = m + 1 := ⟨k - 1, by omega⟩
      obtain rfl : i = n := by omega
      exact he k s (by omega) hI
    | succ d ih =>
      intro i k s hi hI hk
      obtain ⟨k, rfl⟩ : ∃ m, k = m + 1 := ⟨k - 1, by omega⟩
      rcases hs k i s (by omega) (by omega) hI with ⟨s', hI', h⟩ | h
      · rw [h]
        exact ih (i + 1) k s' (by omega) hI' (by omega)
      · exact h
  intro k s hI hk
  exact go n 0 k s (by omega) hI (by omega)
def atE (l : List En) (i : Nat) (out : List Int) : Int := impl_Log_up.at l (rd_T73 l (i : Int)) out
def upsStep (l : List En) (i : Nat) (out : List Int) : Option (List Int) :=
  if decide (atE l i out < 0) = (rd_T73 l (i : Int)).f2 then none else if (rd_T73 l (i : Int)).f2 = true then some (out.eraseIdx (atE l i out).toNat) else some (out ++ [(i : Int)])
def ups (l : List En) : Nat → Option (List Int)
  | 0 => some []
  | n + 1 => (ups l n).bind (upsStep l n)
def lastT (l : List En) : Nat → Int
  | 0 => 0
  | n + 1 => (rd_T73 l (n : Int)).f0
def gd (l : List En) : Nat → Bool
  | 0 => true
  | n + 1 => gd l n && impl_Log_up.good (lastT l n) (rd_T73 l (n : Int))
theorem to_eq (l : List En) (n : Nat) : impl_Log_up.to l n = if gd l n = true then (ups l n).map (fun o => (lastT l n, o)) else none := by
  induction n with
  | zero => rfl
  | succ n ih =>
    rw [impl_Log_up.to, ih, ups, gd]
    cases hg : gd l n with
    | false => simp
    | true =>
      cases hu : ups l n with
      | none => simp
      | some o =>
        simp only [if_true, Option.map_some, Option.bind_some, Bool.true_and]
        unfold impl_Log_up.step upsStep atE
        cases hgd : impl_Log_up.good (lastT l n) (rd_T73 l (n : Int)) with
        | false => simp [hgd]
        | true =>
          simp only [hgd, Bool.true_eq_false, if_false, if_true]
          split
          · rfl
          · split <;> rfl
theorem gd_false {l : List En} {i n : Nat} (h : gd l i = false) (hi : i ≤ n) : gd l n = false := by
  induction n with
  | zero => obtain rfl : i = 0 := by omega
            exact h
  | succ n ih =>
    rcases Nat.lt_or_ge i (n + 1) with h1 | h1
    · rw [gd, ih (by omega)]
      rfl
    · obtain rfl : i = n + 1 := by omega
      exact h
theorem ups_none {l : List En} {i n : Nat} (h : ups l i = none) (hi : i ≤ n) : ups l n = none := by
  induction n with
  | zero => obtain rfl : i = 0 := by omega
            exact h
  | succ n ih =>
    rcases Nat.lt_or_ge i (n + 1) with h1 | h1
    · rw [ups, ih (by omega)]
      rfl
    · obtain rfl : i = n + 1 := by omega
      exact h
theorem idxP_none {α : Type} {p : α → Bool} {l : List α} (h : idxP p l < 0) : ∀ x ∈ l, p x = false := by
  have := idxP_nonneg p l
  rw [decide_eq_false (by omega)] at this
  intro x hx
  exact List.any_eq_false.1 this.symm x hx |> (by simpa using ·)
/-- The entries up: within bounds, each signal once. -/
theorem ups_ok {l : List En} {n : Nat} {out : List Int} (h : ups l n = some out) : out.length ≤ n ∧ (∀ x ∈ out, 0 ≤ x ∧ x < (n : Int)) ∧ out.Pairwise (fun a b => (rd_T73 l a).f1 ≠ (rd_T73 l b).f1) := by
  induction n generalizing out with
  | zero =>
    cases h
    simp
  | succ n ih =>
    rw [ups] at h
    obtain ⟨s0, h0, h1⟩ := Option.bind_eq_some_iff.1 h
    obtain ⟨i1, i2, i3⟩ := ih h0
    unfold upsStep at h1
    split at h1
    · cases h1
    · rename_i hne
      split at h1
      · cases h1
        refine ⟨?_, fun x hx => ?_, i3.sublist (List.eraseIdx_sublist ..)⟩
        · have := List.length_eraseIdx_le (l := s0) (i := (atE l n s0).toNat)
          omega
        · have := i2 x (List.mem_of_mem_eraseIdx hx)
          omega
      · rename_i hf
        cases h1
        refine ⟨by simp; omega, fun x hx => ?_, ?_⟩
        · simp only [List.mem_append, List.mem_singleton] at hx
          rcases hx with hx | rfl
          · have := i2 x hx
            omega
          · omega
        · rw [List.pairwise_append]
          refine ⟨i3, by simp, fun a ha b hb => ?_⟩
          simp only [List.mem_singleton] at hb
          subst hb
          have hk : atE l n s0 < 0 := by
            apply Classical.byContradiction
            intro hh
            rw [decide_eq_false hh] at hne
            simp only [Bool.not_eq_true] at hf
            exact hne hf.symm
          have := idxP_none hk a ha
          simpa using this
theorem idxP_take {p : Int → Bool} {out : List Int} {j : Nat} (hj : j < out.length) (hu : ∀ a b (ha : a < out.length) (hb : b < out.length), a < b → p out[a] = true → p out[b] = true → False) : idxP p (out.take (j + 1)) = if p out[j] = true then (j : Int) else idxP p (out.take j) := by
  split
  · rename_i h
    refine idxP_hit (k := j) (y := out[j]) (by rw [List.getElem?_take_of_lt (by omega)]; exact List.getElem?_eq_getElem hj) h (fun a x ha hx => ?_)
    rw [List.getElem?_take_of_lt (by omega)] at hx
    obtain ⟨h1, rfl⟩ := List.getElem?_eq_some_iff.1 hx
    cases hp : p out[a] with
    | false => rfl
    | true => exact (hu a j h1 hj ha hp h).elim
  · rename_i h
    simp only [Bool.not_eq_true] at h
    unfold idxP
    rw [List.take_succ_eq_append_getElem hj, List.findIdx?_append]
    cases e : (out.take j).findIdx? p with
    | some i => simp
    | none => simp [h]
set_option maxHeartbeats 400000 in
theorem specUp_inner {l : List En} {n : Int} {out : List Int} {i : Nat} (hi : i < l.length) (hl : l.length ≤ 60) (ho : out.length ≤ i ∧ (∀ x ∈ out, 0 ≤ x ∧ x < (i : Int)) ∧ out.Pairwise (fun a b => (rd_T73 l a).f1 ≠ (rd_T73 l b).f1)) :
    ∀ (d j K : Nat), j + d = out.length → spec_l07Up.l1 (K + d + 1) l n out (i : Int) (idxP (fun m => (rd_T73 l m).f1 == (rd_T73 l (i : Int)).f1) (out.take j)) (j : Int) = spec_l07Up.l1 (K + 1) l n out (i : Int) (atE l i out) (out.length : Int) := by
  intro d
  induction d with
  | zero =>
    intro j K hj
    obtain rfl : j = out.length := by omega
    rw [List.take_length]
    rfl
  | succ d ih =>
    intro j K hj
    have hjo : j < out.length := by omega
    obtain ⟨h1, h2, h3⟩ := ho
    have hm := h2 out[j] (List.getElem_mem hjo)
    rw [← ih (j + 1) K (by omega), show K + (d + 1) + 1 = (K + d + 1) + 1 by omega]
    conv => lhs; unfold spec_l07Up.l1
    rw [if_pos (by omega), if_pos (by omega), rd_nat hjo, if_pos (by omega), if_pos (by omega), if_pos (by omega), if_pos (by omega), w64 (by omega) (by omega), idxP_take hjo (fun a b ha hb hab pa pb => ?_)]
    · by_cases hq : (rd_T73 l out[j]).f1 = (rd_T73 l (i : Int)).f1
      · rw [if_pos hq, if_pos (by simpa using hq)]
        rfl
      · rw [if_neg hq, if_neg (by simpa using hq)]
        rfl
    · have := List.pairwise_iff_getElem.1 h3 a b ha hb hab
      simp only [beq_iff_eq] at pa pb
      exact this (pa.trans pb.symm)
set_option maxHeartbeats 1000000 in
theorem specUp_outer {l : List En} {n : Nat} (hn : n ≤ l.length) (hl : l.length ≤ 60) : ∀ (d i : Nat) (out : List Int) (K : Nat), i + d = n → ups l i = some out → 70 * (d + 1) ≤ K → spec_l07Up.l0 K l (n : Int) out (i : Int) = some (match ups l n with | some o => (o, true) | none => ([], false)) := by
  intro d
  induction d with
  | zero =>
    intro i out K hi hu hK
    obtain ⟨K, rfl⟩ : ∃ m, K = m + 1 := ⟨K - 1, by omega⟩
    obtain rfl : i = n := by omega
    simp only [spec_l07Up.l0]
    rw [if_neg (by omega), hu]
  | succ d ih =>
    intro i out K hi hu hK
    have ho := ups_ok hu
    obtain ⟨h1, h2, h3⟩ := ho
    obtain ⟨K, rfl⟩ : ∃ m, K = m + out.length + 2 := ⟨K - out.length - 2, by omega⟩
    have hK2 : 70 * (d + 1) ≤ K := by omega
    have hi2 : i + 1 + d = n := by omega
    have hsucc : ((i + 1 : Nat) : Int) = (i : Int) + 1 := by omega
    simp only [spec_l07Up.l0]
    rw [if_pos (by omega)]
    have e := specUp_inner (n := (n : Int)) (l := l) (out := out) (i := i) (by omega) hl ⟨h1, h2, h3⟩ out.length 0 K (by omega)
    rw [show idxP (fun m => (rd_T73 l m).f1 == (rd_T73 l (i : Int)).f1) (out.take 0) = -1 from rfl] at e
    rw [show ((0 : Nat) : Int) = 0 from rfl] at e
    rw [e]
    have hlt := impl_Log_up.idx_lt (fun m => (rd_T73 l m).f1 == (rd_T73 l (i : Int)).f1) out
    have hs : ups l (i + 1) = upsStep l i out := by rw [ups, hu]; rfl
    have hat : idxP (fun m => (rd_T73 l m).f1 == (rd_T73 l (i : Int)).f1) out = atE l i out := rfl
    rw [hat] at hlt
    conv => lhs; unfold spec_l07Up.l1
    rw [if_neg (by omega), if_pos (by omega), if_pos (by omega)]
    unfold upsStep at hs
    by_cases hneg : atE l i out < 0
    · rw [decide_eq_true hneg] at hs
      rw [show decide (atE l i out ≥ 0) = false from decide_eq_false (by omega)]
      cases hf : (rd_T73 l (i : Int)).f2 with
      | true =>
        rw [hf, if_pos rfl] at hs
        rw [if_pos (by rfl), ups_none hs (by omega)]
      | false =>
        rw [hf, if_neg (by simp), if_neg (by simp)] at hs
        rw [if_neg (by simp), if_pos hneg, if_pos (by omega), w64 (by omega) (by omega)]
        have e2 := ih (i + 1) _ K hi2 hs hK2
        rw [hsucc] at e2
        rw [e2]
    · rw [decide_eq_false hneg] at hs
      rw [show decide (atE l i out ≥ 0) = true from decide_eq_true (by omega)]
      cases hf : (rd_T73 l (i : Int)).f2 with
      | false =>
        rw [hf, if_pos rfl] at hs
        rw [if_pos (by rfl), ups_none hs (by omega)]
      | true =>
        rw [hf, if_neg (by simp), if_pos rfl] at hs
        rw [if_neg (by simp), if_neg hneg]
        simp only [Option.bind_some, List.nil_append]
        obtain ⟨q, hq⟩ : ∃ q : Nat, atE l i out = (q : Int) := ⟨(atE l i out).toNat, by omega⟩
        rw [hq] at hs hlt ⊢
        rw [if_pos (by omega), if_pos (by omega), if_pos (by simp; omega), if_pos (by rw [w64 (by omega) (by omega)]; omega), w64 (n := (q : Int) + 1) (by omega) (by omega), if_pos (by omega), if_pos (by simp; omega), w64 (n := (i : Int) + 1) (by omega) (by omega)]
        rw [Int.toNat_natCast, show ((q : Int) + 1).toNat = q + 1 by omega, ← List.eraseIdx_eq_take_drop_succ]
        have e2 := ih (i + 1) (out.eraseIdx q) K hi2 (by rw [hs, Int.toNat_natCast]) hK2
        rw [hsucc] at e2
        rw [e2]
theorem specUp_eq {l : List En} {n K : Nat} (hn : n ≤ l.length) (hl : l.length ≤ 60) (hK : 5000 < K) : spec_l07Up.f K l (n : Int) = some (match ups l n with | some o => (o, true) | none => ([], false)) := by
  unfold spec_l07Up.f
  exact specUp_outer hn hl n 0 [] K (by omega) rfl (by omega)
def validG (l : List En) : Bool := decide (l.length ≤ 60) && gd l l.length && (ups l l.length).isSome
theorem implValid_log {l : List En} (hl : l.length ≤ 1048576) : impl_ValidLog.f l = some (validG l) := by
  unfold impl_ValidLog.f impl_Log_up.f validG
  rw [if_pos hl, to_eq]
  cases hg : gd l l.length with
  | false => simp
  | true =>
    cases hu : ups l l.length with
    | none => simp
    | some o => simp; omega
theorem in_log (n lo hi : Int) : spec_l00In.f n lo hi = some (decide (lo ≤ n) && decide (n ≤ hi)) := by
  unfold spec_l00In.f
  by_cases h : lo ≤ n
  · rw [if_pos h, decide_eq_true h]
    rfl
  · rw [if_neg h, decide_eq_false h]
    rfl
theorem specOk_log {k : Nat} {l : List En} (hk : 6000 < k) : spec_l07Ok.f k l = some (validG l) := by
  unfold spec_l07Ok.f
  by_cases hl : l.length ≤ 60
  · rw [if_neg (by omega)]
    obtain ⟨r, hr, h⟩ := loop_inv2 (fun k (s : Int × Int) => spec_l07Ok.l0 k l s.1 s.2) l.length 5001 (fun i s => s.2 = (i : Int) ∧ s.1 = lastT l i ∧ gd l i = true) (fun r => r = validG l)
      (fun k i s hi hk ⟨h1, h2, h3⟩ => by
        obtain ⟨a, x⟩ := s
        simp only at h1 h2 h3
        subst h1 h2
        simp only [spec_l07Ok.l0]
        rw [if_pos (by omega), if_pos (by omega), in_log]
        simp only [Option.bind_some]
        have hg : gd l (i + 1) = impl_Log_up.good (lastT l i) (rd_T73 l (i : Int)) := by rw [gd, h3]; rfl
        unfold impl_Log_up.good at hg
        have hbad : gd l (i + 1) = false → false = validG l := fun h => by
          unfold validG
          rw [gd_false h (by omega)]
          simp
        cases hb1 : (decide (lastT l i ≤ (rd_T73 l (i : Int)).f0) && decide ((rd_T73 l (i : Int)).f0 ≤ 100000)) with
        | false =>
          rw [hb1] at hg
          exact .inr ⟨false, hbad hg, by simp⟩
        | true =>
          rw [hb1] at hg
          rw [if_pos rfl, in_log]
          simp only [Option.bind_some]
          cases hb2 : (decide (0 ≤ (rd_T73 l (i : Int)).f1) && decide ((rd_T73 l (i : Int)).f1 ≤ 9999)) with
          | false =>
            rw [hb2] at hg
            exact .inr ⟨false, hbad hg, by simp⟩
          | true =>
            rw [hb2] at hg
            refine .inl ⟨((rd_T73 l (i : Int)).f0, ((i + 1 : Nat) : Int)), ⟨rfl, rfl, hg⟩, ?_⟩
            rw [if_pos rfl, w64 (by omega) (by omega)]
            rfl)
      (fun k s hk ⟨h1, h2, h3⟩ => by
        obtain ⟨a, x⟩ := s
        simp only at h1 h2 h3
        subst h1 h2
        refine ⟨validG l, rfl, ?_⟩
        simp only [spec_l07Ok.l0]
        rw [if_neg (by omega), specUp_eq (Nat.le_refl _) hl (by omega)]
        unfold validG
        rw [h3]
        cases ups l l.length <;> simp [hl]) k (0, 0) ⟨rfl, rfl, rfl⟩ (by omega)
    subst hr
    exact h
  · rw [if_pos (by omega)]
    unfold validG
    simp [hl]

end Go.Proofs.Ytidkniacmcbgiaa.G.Pure
end

section
namespace Go.Proofs.Ytidkniacmcbgiaa.G
open Go.RowKit Go.Proofs.YtidkniacmcbgiaaW.PrintWords Go.Proofs.YtidkniacmcbgiaaW.PrintLast Go.Proofs.YtidkniacmcbgiaaW.PrintMore
attribute [local go_sem] max2_int min2_int max_two min_two max_three min_three max_four min_four
set_option linter.unusedVariables false
set_option linter.unusedSimpArgs false

/-! ### spec_ValidLog: function 24 -/
def spec_ValidLog.f (k : Nat) (l0 : List (S73)) : Option (Bool) := (spec_l07Ok.f k l0).bind fun t101 => (some t101)
set_option maxHeartbeats 8000000 in
set_option maxRecDepth 100000 in
theorem spec_ValidLog.calls (k : Nat) (A0 : Option Addr) (c0 : Nat) (l0 : List (S73)) (r : Bool) (w : World) (hr0 : Kd.C k73 w A0 l0.length l0) (hc0 : l0.length ≤ c0) (h : spec_ValidLog.f k l0 = some r) :
    Calls Try.prog 24 #[.slice A0 l0.length c0] w fun e w' => e = .returned (.bool r) ∧ Below w.heap.size w w' := by
  have HR0 := Aside0.mk hr0
  have HC0 := Aside0.mk hc0
  clear hr0 hc0
  have HB := Aside0.mk (Below.refl w.heap.size w)
  have H : ((spec_l07Ok.f k l0).bind fun t101 => (some t101)) = some r := h
  clear h
  replace H := Option.bind_eq_some_iff.mp H
  obtain ⟨t101, A20, H⟩ := H
  replace H : (some t101) = some r := H
  have A2 := Aside0.mk A20
  clear A20
  obtain rfl := Option.some.inj H
  go_enter Try.func24, Try.ntmps24
  go_wp2_with (first | ((with_reducible refine gate_callee (f := 74) rfl ?_); refine goesL_ (some 4) rfl rfl Try.func74 (by kernel_rfl) rfl #[.slice A0 l0.length c0] rfl (by (try simp only [List.map_toArray, List.map_cons, List.map_nil]); first | done | rfl | (simp only [List.length_drop, List.length_take]; rfl)) ?_; (with_reducible refine (spec_l07Ok.calls k _ _ l0 t101 _ ?side1 ?side2 A2.out).mono ?_); (case side1 => repeat (first | exact HR0.out | (with_reducible refine Kd.C_alloc ?_ _) | (with_reducible refine Kd.C_drewN ?_ _) | (with_reducible refine Kd.C_drew ?_))); (case side2 => exact HC0.out); rintro e w3 ⟨rfl, hb⟩; refine ⟨_, rfl, ?_⟩; have n0_ := Aside0.mk (below_step (by repeat (first | (with_reducible first | exact HB.out | apply below_alloc | apply pw_below_drewN | apply below_drew1) | exact HB.out)) hb); clear HB; have HB := n0_; clear n0_; (try clear hb); (try clear hb2); (try clear hk); (try clear hi)))
  go_ret
  exact ⟨by first | rfl | (simp [errW_none, errW_some, IntKind.wrap_i64, wrap64]; done) | (simp [errW_none, errW_some] <;> rfl) | (simp [*, errW_none, errW_some] <;> rfl), by repeat (first | (with_reducible first | exact HB.out | apply below_alloc | apply pw_below_drewN | apply below_drew1) | exact HB.out)⟩

end Go.Proofs.Ytidkniacmcbgiaa.G
end

section
namespace Go.Proofs.Ytidkniacmcbgiaa.G
open Go.RowKit Go.Proofs.YtidkniacmcbgiaaW.PrintWords Go.Proofs.YtidkniacmcbgiaaW.PrintLast Go.Proofs.YtidkniacmcbgiaaW.PrintMore
attribute [local go_sem] max2_int min2_int max_two min_two max_three min_three max_four min_four
set_option linter.unusedVariables false
set_option linter.unusedSimpArgs false

/-! ### laws_FnExactValidLog: function 4 -/
def laws_FnExactValidLog.f (k : Nat) (l0 : List (S75)) : Option (Bool) := (laws_szLog.f l0 1048576).bind fun t101 => (if t101 < 0 then (some true) else ((laws_toLog.f k l0).bind fun t102 => ((spec_ValidLog.f k t102).bind fun t105 => ((laws_toLog.f k l0).bind fun t106 => ((impl_ValidLog.f t106).bind fun t109 => (if (t109 != t105) = true then (some false) else ((laws_toLog.f k l0).bind fun t110 => ((laws_eqLog.f k t106 t110).bind fun t113 => (if t113 = true then (some true) else (some false))))))))))
set_option maxHeartbeats 8000000 in
set_option maxRecDepth 100000 in
theorem laws_FnExactValidLog.calls (k : Nat) (A0 : Option Addr) (c0 : Nat) (l0 : List (S75)) (r : Bool) (w : World) (hr0 : Kd.C k75 w A0 l0.length l0) (hc0 : l0.length ≤ c0) (h : laws_FnExactValidLog.f k l0 = some r) :
    Calls Try.prog 4 #[.slice A0 l0.length c0] w fun e w' => e = .returned (.bool r) ∧ Below w.heap.size w w' := by
  have HR0 := Aside0.mk hr0
  have HC0 := Aside0.mk hc0
  clear hr0 hc0
  have HB := Aside0.mk (Below.refl w.heap.size w)
  have H : ((laws_szLog.f l0 1048576).bind fun t101 => (if t101 < 0 then (some true) else ((laws_toLog.f k l0).bind fun t102 => ((spec_ValidLog.f k t102).bind fun t105 => ((laws_toLog.f k l0).bind fun t106 => ((impl_ValidLog.f t106).bind fun t109 => (if (t109 != t105) = true then (some false) else ((laws_toLog.f k l0).bind fun t110 => ((laws_eqLog.f k t106 t110).bind fun t113 => (if t113 = true then (some true) else (some false))))))))))) = some r := h
  clear h
  replace H := Option.bind_eq_some_iff.mp H
  obtain ⟨t101, A20, H⟩ := H
  replace H : (if t101 < 0 then (some true) else ((laws_toLog.f k l0).bind fun t102 => ((spec_ValidLog.f k t102).bind fun t105 => ((laws_toLog.f k l0).bind fun t106 => ((impl_ValidLog.f t106).bind fun t109 => (if (t109 != t105) = true then (some false) else ((laws_toLog.f k l0).bind fun t110 => ((laws_eqLog.f k t106 t110).bind fun t113 => (if t113 = true then (some true) else (some false)))))))))) = some r := H
  have A2 := Aside0.mk A20
  clear A20
  by_cases c3 : t101 < 0
  · rw [if_pos c3] at H
    have c3b0 : decide (t101 < 0) = true := decide_eq_true c3
    clear c3
    obtain rfl := Option.some.inj H
    go_enter Try.func4, Try.ntmps4
    go_wp2_with (first | ((with_reducible refine gate_callee (f := 19) rfl ?_); refine goesL_ (some 9) rfl rfl Try.func19 (by kernel_rfl) rfl #[.slice A0 l0.length c0, .int .i64 1048576] rfl (by (try simp only [List.map_toArray, List.map_cons, List.map_nil]); first | done | rfl | (simp only [List.length_drop, List.length_take]; rfl)) ?_; (with_reducible refine (laws_szLog.calls _ _ l0 1048576 t101 _ ?side1 ?side2 A2.out).mono ?_); (case side1 => repeat (first | exact HR0.out | (with_reducible refine Kd.C_alloc ?_ _) | (with_reducible refine Kd.C_drewN ?_ _) | (with_reducible refine Kd.C_drew ?_))); (case side2 => exact HC0.out); rintro e w' ⟨rfl, ⟨nd, rfl⟩⟩; refine ⟨_, rfl, ?_⟩))
    go_ret
    exact ⟨by first | rfl | (simp [errW_none, errW_some, IntKind.wrap_i64, wrap64]; done) | (simp [errW_none, errW_some] <;> rfl) | (simp [*, errW_none, errW_some] <;> rfl), by repeat (first | (with_reducible first | exact HB.out | apply below_alloc | apply pw_below_drewN | apply below_drew1) | exact HB.out)⟩
  · rw [if_neg c3] at H
    have c3b0 : decide (t101 < 0) = false := decide_eq_false c3
    clear c3
    replace H := Option.bind_eq_some_iff.mp H
    obtain ⟨t102, A40, H⟩ := H
    replace H : ((spec_ValidLog.f k t102).bind fun t105 => ((laws_toLog.f k l0).bind fun t106 => ((impl_ValidLog.f t106).bind fun t109 => (if (t109 != t105) = true then (some false) else ((laws_toLog.f k l0).bind fun t110 => ((laws_eqLog.f k t106 t110).bind fun t113 => (if t113 = true then (some true) else (some false)))))))) = some r := H
    have A4 := Aside0.mk A40
    clear A40
    replace H := Option.bind_eq_some_iff.mp H
    obtain ⟨t105, A50, H⟩ := H
    replace H : ((laws_toLog.f k l0).bind fun t106 => ((impl_ValidLog.f t106).bind fun t109 => (if (t109 != t105) = true then (some false) else ((laws_toLog.f k l0).bind fun t110 => ((laws_eqLog.f k t106 t110).bind fun t113 => (if t113 = true then (some true) else (some false))))))) = some r := H
    have A5 := Aside0.mk A50
    clear A50
    replace H := Option.bind_eq_some_iff.mp H
    obtain ⟨t106, A60, H⟩ := H
    replace H : ((impl_ValidLog.f t106).bind fun t109 => (if (t109 != t105) = true then (some false) else ((laws_toLog.f k l0).bind fun t110 => ((laws_eqLog.f k t106 t110).bind fun t113 => (if t113 = true then (some true) else (some false)))))) = some r := H
    have A6 := Aside0.mk A60
    clear A60
    replace H := Option.bind_eq_some_iff.mp H
    obtain ⟨t109, A70, H⟩ := H
    replace H : (if (t109 != t105) = true then (some false) else ((laws_toLog.f k l0).bind fun t110 => ((laws_eqLog.f k t106 t110).bind fun t113 => (if t113 = true then (some true) else (some false))))) = some r := H
    have A7 := Aside0.mk A70
    clear A70
    by_cases c8 : (t109 != t105) = true
    · rw [if_pos c8] at H
      have c8b0 : (t109 != t105) = true := c8
      (try (have c8b1 : decide (t109 = t105) = false := by simpa using c8))
      (try (have c8b2 : (t109 == t105) = false := by simpa using c8))
      (try (have c8b3 : ¬ (t109 = t105) := by simpa using c8))
      clear c8
      obtain rfl := Option.some.inj H
      go_enter Try.func4, Try.ntmps4
      go_wp2_with (first | ((with_reducible refine gate_callee (f := 19) rfl ?_); refine goesL_ (some 9) rfl rfl Try.func19 (by kernel_rfl) rfl #[.slice A0 l0.length c0, .int .i64 1048576] rfl (by (try simp only [List.map_toArray, List.map_cons, List.map_nil]); first | done | rfl | (simp only [List.length_drop, List.length_take]; rfl)) ?_; (with_reducible refine (laws_szLog.calls _ _ l0 1048576 t101 _ ?side1 ?side2 A2.out).mono ?_); (case side1 => repeat (first | exact HR0.out | (with_reducible refine Kd.C_alloc ?_ _) | (with_reducible refine Kd.C_drewN ?_ _) | (with_reducible refine Kd.C_drew ?_))); (case side2 => exact HC0.out); rintro e w' ⟨rfl, ⟨nd, rfl⟩⟩; refine ⟨_, rfl, ?_⟩) | ((with_reducible refine gate_callee (f := 21) rfl ?_); refine goesL_ (some 13) rfl rfl Try.func21 (by kernel_rfl) rfl #[.slice A0 l0.length c0] rfl (by (try simp only [List.map_toArray, List.map_cons, List.map_nil]); first | done | rfl | (simp only [List.length_drop, List.length_take]; rfl)) ?_; (with_reducible refine (laws_toLog.calls k _ _ l0 t102 _ ?side1 ?side2 A4.out).mono ?_); (case side1 => repeat (first | exact HR0.out | (with_reducible refine Kd.C_alloc ?_ _) | (with_reducible refine Kd.C_drewN ?_ _) | (with_reducible refine Kd.C_drew ?_))); (case side2 => exact HC0.out); rintro e w9 ⟨v103, rfl, ho0, hb⟩; refine ⟨_, rfl, ?_⟩; have n0_ := Aside0.mk (Kd.R_lower ho0 (below_size (by repeat (first | (with_reducible first | exact HB.out | apply below_alloc | apply pw_below_drewN | apply below_drew1) | exact HB.out)))); have n1_ := Aside0.mk (below_step (by repeat (first | (with_reducible first | exact HB.out | apply below_alloc | apply pw_below_drewN | apply below_drew1) | exact HB.out)) hb); clear HB; have HO104 := n0_; have HB := n1_; clear n0_ n1_; (try clear hb); (try clear hb2); (try clear hk); (try clear hi); (try clear ho0); obtain ⟨Ao10, co10, eo10⟩ := Kd.R_slice HO104.out; subst eo10) | ((with_reducible refine gate_callee (f := 24) rfl ?_); refine goesL_ (some 14) rfl rfl Try.func24 (by kernel_rfl) rfl #[.slice Ao10 t102.length co10] rfl (by (try simp only [List.map_toArray, List.map_cons, List.map_nil]); first | done | rfl | (simp only [List.length_drop, List.length_take]; rfl)) ?_; (with_reducible refine (spec_ValidLog.calls k _ _ t102 t105 _ ?side1 ?side2 A5.out).mono ?_); (case side1 => repeat (first | exact (Kd.R_reads' HO104.out).2.2 | (with_reducible refine Kd.C_alloc ?_ _) | (with_reducible refine Kd.C_drewN ?_ _) | (with_reducible refine Kd.C_drew ?_))); (case side2 => exact (Kd.R_reads' HO104.out).2.1); rintro e w11 ⟨rfl, hb⟩; refine ⟨_, rfl, ?_⟩; have n0_ := Aside0.mk (Kd.R_below (by (with_reducible repeat (first | apply Kd.R_alloc | apply Kd.R_drewN | apply Kd.R_drew)); exact HO104.out) hb); have n1_ := Aside0.mk (below_step (by repeat (first | (with_reducible first | exact HB.out | apply below_alloc | apply pw_below_drewN | apply below_drew1) | exact HB.out)) hb); clear HO104; clear HB; have HO104 := n0_; have HB := n1_; clear n0_ n1_; (try clear hb); (try clear hb2); (try clear hk); (try clear hi)) | ((with_reducible refine gate_callee (f := 21) rfl ?_); refine goesL_ (some 16) rfl rfl Try.func21 (by kernel_rfl) rfl #[.slice A0 l0.length c0] rfl (by (try simp only [List.map_toArray, List.map_cons, List.map_nil]); first | done | rfl | (simp only [List.length_drop, List.length_take]; rfl)) ?_; (with_reducible refine (laws_toLog.calls k _ _ l0 t106 _ ?side1 ?side2 A6.out).mono ?_); (case side1 => repeat (first | exact (Kd.C_below HR0.out HB.out) | (with_reducible refine Kd.C_alloc ?_ _) | (with_reducible refine Kd.C_drewN ?_ _) | (with_reducible refine Kd.C_drew ?_))); (case side2 => exact HC0.out); rintro e w12 ⟨v107, rfl, ho0, hb⟩; refine ⟨_, rfl, ?_⟩; have n0_ := Aside0.mk (Kd.R_elder' (by (with_reducible repeat (first | apply Kd.R_alloc | apply Kd.R_drewN | apply Kd.R_drew)); exact HO104.out) (Kd.R_base ho0) hb); have n1_ := Aside0.mk (Kd.R_lower (Kd.R_new' ho0 (Kd.R_lt (by (with_reducible repeat (first | apply Kd.R_alloc | apply Kd.R_drewN | apply Kd.R_drew)); exact HO104.out))) (below_size (by repeat (first | (with_reducible first | exact HB.out | apply below_alloc | apply pw_below_drewN | apply below_drew1) | exact HB.out)))); have n2_ := Aside0.mk (below_step (by repeat (first | (with_reducible first | exact HB.out | apply below_alloc | apply pw_below_drewN | apply below_drew1) | exact HB.out)) hb); clear HO104; clear HB; have HO104 := n0_; have HO108 := n1_; have HB := n2_; clear n0_ n1_ n2_; (try clear hb); (try clear hb2); (try clear hk); (try clear hi); (try clear ho0); obtain ⟨Ao13, co13, eo13⟩ := Kd.R_slice HO108.out; subst eo13) | ((with_reducible refine gate_callee (f := 25) rfl ?_); refine goesL_ (some 18) rfl rfl Try.func25 (by kernel_rfl) rfl #[.slice Ao13 t106.length co13] rfl (by (try simp only [List.map_toArray, List.map_cons, List.map_nil]); first | done | rfl | (simp only [List.length_drop, List.length_take]; rfl)) ?_; (with_reducible refine (impl_ValidLog.calls _ _ t106 t109 _ ?side1 ?side2 A7.out).mono ?_); (case side1 => repeat (first | exact (Kd.R_reads' HO108.out).2.2 | (with_reducible refine Kd.C_alloc ?_ _) | (with_reducible refine Kd.C_drewN ?_ _) | (with_reducible refine Kd.C_drew ?_))); (case side2 => exact (Kd.R_reads' HO108.out).2.1); rintro e w14 ⟨rfl, hb⟩; refine ⟨_, rfl, ?_⟩; have n0_ := Aside0.mk (Kd.R_below (by (with_reducible repeat (first | apply Kd.R_alloc | apply Kd.R_drewN | apply Kd.R_drew)); exact HO104.out) hb); have n1_ := Aside0.mk (Kd.R_below (by (with_reducible repeat (first | apply Kd.R_alloc | apply Kd.R_drewN | apply Kd.R_drew)); exact HO108.out) hb); have n2_ := Aside0.mk (below_step (by repeat (first | (with_reducible first | exact HB.out | apply below_alloc | apply pw_below_drewN | apply below_drew1) | exact HB.out)) hb); clear HO104; clear HO108; clear HB; have HO104 := n0_; have HO108 := n1_; have HB := n2_; clear n0_ n1_ n2_; (try clear hb); (try clear hb2); (try clear hk); (try clear hi)))
      go_ret
      exact ⟨by first | rfl | (simp [errW_none, errW_some, IntKind.wrap_i64, wrap64]; done) | (simp [errW_none, errW_some] <;> rfl) | (simp [*, errW_none, errW_some] <;> rfl), by repeat (first | (with_reducible first | exact HB.out | apply below_alloc | apply pw_below_drewN | apply below_drew1) | exact HB.out)⟩
    · rw [if_neg c8] at H
      have c8b0 : (t109 != t105) = false := by simpa using c8
      (try (have c8b1 : decide (t109 = t105) = true := by simpa using c8))
      (try (have c8b2 : (t109 == t105) = true := by simpa using c8))
      clear c8
      replace H := Option.bind_eq_some_iff.mp H
      obtain ⟨t110, A150, H⟩ := H
      replace H : ((laws_eqLog.f k t106 t110).bind fun t113 => (if t113 = true then (some true) else (some false))) = some r := H
      have A15 := Aside0.mk A150
      clear A150
      replace H := Option.bind_eq_some_iff.mp H
      obtain ⟨t113, A160, H⟩ := H
      replace H : (if t113 = true then (some true) else (some false)) = some r := H
      have A16 := Aside0.mk A160
      clear A160
      by_cases c17 : t113 = true
      · subst c17
        have H1 : (some true) = some r := by rw [if_pos rfl] at H; exact H
        clear H
        have H := H1
        clear H1
        obtain rfl := Option.some.inj H
        go_enter Try.func4, Try.ntmps4
        go_wp2_with (first | ((with_reducible refine gate_callee (f := 19) rfl ?_); refine goesL_ (some 9) rfl rfl Try.func19 (by kernel_rfl) rfl #[.slice A0 l0.length c0, .int .i64 1048576] rfl (by (try simp only [List.map_toArray, List.map_cons, List.map_nil]); first | done | rfl | (simp only [List.length_drop, List.length_take]; rfl)) ?_; (with_reducible refine (laws_szLog.calls _ _ l0 1048576 t101 _ ?side1 ?side2 A2.out).mono ?_); (case side1 => repeat (first | exact HR0.out | (with_reducible refine Kd.C_alloc ?_ _) | (with_reducible refine Kd.C_drewN ?_ _) | (with_reducible refine Kd.C_drew ?_))); (case side2 => exact HC0.out); rintro e w' ⟨rfl, ⟨nd, rfl⟩⟩; refine ⟨_, rfl, ?_⟩) | ((with_reducible refine gate_callee (f := 21) rfl ?_); refine goesL_ (some 13) rfl rfl Try.func21 (by kernel_rfl) rfl #[.slice A0 l0.length c0] rfl (by (try simp only [List.map_toArray, List.map_cons, List.map_nil]); first | done | rfl | (simp only [List.length_drop, List.length_take]; rfl)) ?_; (with_reducible refine (laws_toLog.calls k _ _ l0 t102 _ ?side1 ?side2 A4.out).mono ?_); (case side1 => repeat (first | exact HR0.out | (with_reducible refine Kd.C_alloc ?_ _) | (with_reducible refine Kd.C_drewN ?_ _) | (with_reducible refine Kd.C_drew ?_))); (case side2 => exact HC0.out); rintro e w18 ⟨v103, rfl, ho0, hb⟩; refine ⟨_, rfl, ?_⟩; have n0_ := Aside0.mk (Kd.R_lower ho0 (below_size (by repeat (first | (with_reducible first | exact HB.out | apply below_alloc | apply pw_below_drewN | apply below_drew1) | exact HB.out)))); have n1_ := Aside0.mk (below_step (by repeat (first | (with_reducible first | exact HB.out | apply below_alloc | apply pw_below_drewN | apply below_drew1) | exact HB.out)) hb); clear HB; have HO104 := n0_; have HB := n1_; clear n0_ n1_; (try clear hb); (try clear hb2); (try clear hk); (try clear hi); (try clear ho0); obtain ⟨Ao19, co19, eo19⟩ := Kd.R_slice HO104.out; subst eo19) | ((with_reducible refine gate_callee (f := 24) rfl ?_); refine goesL_ (some 14) rfl rfl Try.func24 (by kernel_rfl) rfl #[.slice Ao19 t102.length co19] rfl (by (try simp only [List.map_toArray, List.map_cons, List.map_nil]); first | done | rfl | (simp only [List.length_drop, List.length_take]; rfl)) ?_; (with_reducible refine (spec_ValidLog.calls k _ _ t102 t105 _ ?side1 ?side2 A5.out).mono ?_); (case side1 => repeat (first | exact (Kd.R_reads' HO104.out).2.2 | (with_reducible refine Kd.C_alloc ?_ _) | (with_reducible refine Kd.C_drewN ?_ _) | (with_reducible refine Kd.C_drew ?_))); (case side2 => exact (Kd.R_reads' HO104.out).2.1); rintro e w20 ⟨rfl, hb⟩; refine ⟨_, rfl, ?_⟩; have n0_ := Aside0.mk (Kd.R_below (by (with_reducible repeat (first | apply Kd.R_alloc | apply Kd.R_drewN | apply Kd.R_drew)); exact HO104.out) hb); have n1_ := Aside0.mk (below_step (by repeat (first | (with_reducible first | exact HB.out | apply below_alloc | apply pw_below_drewN | apply below_drew1) | exact HB.out)) hb); clear HO104; clear HB; have HO104 := n0_; have HB := n1_; clear n0_ n1_; (try clear hb); (try clear hb2); (try clear hk); (try clear hi)) | ((with_reducible refine gate_callee (f := 21) rfl ?_); refine goesL_ (some 16) rfl rfl Try.func21 (by kernel_rfl) rfl #[.slice A0 l0.length c0] rfl (by (try simp only [List.map_toArray, List.map_cons, List.map_nil]); first | done | rfl | (simp only [List.length_drop, List.length_take]; rfl)) ?_; (with_reducible refine (laws_toLog.calls k _ _ l0 t106 _ ?side1 ?side2 A6.out).mono ?_); (case side1 => repeat (first | exact (Kd.C_below HR0.out HB.out) | (with_reducible refine Kd.C_alloc ?_ _) | (with_reducible refine Kd.C_drewN ?_ _) | (with_reducible refine Kd.C_drew ?_))); (case side2 => exact HC0.out); rintro e w21 ⟨v107, rfl, ho0, hb⟩; refine ⟨_, rfl, ?_⟩; have n0_ := Aside0.mk (Kd.R_elder' (by (with_reducible repeat (first | apply Kd.R_alloc | apply Kd.R_drewN | apply Kd.R_drew)); exact HO104.out) (Kd.R_base ho0) hb); have n1_ := Aside0.mk (Kd.R_lower (Kd.R_new' ho0 (Kd.R_lt (by (with_reducible repeat (first | apply Kd.R_alloc | apply Kd.R_drewN | apply Kd.R_drew)); exact HO104.out))) (below_size (by repeat (first | (with_reducible first | exact HB.out | apply below_alloc | apply pw_below_drewN | apply below_drew1) | exact HB.out)))); have n2_ := Aside0.mk (below_step (by repeat (first | (with_reducible first | exact HB.out | apply below_alloc | apply pw_below_drewN | apply below_drew1) | exact HB.out)) hb); clear HO104; clear HB; have HO104 := n0_; have HO108 := n1_; have HB := n2_; clear n0_ n1_ n2_; (try clear hb); (try clear hb2); (try clear hk); (try clear hi); (try clear ho0); obtain ⟨Ao22, co22, eo22⟩ := Kd.R_slice HO108.out; subst eo22) | ((with_reducible refine gate_callee (f := 25) rfl ?_); refine goesL_ (some 18) rfl rfl Try.func25 (by kernel_rfl) rfl #[.slice Ao22 t106.length co22] rfl (by (try simp only [List.map_toArray, List.map_cons, List.map_nil]); first | done | rfl | (simp only [List.length_drop, List.length_take]; rfl)) ?_; (with_reducible refine (impl_ValidLog.calls _ _ t106 t109 _ ?side1 ?side2 A7.out).mono ?_); (case side1 => repeat (first | exact (Kd.R_reads' HO108.out).2.2 | (with_reducible refine Kd.C_alloc ?_ _) | (with_reducible refine Kd.C_drewN ?_ _) | (with_reducible refine Kd.C_drew ?_))); (case side2 => exact (Kd.R_reads' HO108.out).2.1); rintro e w23 ⟨rfl, hb⟩; refine ⟨_, rfl, ?_⟩; have n0_ := Aside0.mk (Kd.R_below (by (with_reducible repeat (first | apply Kd.R_alloc | apply Kd.R_drewN | apply Kd.R_drew)); exact HO104.out) hb); have n1_ := Aside0.mk (Kd.R_below (by (with_reducible repeat (first | apply Kd.R_alloc | apply Kd.R_drewN | apply Kd.R_drew)); exact HO108.out) hb); have n2_ := Aside0.mk (below_step (by repeat (first | (with_reducible first | exact HB.out | apply below_alloc | apply pw_below_drewN | apply below_drew1) | exact HB.out)) hb); clear HO104; clear HO108; clear HB; have HO104 := n0_; have HO108 := n1_; have HB := n2_; clear n0_ n1_ n2_; (try clear hb); (try clear hb2); (try clear hk); (try clear hi)) | ((with_reducible refine gate_callee (f := 21) rfl ?_); refine goesL_ (some 24) rfl rfl Try.func21 (by kernel_rfl) rfl #[.slice A0 l0.length c0] rfl (by (try simp only [List.map_toArray, List.map_cons, List.map_nil]); first | done | rfl | (simp only [List.length_drop, List.length_take]; rfl)) ?_; (with_reducible refine (laws_toLog.calls k _ _ l0 t110 _ ?side1 ?side2 A15.out).mono ?_); (case side1 => repeat (first | exact (Kd.C_below HR0.out HB.out) | (with_reducible refine Kd.C_alloc ?_ _) | (with_reducible refine Kd.C_drewN ?_ _) | (with_reducible refine Kd.C_drew ?_))); (case side2 => exact HC0.out); rintro e w24 ⟨v111, rfl, ho0, hb⟩; refine ⟨_, rfl, ?_⟩; have n0_ := Aside0.mk (Kd.R_elder' (by (with_reducible repeat (first | apply Kd.R_alloc | apply Kd.R_drewN | apply Kd.R_drew)); exact HO104.out) (Kd.R_base ho0) hb); have n1_ := Aside0.mk (Kd.R_elder' (by (with_reducible repeat (first | apply Kd.R_alloc | apply Kd.R_drewN | apply Kd.R_drew)); exact HO108.out) (Kd.R_base ho0) hb); have n2_ := Aside0.mk (Kd.R_lower (Kd.R_new' (Kd.R_new' ho0 (Kd.R_lt (by (with_reducible repeat (first | apply Kd.R_alloc | apply Kd.R_drewN | apply Kd.R_drew)); exact HO104.out))) (Kd.R_lt (by (with_reducible repeat (first | apply Kd.R_alloc | apply Kd.R_drewN | apply Kd.R_drew)); exact HO108.out))) (below_size (by repeat (first | (with_reducible first | exact HB.out | apply below_alloc | apply pw_below_drewN | apply below_drew1) | exact HB.out)))); have n3_ := Aside0.mk (below_step (by repeat (first | (with_reducible first | exact HB.out | apply below_alloc | apply pw_below_drewN | apply below_drew1) | exact HB.out)) hb); clear HO104; clear HO108; clear HB; have HO104 := n0_; have HO108 := n1_; have HO112 := n2_; have HB := n3_; clear n0_ n1_ n2_ n3_; (try clear hb); (try clear hb2); (try clear hk); (try clear hi); (try clear ho0); obtain ⟨Ao25, co25, eo25⟩ := Kd.R_slice HO112.out; subst eo25) | ((with_reducible refine gate_callee (f := 23) rfl ?_); refine goesL_ (some 25) rfl rfl Try.func23 (by kernel_rfl) rfl #[.slice Ao22 t106.length co22, .slice Ao25 t110.length co25] rfl (by (try simp only [List.map_toArray, List.map_cons, List.map_nil]); first | done | rfl | (simp only [List.length_drop, List.length_take]; rfl)) ?_; (with_reducible refine (laws_eqLog.calls k _ _ t106 _ _ t110 true _ ?side1 ?side2 ?side3 ?side4 A16.out).mono ?_); (case side1 => repeat (first | exact (Kd.R_reads' HO108.out).2.2 | (with_reducible refine Kd.C_alloc ?_ _) | (with_reducible refine Kd.C_drewN ?_ _) | (with_reducible refine Kd.C_drew ?_))); (case side2 => exact (Kd.R_reads' HO108.out).2.1); (case side3 => repeat (first | exact (Kd.R_reads' HO112.out).2.2 | (with_reducible refine Kd.C_alloc ?_ _) | (with_reducible refine Kd.C_drewN ?_ _) | (with_reducible refine Kd.C_drew ?_))); (case side4 => exact (Kd.R_reads' HO112.out).2.1); rintro e w26 ⟨rfl, hb⟩; refine ⟨_, rfl, ?_⟩; have n0_ := Aside0.mk (Kd.R_below (by (with_reducible repeat (first | apply Kd.R_alloc | apply Kd.R_drewN | apply Kd.R_drew)); exact HO104.out) hb); have n1_ := Aside0.mk (Kd.R_below (by (with_reducible repeat (first | apply Kd.R_alloc | apply Kd.R_drewN | apply Kd.R_drew)); exact HO108.out) hb); have n2_ := Aside0.mk (Kd.R_below (by (with_reducible repeat (first | apply Kd.R_alloc | apply Kd.R_drewN | apply Kd.R_drew)); exact HO112.out) hb); have n3_ := Aside0.mk (below_step (by repeat (first | (with_reducible first | exact HB.out | apply below_alloc | apply pw_below_drewN | apply below_drew1) | exact HB.out)) hb); clear HO104; clear HO108; clear HO112; clear HB; have HO104 := n0_; have HO108 := n1_; have HO112 := n2_; have HB := n3_; clear n0_ n1_ n2_ n3_; (try clear hb); (try clear hb2); (try clear hk); (try clear hi)))
        go_ret
        exact ⟨by first | rfl | (simp [errW_none, errW_some, IntKind.wrap_i64, wrap64]; done) | (simp [errW_none, errW_some] <;> rfl) | (simp [*, errW_none, errW_some] <;> rfl), by repeat (first | (with_reducible first | exact HB.out | apply below_alloc | apply pw_below_drewN | apply below_drew1) | exact HB.out)⟩
      · replace c17 := Bool.eq_false_iff.mpr c17
        subst c17
        have H1 : (some false) = some r := by rw [if_neg (show ¬ (false = true) by decide)] at H; exact H
        clear H
        have H := H1
        clear H1
        obtain rfl := Option.some.inj H
        go_enter Try.func4, Try.ntmps4
        go_wp2_with (first | ((with_reducible refine gate_callee (f := 19) rfl ?_); refine goesL_ (some 9) rfl rfl Try.func19 (by kernel_rfl) rfl #[.slice A0 l0.length c0, .int .i64 1048576] rfl (by (try simp only [List.map_toArray, List.map_cons, List.map_nil]); first | done | rfl | (simp only [List.length_drop, List.length_take]; rfl)) ?_; (with_reducible refine (laws_szLog.calls _ _ l0 1048576 t101 _ ?side1 ?side2 A2.out).mono ?_); (case side1 => repeat (first | exact HR0.out | (with_reducible refine Kd.C_alloc ?_ _) | (with_reducible refine Kd.C_drewN ?_ _) | (with_reducible refine Kd.C_drew ?_))); (case side2 => exact HC0.out); rintro e w' ⟨rfl, ⟨nd, rfl⟩⟩; refine ⟨_, rfl, ?_⟩) | ((with_reducible refine gate_callee (f := 21) rfl ?_); refine goesL_ (some 13) rfl rfl Try.func21 (by kernel_rfl) rfl #[.slice A0 l0.length c0] rfl (by (try simp only [List.map_toArray, List.map_cons, List.map_nil]); first | done | rfl | (simp only [List.length_drop, List.length_take]; rfl)) ?_; (with_reducible refine (laws_toLog.calls k _ _ l0 t102 _ ?side1 ?side2 A4.out).mono ?_); (case side1 => repeat (first | exact HR0.out | (with_reducible refine Kd.C_alloc ?_ _) | (with_reducible refine Kd.C_drewN ?_ _) | (with_reducible refine Kd.C_drew ?_))); (case side2 => exact HC0.out); rintro e w27 ⟨v103, rfl, ho0, hb⟩; refine ⟨_, rfl, ?_⟩; have n0_ := Aside0.mk (Kd.R_lower ho0 (below_size (by repeat (first | (with_reducible first | exact HB.out | apply below_alloc | apply pw_below_drewN | apply below_drew1) | exact HB.out)))); have n1_ := Aside0.mk (below_step (by repeat (first | (with_reducible first | exact HB.out | apply below_alloc | apply pw_below_drewN | apply below_drew1) | exact HB.out)) hb); clear HB; have HO104 := n0_; have HB := n1_; clear n0_ n1_; (try clear hb); (try clear hb2); (try clear hk); (try clear hi); (try clear ho0); obtain ⟨Ao28, co28, eo28⟩ := Kd.R_slice HO104.out; subst eo28) | ((with_reducible refine gate_callee (f := 24) rfl ?_); refine goesL_ (some 14) rfl rfl Try.func24 (by kernel_rfl) rfl #[.slice Ao28 t102.length co28] rfl (by (try simp only [List.map_toArray, List.map_cons, List.map_nil]); first | done | rfl | (simp only [List.length_drop, List.length_take]; rfl)) ?_; (with_reducible refine (spec_ValidLog.calls k _ _ t102 t105 _ ?side1 ?side2 A5.out).mono ?_); (case side1 => repeat (first | exact (Kd.R_reads' HO104.out).2.2 | (with_reducible refine Kd.C_alloc ?_ _) | (with_reducible refine Kd.C_drewN ?_ _) | (with_reducible refine Kd.C_drew ?_))); (case side2 => exact (Kd.R_reads' HO104.out).2.1); rintro e w29 ⟨rfl, hb⟩; refine ⟨_, rfl, ?_⟩; have n0_ := Aside0.mk (Kd.R_below (by (with_reducible repeat (first | apply Kd.R_alloc | apply Kd.R_drewN | apply Kd.R_drew)); exact HO104.out) hb); have n1_ := Aside0.mk (below_step (by repeat (first | (with_reducible first | exact HB.out | apply below_alloc | apply pw_below_drewN | apply below_drew1) | exact HB.out)) hb); clear HO104; clear HB; have HO104 := n0_; have HB := n1_; clear n0_ n1_; (try clear hb); (try clear hb2); (try clear hk); (try clear hi)) | ((with_reducible refine gate_callee (f := 21) rfl ?_); refine goesL_ (some 16) rfl rfl Try.func21 (by kernel_rfl) rfl #[.slice A0 l0.length c0] rfl (by (try simp only [List.map_toArray, List.map_cons, List.map_nil]); first | done | rfl | (simp only [List.length_drop, List.length_take]; rfl)) ?_; (with_reducible refine (laws_toLog.calls k _ _ l0 t106 _ ?side1 ?side2 A6.out).mono ?_); (case side1 => repeat (first | exact (Kd.C_below HR0.out HB.out) | (with_reducible refine Kd.C_alloc ?_ _) | (with_reducible refine Kd.C_drewN ?_ _) | (with_reducible refine Kd.C_drew ?_))); (case side2 => exact HC0.out); rintro e w30 ⟨v107, rfl, ho0, hb⟩; refine ⟨_, rfl, ?_⟩; have n0_ := Aside0.mk (Kd.R_elder' (by (with_reducible repeat (first | apply Kd.R_alloc | apply Kd.R_drewN | apply Kd.R_drew)); exact HO104.out) (Kd.R_base ho0) hb); have n1_ := Aside0.mk (Kd.R_lower (Kd.R_new' ho0 (Kd.R_lt (by (with_reducible repeat (first | apply Kd.R_alloc | apply Kd.R_drewN | apply Kd.R_drew)); exact HO104.out))) (below_size (by repeat (first | (with_reducible first | exact HB.out | apply below_alloc | apply pw_below_drewN | apply below_drew1) | exact HB.out)))); have n2_ := Aside0.mk (below_step (by repeat (first | (with_reducible first | exact HB.out | apply below_alloc | apply pw_below_drewN | apply below_drew1) | exact HB.out)) hb); clear HO104; clear HB; have HO104 := n0_; have HO108 := n1_; have HB := n2_; clear n0_ n1_ n2_; (try clear hb); (try clear hb2); (try clear hk); (try clear hi); (try clear ho0); obtain ⟨Ao31, co31, eo31⟩ := Kd.R_slice HO108.out; subst eo31) | ((with_reducible refine gate_callee (f := 25) rfl ?_); refine goesL_ (some 18) rfl rfl Try.func25 (by kernel_rfl) rfl #[.slice Ao31 t106.length co31] rfl (by (try simp only [List.map_toArray, List.map_cons, List.map_nil]); first | done | rfl | (simp only [List.length_drop, List.length_take]; rfl)) ?_; (with_reducible refine (impl_ValidLog.calls _ _ t106 t109 _ ?side1 ?side2 A7.out).mono ?_); (case side1 => repeat (first | exact (Kd.R_reads' HO108.out).2.2 | (with_reducible refine Kd.C_alloc ?_ _) | (with_reducible refine Kd.C_drewN ?_ _) | (with_reducible refine Kd.C_drew ?_))); (case side2 => exact (Kd.R_reads' HO108.out).2.1); rintro e w32 ⟨rfl, hb⟩; refine ⟨_, rfl, ?_⟩; have n0_ := Aside0.mk (Kd.R_below (by (with_reducible repeat (first | apply Kd.R_alloc | apply Kd.R_drewN | apply Kd.R_drew)); exact HO104.out) hb); have n1_ := Aside0.mk (Kd.R_below (by (with_reducible repeat (first | apply Kd.R_alloc | apply Kd.R_drewN | apply Kd.R_drew)); exact HO108.out) hb); have n2_ := Aside0.mk (below_step (by repeat (first | (with_reducible first | exact HB.out | apply below_alloc | apply pw_below_drewN | apply below_drew1) | exact HB.out)) hb); clear HO104; clear HO108; clear HB; have HO104 := n0_; have HO108 := n1_; have HB := n2_; clear n0_ n1_ n2_; (try clear hb); (try clear hb2); (try clear hk); (try clear hi)) | ((with_reducible refine gate_callee (f := 21) rfl ?_); refine goesL_ (some 24) rfl rfl Try.func21 (by kernel_rfl) rfl #[.slice A0 l0.length c0] rfl (by (try simp only [List.map_toArray, List.map_cons, List.map_nil]); first | done | rfl | (simp only [List.length_drop, List.length_take]; rfl)) ?_; (with_reducible refine (laws_toLog.calls k _ _ l0 t110 _ ?side1 ?side2 A15.out).mono ?_); (case side1 => repeat (first | exact (Kd.C_below HR0.out HB.out) | (with_reducible refine Kd.C_alloc ?_ _) | (with_reducible refine Kd.C_drewN ?_ _) | (with_reducible refine Kd.C_drew ?_))); (case side2 => exact HC0.out); rintro e w33 ⟨v111, rfl, ho0, hb⟩; refine ⟨_, rfl, ?_⟩; have n0_ := Aside0.mk (Kd.R_elder' (by (with_reducible repeat (first | apply Kd.R_alloc | apply Kd.R_drewN | apply Kd.R_drew)); exact HO104.out) (Kd.R_base ho0) hb); have n1_ := Aside0.mk (Kd.R_elder' (by (with_reducible repeat (first | apply Kd.R_alloc | apply Kd.R_drewN | apply Kd.R_drew)); exact HO108.out) (Kd.R_base ho0) hb); have n2_ := Aside0.mk (Kd.R_lower (Kd.R_new' (Kd.R_new' ho0 (Kd.R_lt (by (with_reducible repeat (first | apply Kd.R_alloc | apply Kd.R_drewN | apply Kd.R_drew)); exact HO104.out))) (Kd.R_lt (by (with_reducible repeat (first | apply Kd.R_alloc | apply Kd.R_drewN | apply Kd.R_drew)); exact HO108.out))) (below_size (by repeat (first | (with_reducible first | exact HB.out | apply below_alloc | apply pw_below_drewN | apply below_drew1) | exact HB.out)))); have n3_ := Aside0.mk (below_step (by repeat (first | (with_reducible first | exact HB.out | apply below_alloc | apply pw_below_drewN | apply below_drew1) | exact HB.out)) hb); clear HO104; clear HO108; clear HB; have HO104 := n0_; have HO108 := n1_; have HO112 := n2_; have HB := n3_; clear n0_ n1_ n2_ n3_; (try clear hb); (try clear hb2); (try clear hk); (try clear hi); (try clear ho0); obtain ⟨Ao34, co34, eo34⟩ := Kd.R_slice HO112.out; subst eo34) | ((with_reducible refine gate_callee (f := 23) rfl ?_); refine goesL_ (some 25) rfl rfl Try.func23 (by kernel_rfl) rfl #[.slice Ao31 t106.length co31, .slice Ao34 t110.length co34] rfl (by (try simp only [List.map_toArray, List.map_cons, List.map_nil]); first | done | rfl | (simp only [List.length_drop, List.length_take]; rfl)) ?_; (with_reducible refine (laws_eqLog.calls k _ _ t106 _ _ t110 false _ ?side1 ?side2 ?side3 ?side4 A16.out).mono ?_); (case side1 => repeat (first | exact (Kd.R_reads' HO108.out).2.2 | (with_reducible refine Kd.C_alloc ?_ _) | (with_reducible refine Kd.C_drewN ?_ _) | (with_reducible refine Kd.C_drew ?_))); (case side2 => exact (Kd.R_reads' HO108.out).2.1); (case side3 => repeat (first | exact (Kd.R_reads' HO112.out).2.2 | (with_reducible refine Kd.C_alloc ?_ _) | (with_reducible refine Kd.C_drewN ?_ _) | (with_reducible refine Kd.C_drew ?_))); (case side4 => exact (Kd.R_reads' HO112.out).2.1); rintro e w35 ⟨rfl, hb⟩; refine ⟨_, rfl, ?_⟩; have n0_ := Aside0.mk (Kd.R_below (by (with_reducible repeat (first | apply Kd.R_alloc | apply Kd.R_drewN | apply Kd.R_drew)); exact HO104.out) hb); have n1_ := Aside0.mk (Kd.R_below (by (with_reducible repeat (first | apply Kd.R_alloc | apply Kd.R_drewN | apply Kd.R_drew)); exact HO108.out) hb); have n2_ := Aside0.mk (Kd.R_below (by (with_reducible repeat (first | apply Kd.R_alloc | apply Kd.R_drewN | apply Kd.R_drew)); exact HO112.out) hb); have n3_ := Aside0.mk (below_step (by repeat (first | (with_reducible first | exact HB.out | apply below_alloc | apply pw_below_drewN | apply below_drew1) | exact HB.out)) hb); clear HO104; clear HO108; clear HO112; clear HB; have HO104 := n0_; have HO108 := n1_; have HO112 := n2_; have HB := n3_; clear n0_ n1_ n2_ n3_; (try clear hb); (try clear hb2); (try clear hk); (try clear hi)))
        go_ret
        exact ⟨by first | rfl | (simp [errW_none, errW_some, IntKind.wrap_i64, wrap64]; done) | (simp [errW_none, errW_some] <;> rfl) | (simp [*, errW_none, errW_some] <;> rfl), by repeat (first | (with_reducible first | exact HB.out | apply below_alloc | apply pw_below_drewN | apply below_drew1) | exact HB.out)⟩

end Go.Proofs.Ytidkniacmcbgiaa.G
end

section
namespace Go.Proofs.Ytidkniacmcbgiaa.G.Pure
open Go.RowKit Go.Proofs.Ytidkniacmcbgiaa.G Go.Proofs.YtidkniacmcbgiaaW.PrintWords Go.Proofs.YtidkniacmcbgiaaW.PrintLast Go.Proofs.YtidkniacmcbgiaaW.PrintMore
set_option linter.unusedVariables false
set_option linter.unusedSimpArgs false
theorem szLog_big {l : List (S75)} (h : l.length ≤ 9223372036854775807) (hL : ¬ l.length ≤ 1048576) : laws_szLog.f l 1048576 = some (-1) := by
  rw [szLog_eq _ _ (by omega) (by omega) h, if_pos (by omega)]
theorem szLog_small {l : List (S75)} (hL : l.length ≤ 1048576) : ∃ n, laws_szLog.f l 1048576 = some n ∧ ¬ n < 0 := by
  refine ⟨_, szLog_eq _ _ (by omega) (by omega) (by omega), ?_⟩
  rw [if_neg (by omega)]
  omega
theorem FnExactValidLog (l0 : List (S75)) (h00 : l0.length ≤ 9223372036854775807) (h01 : (∀ x ∈ l0, (Lit.int .i64 x.f0).wf = true ∧ (Lit.int .i64 x.f1).wf = true ∧ True)) : ∃ k, laws_FnExactValidLog.f k l0 = some true := by
  by_cases hL : l0.length ≤ 1048576
  · obtain ⟨n, hn, hn0⟩ := szLog_small hL
    obtain ⟨k, hk⟩ : ∃ k, 1100000 < k := ⟨_, Nat.lt_succ_self _⟩
    refine ⟨k, ?_⟩
    have hL' : (l0.map entryOf).length ≤ 1048576 := by simpa using hL
    have e1 := toLog_eq k l0 hL (by omega)
    have q1 := eqLog_self k (l0.map entryOf) hL' (by omega)
    have s1 := specOk_log (k := k) (l := l0.map entryOf) (by omega)
    have i1 := implValid_log hL'
    unfold laws_FnExactValidLog.f
    rw [hn]
    simp only [Option.bind_some]
    rw [if_neg hn0]
    simp [spec_ValidLog.f, e1, q1, s1, i1]
  · refine ⟨0, ?_⟩
    unfold laws_FnExactValidLog.f
    rw [szLog_big h00 hL]
    rfl

end Go.Proofs.Ytidkniacmcbgiaa.G.Pure
end

section
namespace Go.Proofs.Ytidkniacmcbgiaa.G.Pure
open Go.RowKit Go.Proofs.Ytidkniacmcbgiaa.G Go.Proofs.YtidkniacmcbgiaaW.PrintWords Go.Proofs.YtidkniacmcbgiaaW.PrintLast Go.Proofs.YtidkniacmcbgiaaW.PrintMore
set_option linter.unusedVariables false
set_option linter.unusedSimpArgs false
/-! A log whose times are moved. -/
def mv (by_ : Int) (x : En) : En := ⟨x.f0 + by_, x.f1, x.f2⟩
theorem rdE_map {l : List En} {i : Nat} (b : Int) (h : i < l.length) : rd_T73 (l.map (mv b)) (i : Int) = mv b (rd_T73 l (i : Int)) := by
  rw [rd_impl_Entry (by simpa using h), rd_impl_Entry h]
  simp
theorem idxP_congr {α : Type} {p q : α → Bool} {l : List α} (h : ∀ x ∈ l, p x = q x) : idxP p l = idxP q l := by
  have e : l.findIdx? p = l.findIdx? q := by
    induction l with
    | nil => rfl
    | cons a l ih =>
      rw [List.findIdx?_cons, List.findIdx?_cons, h a (by simp), ih (fun x hx => h x (by simp [hx]))]
  simp [idxP, e]
theorem ups_mv (b : Int) {l : List En} {n : Nat} (hn : n ≤ l.length) : ups (l.map (mv b)) n = ups l n := by
  induction n with
  | zero => rfl
  | succ n ih =>
    rw [ups, ups, ih (by omega)]
    cases hu : ups l n with
    | none => rfl
    | some out =>
      obtain ⟨h1, h2, h3⟩ := ups_ok hu
      have hat : atE (l.map (mv b)) n out = atE l n out := by
        unfold atE impl_Log_up.at
        rw [rdE_map b (by omega)]
        refine idxP_congr (fun x hx => ?_)
        have := h2 x hx
        obtain ⟨q, rfl⟩ : ∃ q : Nat, x = (q : Int) := ⟨x.toNat, by omega⟩
        rw [rdE_map b (by omega)]
        rfl
      simp only [Option.bind_some]
      unfold upsStep
      rw [hat, rdE_map b (by omega)]
      rfl
def inT (b : Int) (x : En) : Bool := decide (0 ≤ x.f0 + b) && decide (x.f0 + b ≤ 100000)
/-- The first n times, moved, are times. -/
def allT (b : Int) (l : List En) : Nat → Bool
  | 0 => true
  | n + 1 => allT b l n && inT b (rd_T73 l (n : Int))
theorem allT_false {b : Int} {l : List En} {i n : Nat} (h : allT b l i = false) (hi : i ≤ n) : allT b l n = false := by
  induction n with
  | zero => obtain rfl : i = 0 := by omega
            exact h
  | succ n ih =>
    rcases Nat.lt_or_ge i (n + 1) with h1 | h1
    · rw [allT, ih (by omega)]
      rfl
    · obtain rfl : i = n + 1 := by omega
      exact h
theorem gd_at {l : List En} {n : Nat} (h : gd l n = true) {i : Nat} (hi : i < n) : impl_Log_up.good (lastT l i) (rd_T73 l (i : Int)) = true := by
  induction n with
  | zero => omega
  | succ n ih =>
    rw [gd, Bool.and_eq_true] at h
    rcases Nat.lt_or_ge i n with h1 | h1
    · exact ih h.1 h1
    · obtain rfl : i = n := by omega
      exact h.2
theorem lastT_nonneg {l : List En} {n : Nat} (h : gd l n = true) : 0 ≤ lastT l n := by
  induction n with
  | zero => simp [lastT]
  | succ n ih =>
    rw [gd, Bool.and_eq_true] at h
    have h1 := ih h.1
    have h2 := h.2
    unfold impl_Log_up.good at h2
    simp only [Bool.and_eq_true, decide_eq_true_eq] at h2
    rw [lastT]
    omega
theorem gd_mv (b : Int) {l : List En} {n : Nat} (hn : n ≤ l.length) (h : gd l n = true) : gd (l.map (mv b)) n = allT b l n := by
  induction n with
  | zero => rfl
  | succ n ih =>
    rw [gd, allT]
    rw [gd, Bool.and_eq_true] at h
    obtain ⟨h0, hg⟩ := h
    rw [ih (by omega) h0, rdE_map b (by omega)]
    cases ha : allT b l n with
    | false => rfl
    | true =>
      have hl0 := lastT_nonneg h0
      simp only [Bool.true_and]
      unfold impl_Log_up.good at hg ⊢
      simp only [Bool.and_eq_true, decide_eq_true_eq] at hg
      unfold inT
      simp only [show ∀ x : En, (mv b x).f0 = x.f0 + b from fun _ => rfl, show ∀ x : En, (mv b x).f1 = x.f1 from fun _ => rfl]
      have hlast : lastT (l.map (mv b)) n ≤ (rd_T73 l (n : Int)).f0 + b ↔ 0 ≤ (rd_T73 l (n : Int)).f0 + b := by
        cases n with
        | zero => exact Iff.rfl
        | succ m =>
          rw [lastT, rdE_map b (by omega)]
          rw [allT, Bool.and_eq_true] at ha
          have := ha.2
          unfold inT at this
          simp only [Bool.and_eq_true, decide_eq_true_eq] at this
          rw [lastT] at hg
          show (rd_T73 l (m : Int)).f0 + b ≤ _ ↔ _
          omega
      rw [show decide (lastT (l.map (mv b)) n ≤ (rd_T73 l (n : Int)).f0 + b) = decide (0 ≤ (rd_T73 l (n : Int)).f0 + b) from decide_eq_decide.2 hlast, decide_eq_true hg.2.1, decide_eq_true hg.2.2]
      simp
theorem validG_mv {b : Int} {l : List En} (h : validG l = true) : validG (l.map (mv b)) = allT b l l.length := by
  unfold validG at h ⊢
  simp only [Bool.and_eq_true, decide_eq_true_eq] at h
  obtain ⟨⟨h1, h2⟩, h3⟩ := h
  rw [List.length_map, ups_mv b (Nat.le_refl _), gd_mv b (Nat.le_refl _) h2, h3, decide_eq_true h1]
  simp
theorem valid_times {l : List En} (h : validG l = true) {i : Nat} (hi : i < l.length) : 0 ≤ (rd_T73 l (i : Int)).f0 ∧ (rd_T73 l (i : Int)).f0 ≤ 100000 := by
  unfold validG at h
  simp only [Bool.and_eq_true, decide_eq_true_eq] at h
  obtain ⟨⟨h1, h2⟩, h3⟩ := h
  have hg := gd_at h2 hi
  have hl := lastT_nonneg (l := l) (n := i) (by
    cases hgi : gd l i with
    | true => rfl
    | false => rw [gd_false hgi (by omega)] at h2; cases h2)
  unfold impl_Log_up.good at hg
  simp only [Bool.and_eq_true, decide_eq_true_eq] at hg
  omega
theorem valid_len {l : List En} (h : validG l = true) : l.length ≤ 60 := by
  unfold validG at h
  simp only [Bool.and_eq_true, decide_eq_true_eq] at h
  exact h.1.1
def resShift (l : List En) (b : Int) : List En × Int := if validG l = true then (if (decide (-100000 ≤ b) && decide (b ≤ 100000)) = true then (if allT b l l.length = true then (l.map (mv b), 0) else ([], 2)) else ([], 2)) else ([], 1)
theorem implShift_eq {k : Nat} {l : List En} {b : Int} (hl : l.length ≤ 1048576) (hk : 1000 < k) : impl_ShiftLog.f k l b = some (resShift l b) := by
  unfold impl_ShiftLog.f resShift
  rw [implValid_log hl, impl_Log_up.within]
  simp only [Option.bind_some]
  by_cases hv : validG l = true
  · rw [if_pos hv, if_pos hv]
    by_cases hb : (decide (-100000 ≤ b) && decide (b ≤ 100000)) = true
    · rw [if_pos hb, if_pos hb]
      simp only [Bool.and_eq_true, decide_eq_true_eq] at hb
      have h60 := valid_len hv
      unfold slices_Clone_Log_Entry.f
      rw [if_pos (by omega)]
      simp only [Option.bind_some]
      obtain ⟨r, hr, h⟩ := loop_inv (fun k (s : List En × Int) => impl_ShiftLog.l0 k b s.1 (l.length : Int) s.2) l.length
        (fun i s => s.2 = (i : Int) ∧ s.1.length = l.length ∧ s.1.take i = (l.map (mv b)).take i ∧ s.1.drop i = l.drop i) (fun r => r = if allT b l l.length = true then (l.map (mv b), 0) else ([], 2))
        (fun k i s hi ⟨h1, h2, h3, h4⟩ => by
          obtain ⟨acc, x⟩ := s
          simp only at h1 h2 h3 h4
          subst h1
          have ha : acc[i] = l[i] := by
            have := congrArg (·[0]?) h4
            simp only [List.getElem?_drop, Nat.add_zero] at this
            rw [List.getElem?_eq_getElem (by omega), List.getElem?_eq_getElem hi] at this
            exact Option.some.inj this
          have ht := valid_times hv hi
          rw [rd_impl_Entry hi] at ht
          refine .inl ⟨(acc.set i (mv b l[i]), ((i + 1 : Nat) : Int)), ⟨rfl, by simpa using h2, ?_, ?_⟩, ?_⟩
          · simp only
            rw [take_set_succ (by omega), h3, List.take_succ_eq_append_getElem (by simpa using hi)]
            simp
          · simp only
            rw [List.drop_set_of_lt (by omega)]
            have := congrArg (List.drop 1) h4
            simpa [List.drop_drop] using this
          · simp only [impl_ShiftLog.l0]
            rw [if_pos (by omega), if_pos (by omega), if_pos (by omega), rd_impl_Entry (by omega), ha, w64 (n := l[i].f0 + b) (by omega) (by omega), w64 (n := (i : Int) + 1) (by omega) (by omega)]
            rfl)
        (fun k s ⟨h1, h2, h3, h4⟩ => by
          obtain ⟨acc, x⟩ := s
          simp only at h1 h2 h3 h4
          subst h1
          rw [List.take_of_length_le (by omega), List.take_of_length_le (by simp)] at h3
          subst h3
          refine ⟨_, rfl, ?_⟩
          simp only [impl_ShiftLog.l0]
          rw [if_neg (by omega), implValid_log (by omega), validG_mv hv]
          simp only [Option.bind_some]
          split <;> rfl) k (l, 0) ⟨rfl, rfl, by simp, by simp⟩ (by omega)
      subst hr
      exact h
    · rw [if_neg hb, if_neg hb]
  · rw [if_neg hv, if_neg hv]
theorem spec_j1_false (k : Nat) (l : List En) (b : Int) : spec_ShiftLog.j1 (k + 1) l b false = some ([], 2) := by
  simp only [spec_ShiftLog.j1]
  rfl
theorem spec_l1_eq {k : Nat} {l : List En} {b : Int} (hv : validG l = true) (hb : -100000 ≤ b ∧ b ≤ 100000) (hk : l.length < k) : spec_ShiftLog.l1 k l b [] 0 = some (l.map (mv b), 0) := by
  have h60 := valid_len hv
  obtain ⟨r, hr, h⟩ := loop_inv (fun k (s : List En × Int) => spec_ShiftLog.l1 k l b s.1 s.2) l.length
    (fun i s => s.2 = (i : Int) ∧ s.1 = (l.map (mv b)).take i) (fun r => r = (l.map (mv b), 0))
    (fun k i s hi ⟨h1, h2⟩ => by
      obtain ⟨acc, x⟩ := s
      simp only at h1 h2
      subst h1 h2
      have ht := valid_times hv hi
      rw [rd_impl_Entry hi] at ht
      refine .inl ⟨((l.map (mv b)).take (i + 1), ((i + 1 : Nat) : Int)), ⟨rfl, rfl⟩, ?_⟩
      simp only [spec_ShiftLog.l1]
      rw [if_pos (by omega), if_pos (by omega), if_pos (by simp; omega), rd_impl_Entry hi, w64 (n := l[i].f0 + b) (by omega) (by omega), w64 (n := (i : Int) + 1) (by omega) (by omega), List.take_succ_eq_append_getElem (by simpa using hi)]
      simp only [List.getElem_map]
      rfl)
    (fun k s ⟨h1, h2⟩ => by
      obtain ⟨acc, x⟩ := s
      simp only at h1 h2
      subst h1 h2
      refine ⟨_, rfl, ?_⟩
      simp only [spec_ShiftLog.l1]
      rw [if_neg (by omega), List.take_of_length_le (by simp)]) k ([], 0) ⟨rfl, by simp⟩ hk
  subst hr
  exact h
theorem specShift_eq {k : Nat} {l : List En} {b : Int} (hk : 10000 < k) : spec_ShiftLog.f k l b = some (resShift l b) := by
  unfold spec_ShiftLog.f resShift
  rw [specOk_log (by omega), in_log]
  simp only [Option.bind_some]
  by_cases hv : validG l = true
  · rw [if_pos hv, if_pos hv]
    have h60 := valid_len hv
    by_cases hb : (decide (-100000 ≤ b) && decide (b ≤ 100000)) = true
    · rw [hb, if_pos rfl]
      simp only [Bool.and_eq_true, decide_eq_true_eq] at hb
      obtain ⟨r, hr, h⟩ := loop_inv2 (fun k (s : Bool × Int) => spec_ShiftLog.l0 k l b s.1 s.2) l.length 200 (fun i s => s.2 = (i : Int) ∧ s.1 = allT b l i) (fun r => r = if allT b l l.length = true then (l.map (mv b), 0) else ([], 2))
        (fun k i s hi hk ⟨h1, h2⟩ => by
          obtain ⟨a, x⟩ := s
          simp only at h1 h2
          subst h1 h2
          have ht := valid_times hv hi
          simp only [spec_ShiftLog.l0]
          rw [if_pos (by omega)]
          cases ha : allT b l i with
          | false =>
            refine .inr ⟨_, rfl, ?_⟩
            obtain ⟨k, rfl⟩ : ∃ m, k = m + 1 := ⟨k - 1, by omega⟩
            rw [if_neg (by simp), spec_j1_false, allT_false ha (by omega), if_neg (by simp)]
          | true =>
            refine .inl ⟨(allT b l (i + 1), ((i + 1 : Nat) : Int)), ⟨rfl, rfl⟩, ?_⟩
            rw [if_pos rfl, if_pos (by omega), w64 (n := (rd_T73 l (i : Int)).f0 + b) (by omega) (by omega), spec_l07Time.f, in_log]
            simp only [Option.bind_some]
            rw [w64 (n := (i : Int) + 1) (by omega) (by omega), allT, ha]
            simp only [Bool.true_and]
            rfl)
        (fun k s hk ⟨h1, h2⟩ => by
          obtain ⟨a, x⟩ := s
          simp only at h1 h2
          subst h1 h2
          refine ⟨_, rfl, ?_⟩
          obtain ⟨k, rfl⟩ : ∃ m, k = m + 1 := ⟨k - 1, by omega⟩
          simp only [spec_ShiftLog.l0]
          rw [if_neg (by omega)]
          cases ha : allT b l l.length with
          | false => rw [spec_j1_false, if_neg (by simp)]
          | true =>
            simp only [spec_ShiftLog.j1]
            simp only [if_true]
            rw [spec_l1_eq hv hb (by omega)]) k (true, 0) ⟨rfl, rfl⟩ (by omega)
      subst hr
      exact h
    · rw [if_neg hb]
      simp only [Bool.not_eq_true] at hb
      rw [hb]
      obtain ⟨k, rfl⟩ : ∃ m, k = m + 2 := ⟨k - 2, by omega⟩
      simp only [spec_ShiftLog.l0]
      split
      · rw [if_neg (by simp), spec_j1_false]
      · rw [spec_j1_false]
  · rw [if_neg hv, if_neg hv]
def markG (i : Nat) : En := ⟨1 + 3 * (i : Int), 1 + 3 * (i : Int) + 1, Int.tmod (1 + 3 * (i : Int) + 2) 3 == 0⟩
theorem markLog_held (k : Nat) (a : List En) (hl : a.length ≤ 1048576) (hk : a.length < k) : ∃ l m, laws_markLog.f k a 1 = some (m, l) ∧ (∀ k', a.length < k' → laws_heldLog.f k' l 1 = some m) ∧ 0 ≤ m := by
  obtain ⟨r, ⟨h1, h2, h3⟩, h⟩ := loop_inv (fun k (s : List En × Int × Int) => laws_markLog.l0 k s.1 s.2.1 s.2.2) a.length
    (fun i s => s.2.2 = (i : Int) ∧ s.2.1 = 1 + 3 * (i : Int) ∧ s.1.length = a.length ∧ ∀ j (h : j < s.1.length), j < i → s.1[j] = markG j)
    (fun r => r.1 = 1 + 3 * (a.length : Int) ∧ r.2.length = a.length ∧ ∀ j (h : j < r.2.length), r.2[j] = markG j)
    (fun k i s hi ⟨h1, h2, h3, h4⟩ => by
      obtain ⟨acc, m, x⟩ := s
      simp only at h1 h2 h3 h4
      subst h1 h2
      refine .inl ⟨(acc.set i (markG i), 1 + 3 * ((i + 1 : Nat) : Int), ((i + 1 : Nat) : Int)), ⟨rfl, rfl, by simpa using h3, fun j hj hji => ?_⟩, ?_⟩
      · simp only [List.getElem_set]
        split
        · rename_i e; subst e; rfl
        · simp only [List.length_set] at hj
          exact h4 j hj (by omega)
      · have hia : i < acc.length := by omega
        simp only [laws_markLog.l0]
        rw [if_pos (by omega), if_pos (by omega)]
        simp only [Option.bind_some, Int.toNat_natCast]
        rw [w64 (n := 1 + 3 * (i : Int) + 1) (by omega) (by omega), w64 (n := 1 + 3 * (i : Int) + 1 + 1) (by omega) (by omega), w64 (n := 1 + 3 * (i : Int) + 1 + 1 + 1) (by omega) (by omega), w64 (n := (i : Int) + 1) (by omega) (by omega)]
        simp only [rd_set_Entry, hia, List.set_set, List.length_set]
        rw [show 1 + 3 * (i : Int) + 1 + 1 + 1 = 1 + 3 * ((i + 1 : Nat) : Int) by omega, show 1 + 3 * (i : Int) + 1 + 1 = 1 + 3 * (i : Int) + 2 by omega]
        rfl)
    (fun k s ⟨h1, h2, h3, h4⟩ => by
      obtain ⟨acc, m, x⟩ := s
      simp only at h1 h2 h3 h4
      subst h1 h2
      refine ⟨(1 + 3 * (a.length : Int), acc), ⟨rfl, h3, fun j hj => h4 j hj (by rw [← h3]; exact hj)⟩, ?_⟩
      simp only [laws_markLog.l0]
      rw [if_neg (by omega)]) k (a, 1, 0) ⟨rfl, rfl, rfl, fun j _ h => absurd h (Nat.not_lt_zero _)⟩ hk
  obtain ⟨m, l⟩ := r
  simp only at h1 h2 h3
  refine ⟨l, m, h, fun k' hk' => ?_, by omega⟩
  obtain ⟨r, hr, h'⟩ := loop_inv (fun k (s : Int × Int) => laws_heldLog.l0 k l s.1 s.2) l.length (fun i s => s.2 = (i : Int) ∧ s.1 = 1 + 3 * (i : Int)) (fun r => r = m)
    (fun k i s hi ⟨g1, g2⟩ => by
      obtain ⟨m', x⟩ := s
      simp only at g1 g2
      subst g1 g2
      refine .inl ⟨(1 + 3 * ((i + 1 : Nat) : Int), ((i + 1 : Nat) : Int)), ⟨rfl, rfl⟩, ?_⟩
      simp only [laws_heldLog.l0]
      rw [w64 (n := 1 + 3 * (i : Int) + 1) (by omega) (by omega), w64 (n := 1 + 3 * (i : Int) + 1 + 1) (by omega) (by omega), w64 (n := 1 + 3 * (i : Int) + 1 + 1 + 1) (by omega) (by omega), w64 (n := (i : Int) + 1) (by omega) (by omega)]
      rw [if_pos (by omega), if_pos (by omega), rd_impl_Entry hi, h3 i hi, if_pos (show (markG i).f0 = 1 + 3 * (i : Int) from rfl), if_pos (show (markG i).f1 = 1 + 3 * (i : Int) + 1 from rfl), show 1 + 3 * (i : Int) + 1 + 1 = 1 + 3 * (i : Int) + 2 by omega, if_neg (show ¬ ((markG i).f2 != (Int.tmod (1 + 3 * (i : Int) + 2) 3 == 0)) = true by simp [markG])]
      rw [show 1 + 3 * (i : Int) + 2 + 1 = 1 + 3 * ((i + 1 : Nat) : Int) by omega]
      rfl)
    (fun k s ⟨g1, g2⟩ => by
      obtain ⟨m', x⟩ := s
      simp only at g1 g2
      subst g1 g2
      refine ⟨m, rfl, ?_⟩
      simp only [laws_heldLog.l0]
      rw [if_neg (by omega), h1, h2]) k' (1, 0) ⟨rfl, rfl⟩ (by omega)
  subst hr
  exact h'

end Go.Proofs.Ytidkniacmcbgiaa.G.Pure
end

section
namespace Go.Proofs.Ytidkniacmcbgiaa.G.Pure
open Go.RowKit Go.Proofs.Ytidkniacmcbgiaa.G Go.Proofs.YtidkniacmcbgiaaW.PrintWords Go.Proofs.YtidkniacmcbgiaaW.PrintLast Go.Proofs.YtidkniacmcbgiaaW.PrintMore
set_option linter.unusedVariables false
set_option linter.unusedSimpArgs false
theorem resShift_len {l : List En} {b : Int} (hl : l.length ≤ 1048576) : (resShift l b).1.length ≤ 1048576 := by
  unfold resShift
  split
  · split
    · split
      · simpa using hl
      · simp
    · simp
  · simp
theorem FnExactShiftLog (l0 : List (S75)) (a1 : Int) (h00 : l0.length ≤ 9223372036854775807) (h01 : (∀ x ∈ l0, (Lit.int .i64 x.f0).wf = true ∧ (Lit.int .i64 x.f1).wf = true ∧ True)) (h10 : (Lit.int .i64 a1).wf = true) : ∃ k, laws_FnExactShiftLog.f k l0 a1 = some true := by
  by_cases hL : l0.length ≤ 1048576
  · obtain ⟨n, hn, hn0⟩ := szLog_small hL
    obtain ⟨k, hk⟩ : ∃ k, 1100000 < k := ⟨_, Nat.lt_succ_self _⟩
    refine ⟨k + 3, ?_⟩
    have hL' : (l0.map entryOf).length ≤ 1048576 := by simpa using hL
    have hr := resShift_len (b := a1) hL'
    have e1 := fun j => toLog_eq (k + j) l0 hL (by omega)
    have q1 := fun j => eqLog_self (k + j) (l0.map entryOf) hL' (by omega)
    have s1 := fun j => specShift_eq (k := k + j) (l := l0.map entryOf) (b := a1) (by omega)
    have i1 := fun j => implShift_eq (k := k + j) (b := a1) hL' (by omega)
    have t1 := fun j => eqLog_self (k + j) (resShift (l0.map entryOf) a1).1 hr (by omega)
    obtain ⟨l', m0, hm, _, hm0⟩ := markLog_held (k + 2) (l0.map entryOf) hL' (by omega)
    obtain ⟨l, m', ha, hb, hm1⟩ := markLog_held (k + 1) (resShift (l0.map entryOf) a1).1 hr (by omega)
    have hb0 := hb k (by omega)
    have hb1 := hb (k + 1) (by omega)
    generalize resShift (l0.map entryOf) a1 = res at *
    unfold laws_FnExactShiftLog.f
    rw [hn]
    simp only [Option.bind_some]
    rw [if_neg hn0]
    simp [laws_FnExactShiftLog.j0, laws_FnExactShiftLog.j1, laws_FnExactShiftLog.j2, e1, q1, s1, i1, t1, hm, ha, hb0, hb1, Int.not_lt.2 hm0, Int.not_lt.2 hm1, e1 0, i1 0, t1 0, q1 0]
  · refine ⟨0, ?_⟩
    unfold laws_FnExactShiftLog.f
    rw [szLog_big h00 hL]
    rfl

end Go.Proofs.Ytidkniacmcbgiaa.G.Pure
end

section

end
