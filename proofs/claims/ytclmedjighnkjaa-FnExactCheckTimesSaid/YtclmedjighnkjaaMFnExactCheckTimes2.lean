/- The law's functions, their contracts, and the plain lemmas: texts of this claim, laid together. -/
import Derived.Test.YtclmedjighnkjaaMFnExactCheckTimes0
import Derived.Test.YtclmedjighnkjaaMFnExactCheckTimes1
section
namespace Go.Proofs.Ytclmedjighnkjaa.G
open Go.RowKit Go.Proofs.YtclmedjighnkjaaW.PrintWords Go.Proofs.YtclmedjighnkjaaW.PrintLast Go.Proofs.YtclmedjighnkjaaW.PrintMore
attribute [local go_sem] max2_int min2_int max_two min_two max_three min_three max_four min_four
set_option linter.unusedVariables false
set_option linter.unusedSimpArgs false

/-! ### laws_markTimesS: function 45 -/
def laws_markTimesS.l0 : Nat → List (S69) → Int → Int → Option (Int × (List (S69)))
  | 0, _, _, _ => none
  | k + 1, x0, x1, x5 => if x5 < (x0.length : Int) then (if 0 ≤ x5 then ((some (x0.set (x5 : Int).toNat (⟨IntKind.i8.wrap (x1), (rd_T69 x0 x5).f1, (rd_T69 x0 x5).f2, (rd_T69 x0 x5).f3⟩ : S69) : List (S69))).bind fun y101 => ((some (y101.set (x5 : Int).toNat (⟨(rd_T69 y101 x5).f0, wrap64 (x1 + 1), (rd_T69 y101 x5).f2, (rd_T69 y101 x5).f3⟩ : S69) : List (S69))).bind fun y102 => ((some (y102.set (x5 : Int).toNat (⟨(rd_T69 y102 x5).f0, (rd_T69 y102 x5).f1, wrap64 ((wrap64 (x1 + 1)) + 1), (rd_T69 y102 x5).f3⟩ : S69) : List (S69))).bind fun y103 => (laws_markTimesS.l0 k (y103.set (x5 : Int).toNat (⟨(rd_T69 y103 x5).f0, (rd_T69 y103 x5).f1, (rd_T69 y103 x5).f2, wrap64 ((wrap64 ((wrap64 (x1 + 1)) + 1)) + 1)⟩ : S69)) (wrap64 ((wrap64 ((wrap64 ((wrap64 (x1 + 1)) + 1)) + 1)) + 1)) (wrap64 (x5 + 1)))))) else (none)) else (some (x1, x0))
def laws_markTimesS.f (k : Nat) (l0 : List (S69)) (a1 : Int) : Option (Int × (List (S69))) := laws_markTimesS.l0 k l0 a1 0
set_option maxHeartbeats 8000000 in
set_option maxRecDepth 100000 in
theorem laws_markTimesS.calls (k : Nat) (P0_ : Nat → Prop) (u9000_ : Value) (l0 : List (S69)) (a1 : Int) (r1 : Int) (r2 : List (S69)) (w0 w : World) (hB : Below w0.heap.size w0 w) (ho0 : Kd.R k69 69 w w0.heap.size P0_ u9000_ l0) (h : laws_markTimesS.f k l0 a1 = some (r1, r2)) :
    Calls Try.prog 45 #[u9000_, .int .i64 a1] w fun e w' => e = .returned (.int .i64 r1) ∧ Kd.R k69 69 w' w0.heap.size (fun k_ => (P0_ k_ ∨ w.heap.size ≤ k_)) u9000_ r2 ∧ Below w0.heap.size w0 w' ∧ Kept w w' (fun k_ => P0_ k_) := by
  have HO0 := Aside0.mk (show Kd.R k69 69 w w0.heap.size (fun k_ => (P0_ k_ ∨ w.heap.size ≤ k_)) u9000_ l0 from Kd.R_mono ho0 (fun k_ hk => (.inl hk)))
  have HK := Aside0.mk (Kept.refl w (fun k_ => P0_ k_))
  have HW0 := Aside0.mk hB.size
  have HB := Aside0.mk hB
  clear hB
  have H : (laws_markTimesS.l0 k l0 a1 0) = some (r1, r2) := h
  clear h
  have H' := Aside0.mk H
  clear H
  go_enter Try.func45, Try.ntmps45
  go_wp2
  go_loopg [1, 5] k (fun kq v1 v5 w' => ∃ (x0_1 : List (S69)) (x1_1 : Int) (x5_1 : Int), v1 = .int .i64 x1_1 ∧ v5 = .int .i64 x5_1 ∧ Aside0 (laws_markTimesS.l0 kq x0_1 x1_1 x5_1 = some (r1, r2)) ∧ Aside0 (kq ≤ k) ∧ Aside0 (Kd.R k69 69 w' w0.heap.size (fun k_ => (P0_ k_ ∨ w.heap.size ≤ k_)) u9000_ x0_1) ∧ Aside0 (Kept w w' (fun k_ => P0_ k_)) ∧ Aside0 (Below w0.heap.size w0 w'))
  case atStart => exact ⟨(l0), (a1), (0), (by first | rfl | (simp only [IntKind.wrap_i64, wrap64]; done) | (simp; done) | (simp [*]; done)), (by first | rfl | (simp only [IntKind.wrap_i64, wrap64]; done) | (simp; done) | (simp [*]; done)), H', ⟨Nat.le_refl _⟩, ⟨by (with_reducible repeat (first | apply Kd.R_alloc | apply Kd.R_drewN | apply Kd.R_drew)); exact HO0.out⟩, ⟨by repeat (first | (with_reducible first | exact HK.out | apply Kept.alloc | apply Kept.drewN | apply Kept.drew) | exact HK.out)⟩, ⟨by repeat (first | (with_reducible first | exact HB.out | apply below_alloc | apply pw_below_drewN | apply below_drew1) | exact HB.out)⟩⟩
  case round =>
    clear H'
    try clear p2
    obtain ⟨x0_1, x1_1, x5_1, rfl, rfl, HA, HK1, HO_0, HK, HB⟩ := hrel
    cases gk with
    | zero => exact absurd HA.out (by simp [laws_markTimesS.l0])
    | succ k1 =>
      have H := HA.out
      clear HA
      simp only [laws_markTimesS.l0] at H
      by_cases c3 : x5_1 < (x0_1.length : Int)
      · rw [if_pos c3] at H
        have c3b0 : decide (x5_1 < (x0_1.length : Int)) = true := decide_eq_true c3
        clear c3
        by_cases c4 : 0 ≤ x5_1
        · rw [if_pos c4] at H
          have c4b0 : decide (0 ≤ x5_1) = true := decide_eq_true c4
          clear c4
          obtain ⟨y101, hy101⟩ : ∃ y_ : List (S69), y_ = (x0_1.set (x5_1 : Int).toNat (⟨IntKind.i8.wrap (x1_1), (rd_T69 x0_1 x5_1).f1, (rd_T69 x0_1 x5_1).f2, (rd_T69 x0_1 x5_1).f3⟩ : S69)) := ⟨_, rfl⟩
          replace H : ((some (y101.set (x5_1 : Int).toNat (⟨(rd_T69 y101 x5_1).f0, wrap64 (x1_1 + 1), (rd_T69 y101 x5_1).f2, (rd_T69 y101 x5_1).f3⟩ : S69) : List (S69))).bind fun y102 => ((some (y102.set (x5_1 : Int).toNat (⟨(rd_T69 y102 x5_1).f0, (rd_T69 y102 x5_1).f1, wrap64 ((wrap64 (x1_1 + 1)) + 1), (rd_T69 y102 x5_1).f3⟩ : S69) : List (S69))).bind fun y103 => (laws_markTimesS.l0 k1 (y103.set (x5_1 : Int).toNat (⟨(rd_T69 y103 x5_1).f0, (rd_T69 y103 x5_1).f1, (rd_T69 y103 x5_1).f2, wrap64 ((wrap64 ((wrap64 (x1_1 + 1)) + 1)) + 1)⟩ : S69)) (wrap64 ((wrap64 ((wrap64 ((wrap64 (x1_1 + 1)) + 1)) + 1)) + 1)) (wrap64 (x5_1 + 1))))) = some (r1, r2) := by first | (rw [hy101]; with_reducible exact H) | (have H2_ := (Option.bind_some _ _).symm.trans H; rw [hy101]; with_reducible exact H2_) | (have H2_ := (Option.bind_some _ _).symm.trans H; with_reducible exact H2_) | with_reducible exact H | (rw [hy101]; exact H) | exact H
          have Ny101 := Aside0.mk hy101
          clear hy101
          obtain ⟨y102, hy102⟩ : ∃ y_ : List (S69), y_ = (y101.set (x5_1 : Int).toNat (⟨(rd_T69 y101 x5_1).f0, wrap64 (x1_1 + 1), (rd_T69 y101 x5_1).f2, (rd_T69 y101 x5_1).f3⟩ : S69)) := ⟨_, rfl⟩
          replace H : ((some (y102.set (x5_1 : Int).toNat (⟨(rd_T69 y102 x5_1).f0, (rd_T69 y102 x5_1).f1, wrap64 ((wrap64 (x1_1 + 1)) + 1), (rd_T69 y102 x5_1).f3⟩ : S69) : List (S69))).bind fun y103 => (laws_markTimesS.l0 k1 (y103.set (x5_1 : Int).toNat (⟨(rd_T69 y103 x5_1).f0, (rd_T69 y103 x5_1).f1, (rd_T69 y103 x5_1).f2, wrap64 ((wrap64 ((wrap64 (x1_1 + 1)) + 1)) + 1)⟩ : S69)) (wrap64 ((wrap64 ((wrap64 ((wrap64 (x1_1 + 1)) + 1)) + 1)) + 1)) (wrap64 (x5_1 + 1)))) = some (r1, r2) := by first | (rw [hy102]; with_reducible exact H) | (have H2_ := (Option.bind_some _ _).symm.trans H; rw [hy102]; with_reducible exact H2_) | (have H2_ := (Option.bind_some _ _).symm.trans H; with_reducible exact H2_) | with_reducible exact H | (rw [hy102]; exact H) | exact H
          have Ny102 := Aside0.mk hy102
          clear hy102
          obtain ⟨y103, hy103⟩ : ∃ y_ : List (S69), y_ = (y102.set (x5_1 : Int).toNat (⟨(rd_T69 y102 x5_1).f0, (rd_T69 y102 x5_1).f1, wrap64 ((wrap64 (x1_1 + 1)) + 1), (rd_T69 y102 x5_1).f3⟩ : S69)) := ⟨_, rfl⟩
          replace H : (laws_markTimesS.l0 k1 (y103.set (x5_1 : Int).toNat (⟨(rd_T69 y103 x5_1).f0, (rd_T69 y103 x5_1).f1, (rd_T69 y103 x5_1).f2, wrap64 ((wrap64 ((wrap64 (x1_1 + 1)) + 1)) + 1)⟩ : S69)) (wrap64 ((wrap64 ((wrap64 ((wrap64 (x1_1 + 1)) + 1)) + 1)) + 1)) (wrap64 (x5_1 + 1))) = some (r1, r2) := by first | (rw [hy103]; with_reducible exact H) | (have H2_ := (Option.bind_some _ _).symm.trans H; rw [hy103]; with_reducible exact H2_) | (have H2_ := (Option.bind_some _ _).symm.trans H; with_reducible exact H2_) | with_reducible exact H | (rw [hy103]; exact H) | exact H
          have Ny103 := Aside0.mk hy103
          clear hy103
          obtain ⟨y104, hy104⟩ : ∃ y_ : List (S69), y_ = (y103.set (x5_1 : Int).toNat (⟨(rd_T69 y103 x5_1).f0, (rd_T69 y103 x5_1).f1, (rd_T69 y103 x5_1).f2, wrap64 ((wrap64 ((wrap64 (x1_1 + 1)) + 1)) + 1)⟩ : S69)) := ⟨_, rfl⟩
          replace H : (laws_markTimesS.l0 k1 y104 (wrap64 ((wrap64 ((wrap64 ((wrap64 (x1_1 + 1)) + 1)) + 1)) + 1)) (wrap64 (x5_1 + 1))) = some (r1, r2) := by first | (rw [hy104]; with_reducible exact H) | (have H2_ := (Option.bind_some _ _).symm.trans H; rw [hy104]; with_reducible exact H2_) | (have H2_ := (Option.bind_some _ _).symm.trans H; with_reducible exact H2_) | with_reducible exact H | (rw [hy104]; exact H) | exact H
          have Ny104 := Aside0.mk hy104
          clear hy104
          have H' := Aside0.mk H
          clear H
          obtain ⟨Ao9, co9, eo9⟩ := Kd.R_slice HO_0.out
          subst eo9
          have p5 : 0 ≤ (x5_1 : Int) := of_decide_eq_true (by first | (with_reducible assumption) | assumption)
          have q5 : (x5_1 : Int) < ((x0_1.length : Int) : Int) := of_decide_eq_true (by first | (with_reducible assumption) | assumption)
          obtain ⟨go5, co5, eo5, gb5, gl5, cl5, HG5⟩ := Kd.R_form HO_0.out (by omega)
          (first | cases eo5 | (injection eo5 with ea_ en_ ec_; (first | subst ea_ | (injection ea_ with ea_; subst ea_)); subst ec_; clear en_))
          have GB5 := Aside0.mk gb5
          have GG5 := Aside0.mk HG5
          clear gb5 gl5 HG5
          have HMgo5 := Aside0.mk (show (P0_ go5 ∨ w.heap.size ≤ go5) from (HO_0.out.1 _ rfl))
          obtain ⟨ce5, hcl5, hM5, hcc5, hfr5⟩ := Kd.R_elem HO_0.out z69 (x5_1 : Int) p5 q5
          obtain rfl := k69_openM hM5
          have hx5_0 : wr.cell? ⟨go5, (x5_1 : Int).toNat * 4, none⟩ = some (.int .i8 ((rd_T69 x0_1 x5_1).f0)) := hcc5 0 _ rfl
          have hx5_1 : wr.cell? ⟨go5, (x5_1 : Int).toNat * 4 + 1, none⟩ = some (.int .i64 ((rd_T69 x0_1 x5_1).f1)) := hcc5 1 _ rfl
          have hx5_2 : wr.cell? ⟨go5, (x5_1 : Int).toNat * 4 + 2, none⟩ = some (.int .i64 ((rd_T69 x0_1 x5_1).f2)) := hcc5 2 _ rfl
          have hx5_3 : wr.cell? ⟨go5, (x5_1 : Int).toNat * 4 + 3, none⟩ = some (.int .i64 ((rd_T69 x0_1 x5_1).f3)) := hcc5 3 _ rfl
          have hf5_0 : wr.frozen? ⟨go5, (x5_1 : Int).toNat * 4, none⟩ = false := hfr5 0
          have hf5_1 : wr.frozen? ⟨go5, (x5_1 : Int).toNat * 4 + 1, none⟩ = false := hfr5 1
          have hf5_2 : wr.frozen? ⟨go5, (x5_1 : Int).toNat * 4 + 2, none⟩ = false := hfr5 2
          have hf5_3 : wr.frozen? ⟨go5, (x5_1 : Int).toNat * 4 + 3, none⟩ = false := hfr5 3
          clear hcl5 hcc5 hfr5 hM5
          replace p5 := eq_true p5
          replace q5 := eq_true q5
          have HX10 := Aside0.mk (show Kd.R k69 69 wr w0.heap.size (fun k_ => (P0_ k_ ∨ w.heap.size ≤ k_)) (.slice (some ⟨go5, 0, none⟩) x0_1.length co9) x0_1 from (by (with_reducible repeat (first | apply Kd.R_alloc | apply Kd.R_drewN | apply Kd.R_drew)); exact HO_0.out))
          obtain ⟨ce10, hcl10, hM10, hcc10, hfr10⟩ := Kd.R_elem HX10.out z69 (x5_1 : Int) (of_decide_eq_true (by first | (with_reducible assumption) | assumption)) (by have h_ : (x5_1 : Int) < ((x0_1.length : Int) : Int) := of_decide_eq_true (by first | (with_reducible assumption) | assumption); first | exact h_ | (have e_ := (Kd.R_reads' HO_0.out).1; omega) | simpa using h_)
          obtain rfl := k69_openM hM10
          have HP10 := Kd.R_seg HX10.out (x5_1 : Int) (of_decide_eq_true (by first | (with_reducible assumption) | assumption)) (by have h_ : (x5_1 : Int) < ((x0_1.length : Int) : Int) := of_decide_eq_true (by first | (with_reducible assumption) | assumption); first | exact h_ | (have e_ := (Kd.R_reads' HO_0.out).1; omega) | simpa using h_) (seg := [.int .i8 (IntKind.i8.wrap (x1_1))]) (j := 0) hcl10 hcc10 (show 1 ≤ 4 from by decide) (x' := (⟨IntKind.i8.wrap (x1_1), (rd_T69 x0_1 x5_1).f1, (rd_T69 x0_1 x5_1).f2, (rd_T69 x0_1 x5_1).f3⟩ : S69)) (k69_mkM _ _ _ (⟨IntKind.i8.wrap (x1_1), (rd_T69 x0_1 x5_1).f1, (rd_T69 x0_1 x5_1).f2, (rd_T69 x0_1 x5_1).f3⟩ : S69) ) (fun _ hk => hk)
          have hx10_0 := hcc10 0 _ rfl
          (try simp only [show (k69).sz = 4 from rfl, Nat.mul_one, Nat.add_zero] at hx10_0)
          have hf10_0 := hfr10 0
          (try simp only [show (k69).sz = 4 from rfl, Nat.mul_one, Nat.add_zero] at hf10_0)
          clear hcl10 hcc10 hfr10 hM10
          go_wp2_with (first | ((with_reducible refine gate_store (t := 58) (p := 17) rfl ?_); refine store_event (t := 58) (p := 17) (v := ?vo_w11) (w1 := (wr.setCell ⟨go5, (x5_1 : Int).toNat * 4, none⟩ (.int .i8 (IntKind.i8.wrap (x1_1))))) ?hg ?ho ?hn ?hr ?_; (case ho => rfl); (case hg => rfl); (case hn => rfl); (case hr => first | (go_simp; done) | (go_simp; rfl)); intro w11 hw; have hg : wr.grownBy w11 (some go5) := (by rw [hw]; exact HP10.2); have hp_ : Kd.R k69 69 w11 w0.heap.size (fun k_ => (P0_ k_ ∨ w.heap.size ≤ k_)) (.slice (some ⟨go5, 0, none⟩) x0_1.length co9) y101 := (by rw [hw, Ny101.out]; exact HP10.1); clear HP10; have n0_ := Aside0.mk (hp_); have n1_ := Aside0.mk ((by rw [hw]; exact below_set (HB.out) GB5.out : Below w0.heap.size w0 w11)); have n2_ := Aside0.mk (Kept.of_grown (S := (fun k_ => P0_ k_)) hg (by repeat (first | (with_reducible first | exact HK.out | apply Kept.alloc | apply Kept.drewN | apply Kept.drew) | exact HK.out)) (fun k_ e_ => (HO_0.out.1 k_ e_))); clear HO_0; clear HB; clear HK; have HO_0 := n0_; have HB := n1_; have HK := n2_; clear n0_ n1_ n2_; clear hg hw hp_; have p6 : 0 ≤ (x5_1 : Int) := of_decide_eq_true (by first | (with_reducible assumption) | assumption); have q6 : (x5_1 : Int) < ((x0_1.length : Int) : Int) := of_decide_eq_true (by first | (with_reducible assumption) | assumption); obtain ⟨ce6, hcl6, hM6, hcc6, hfr6⟩ := Kd.R_elem HO_0.out z69 (x5_1 : Int) p6 q6; obtain rfl := k69_openM hM6; have hx6_0 : w11.cell? ⟨go5, (x5_1 : Int).toNat * 4, none⟩ = some (.int .i8 ((rd_T69 y101 x5_1).f0)) := hcc6 0 _ rfl; have hx6_1 : w11.cell? ⟨go5, (x5_1 : Int).toNat * 4 + 1, none⟩ = some (.int .i64 ((rd_T69 y101 x5_1).f1)) := hcc6 1 _ rfl; have hx6_2 : w11.cell? ⟨go5, (x5_1 : Int).toNat * 4 + 2, none⟩ = some (.int .i64 ((rd_T69 y101 x5_1).f2)) := hcc6 2 _ rfl; have hx6_3 : w11.cell? ⟨go5, (x5_1 : Int).toNat * 4 + 3, none⟩ = some (.int .i64 ((rd_T69 y101 x5_1).f3)) := hcc6 3 _ rfl; have hf6_0 : w11.frozen? ⟨go5, (x5_1 : Int).toNat * 4, none⟩ = false := hfr6 0; have hf6_1 : w11.frozen? ⟨go5, (x5_1 : Int).toNat * 4 + 1, none⟩ = false := hfr6 1; have hf6_2 : w11.frozen? ⟨go5, (x5_1 : Int).toNat * 4 + 2, none⟩ = false := hfr6 2; have hf6_3 : w11.frozen? ⟨go5, (x5_1 : Int).toNat * 4 + 3, none⟩ = false := hfr6 3; clear hcl6 hcc6 hfr6 hM6; replace p6 := eq_true p6; replace q6 := eq_true q6; have HX12 := Aside0.mk (show Kd.R k69 69 w11 w0.heap.size (fun k_ => (P0_ k_ ∨ w.heap.size ≤ k_)) (.slice (some ⟨go5, 0, none⟩) x0_1.length co9) y101 from (by (with_reducible repeat (first | apply Kd.R_alloc | apply Kd.R_drewN | apply Kd.R_drew)); exact HO_0.out)); obtain ⟨ce12, hcl12, hM12, hcc12, hfr12⟩ := Kd.R_elem HX12.out z69 (x5_1 : Int) (of_decide_eq_true (by first | (with_reducible assumption) | assumption)) (by have h_ : (x5_1 : Int) < ((x0_1.length : Int) : Int) := of_decide_eq_true (by first | (with_reducible assumption) | assumption); first | exact h_ | (have e_ := (Kd.R_reads' HO_0.out).1; omega) | simpa using h_); obtain rfl := k69_openM hM12; have HP12 := Kd.R_seg HX12.out (x5_1 : Int) (of_decide_eq_true (by first | (with_reducible assumption) | assumption)) (by have h_ : (x5_1 : Int) < ((x0_1.length : Int) : Int) := of_decide_eq_true (by first | (with_reducible assumption) | assumption); first | exact h_ | (have e_ := (Kd.R_reads' HO_0.out).1; omega) | simpa using h_) (seg := [.int .i64 (wrap64 (x1_1 + 1))]) (j := 1) hcl12 hcc12 (show 2 ≤ 4 from by decide) (x' := (⟨(rd_T69 y101 x5_1).f0, wrap64 (x1_1 + 1), (rd_T69 y101 x5_1).f2, (rd_T69 y101 x5_1).f3⟩ : S69)) (k69_mkM _ _ _ (⟨(rd_T69 y101 x5_1).f0, wrap64 (x1_1 + 1), (rd_T69 y101 x5_1).f2, (rd_T69 y101 x5_1).f3⟩ : S69) ) (fun _ hk => hk); have hx12_1 := hcc12 1 _ rfl; (try simp only [show (k69).sz = 4 from rfl, Nat.mul_one, Nat.add_zero] at hx12_1); have hf12_1 := hfr12 1; (try simp only [show (k69).sz = 4 from rfl, Nat.mul_one, Nat.add_zero] at hf12_1); clear hcl12 hcc12 hfr12 hM12) | ((with_reducible refine gate_store (t := 2) (p := 24) rfl ?_); refine store_event (t := 2) (p := 24) (v := ?vo_w13) (w1 := (w11.setCell ⟨go5, (x5_1 : Int).toNat * 4 + 1, none⟩ (.int .i64 (wrap64 (x1_1 + 1))))) ?hg ?ho ?hn ?hr ?_; (case ho => rfl); (case hg => rfl); (case hn => rfl); (case hr => first | (go_simp; done) | (go_simp; rfl)); intro w13 hw; have hg : w11.grownBy w13 (some go5) := (by rw [hw]; exact HP12.2); have hp_ : Kd.R k69 69 w13 w0.heap.size (fun k_ => (P0_ k_ ∨ w.heap.size ≤ k_)) (.slice (some ⟨go5, 0, none⟩) x0_1.length co9) y102 := (by rw [hw, Ny102.out]; exact HP12.1); clear HP12; have n0_ := Aside0.mk (hp_); have n1_ := Aside0.mk ((by rw [hw]; exact below_set (HB.out) GB5.out : Below w0.heap.size w0 w13)); have n2_ := Aside0.mk (Kept.of_grown (S := (fun k_ => P0_ k_)) hg (by repeat (first | (with_reducible first | exact HK.out | apply Kept.alloc | apply Kept.drewN | apply Kept.drew) | exact HK.out)) (fun k_ e_ => (HO_0.out.1 k_ e_))); clear HO_0; clear HB; clear HK; have HO_0 := n0_; have HB := n1_; have HK := n2_; clear n0_ n1_ n2_; clear hg hw hp_; have p7 : 0 ≤ (x5_1 : Int) := of_decide_eq_true (by first | (with_reducible assumption) | assumption); have q7 : (x5_1 : Int) < ((x0_1.length : Int) : Int) := of_decide_eq_true (by first | (with_reducible assumption) | assumption); obtain ⟨ce7, hcl7, hM7, hcc7, hfr7⟩ := Kd.R_elem HO_0.out z69 (x5_1 : Int) p7 q7; obtain rfl := k69_openM hM7; have hx7_0 : w13.cell? ⟨go5, (x5_1 : Int).toNat * 4, none⟩ = some (.int .i8 ((rd_T69 y102 x5_1).f0)) := hcc7 0 _ rfl; have hx7_1 : w13.cell? ⟨go5, (x5_1 : Int).toNat * 4 + 1, none⟩ = some (.int .i64 ((rd_T69 y102 x5_1).f1)) := hcc7 1 _ rfl; have hx7_2 : w13.cell? ⟨go5, (x5_1 : Int).toNat * 4 + 2, none⟩ = some (.int .i64 ((rd_T69 y102 x5_1).f2)) := hcc7 2 _ rfl; have hx7_3 : w13.cell? ⟨go5, (x5_1 : Int).toNat * 4 + 3, none⟩ = some (.int .i64 ((rd_T69 y102 x5_1).f3)) := hcc7 3 _ rfl; have hf7_0 : w13.frozen? ⟨go5, (x5_1 : Int).toNat * 4, none⟩ = false := hfr7 0; have hf7_1 : w13.frozen? ⟨go5, (x5_1 : Int).toNat * 4 + 1, none⟩ = false := hfr7 1; have hf7_2 : w13.frozen? ⟨go5, (x5_1 : Int).toNat * 4 + 2, none⟩ = false := hfr7 2; have hf7_3 : w13.frozen? ⟨go5, (x5_1 : Int).toNat * 4 + 3, none⟩ = false := hfr7 3; clear hcl7 hcc7 hfr7 hM7; replace p7 := eq_true p7; replace q7 := eq_true q7; have HX14 := Aside0.mk (show Kd.R k69 69 w13 w0.heap.size (fun k_ => (P0_ k_ ∨ w.heap.size ≤ k_)) (.slice (some ⟨go5, 0, none⟩) x0_1.length co9) y102 from (by (with_reducible repeat (first | apply Kd.R_alloc | apply Kd.R_drewN | apply Kd.R_drew)); exact HO_0.out)); obtain ⟨ce14, hcl14, hM14, hcc14, hfr14⟩ := Kd.R_elem HX14.out z69 (x5_1 : Int) (of_decide_eq_true (by first | (with_reducible assumption) | assumption)) (by have h_ : (x5_1 : Int) < ((x0_1.length : Int) : Int) := of_decide_eq_true (by first | (with_reducible assumption) | assumption); first | exact h_ | (have e_ := (Kd.R_reads' HO_0.out).1; omega) | simpa using h_); obtain rfl := k69_openM hM14; have HP14 := Kd.R_seg HX14.out (x5_1 : Int) (of_decide_eq_true (by first | (with_reducible assumption) | assumption)) (by have h_ : (x5_1 : Int) < ((x0_1.length : Int) : Int) := of_decide_eq_true (by first | (with_reducible assumption) | assumption); first | exact h_ | (have e_ := (Kd.R_reads' HO_0.out).1; omega) | simpa using h_) (seg := [.int .i64 (wrap64 ((wrap64 (x1_1 + 1)) + 1))]) (j := 2) hcl14 hcc14 (show 3 ≤ 4 from by decide) (x' := (⟨(rd_T69 y102 x5_1).f0, (rd_T69 y102 x5_1).f1, wrap64 ((wrap64 (x1_1 + 1)) + 1), (rd_T69 y102 x5_1).f3⟩ : S69)) (k69_mkM _ _ _ (⟨(rd_T69 y102 x5_1).f0, (rd_T69 y102 x5_1).f1, wrap64 ((wrap64 (x1_1 + 1)) + 1), (rd_T69 y102 x5_1).f3⟩ : S69) ) (fun _ hk => hk); have hx14_2 := hcc14 2 _ rfl; (try simp only [show (k69).sz = 4 from rfl, Nat.mul_one, Nat.add_zero] at hx14_2); have hf14_2 := hfr14 2; (try simp only [show (k69).sz = 4 from rfl, Nat.mul_one, Nat.add_zero] at hf14_2); clear hcl14 hcc14 hfr14 hM14) | ((with_reducible refine gate_store (t := 2) (p := 31) rfl ?_); refine store_event (t := 2) (p := 31) (v := ?vo_w15) (w1 := (w13.setCell ⟨go5, (x5_1 : Int).toNat * 4 + 2, none⟩ (.int .i64 (wrap64 ((wrap64 (x1_1 + 1)) + 1))))) ?hg ?ho ?hn ?hr ?_; (case ho => rfl); (case hg => rfl); (case hn => rfl); (case hr => first | (go_simp; done) | (go_simp; rfl)); intro w15 hw; have hg : w13.grownBy w15 (some go5) := (by rw [hw]; exact HP14.2); have hp_ : Kd.R k69 69 w15 w0.heap.size (fun k_ => (P0_ k_ ∨ w.heap.size ≤ k_)) (.slice (some ⟨go5, 0, none⟩) x0_1.length co9) y103 := (by rw [hw, Ny103.out]; exact HP14.1); clear HP14; have n0_ := Aside0.mk (hp_); have n1_ := Aside0.mk ((by rw [hw]; exact below_set (HB.out) GB5.out : Below w0.heap.size w0 w15)); have n2_ := Aside0.mk (Kept.of_grown (S := (fun k_ => P0_ k_)) hg (by repeat (first | (with_reducible first | exact HK.out | apply Kept.alloc | apply Kept.drewN | apply Kept.drew) | exact HK.out)) (fun k_ e_ => (HO_0.out.1 k_ e_))); clear HO_0; clear HB; clear HK; have HO_0 := n0_; have HB := n1_; have HK := n2_; clear n0_ n1_ n2_; clear hg hw hp_; have p8 : 0 ≤ (x5_1 : Int) := of_decide_eq_true (by first | (with_reducible assumption) | assumption); have q8 : (x5_1 : Int) < ((x0_1.length : Int) : Int) := of_decide_eq_true (by first | (with_reducible assumption) | assumption); obtain ⟨ce8, hcl8, hM8, hcc8, hfr8⟩ := Kd.R_elem HO_0.out z69 (x5_1 : Int) p8 q8; obtain rfl := k69_openM hM8; have hx8_0 : w15.cell? ⟨go5, (x5_1 : Int).toNat * 4, none⟩ = some (.int .i8 ((rd_T69 y103 x5_1).f0)) := hcc8 0 _ rfl; have hx8_1 : w15.cell? ⟨go5, (x5_1 : Int).toNat * 4 + 1, none⟩ = some (.int .i64 ((rd_T69 y103 x5_1).f1)) := hcc8 1 _ rfl; have hx8_2 : w15.cell? ⟨go5, (x5_1 : Int).toNat * 4 + 2, none⟩ = some (.int .i64 ((rd_T69 y103 x5_1).f2)) := hcc8 2 _ rfl; have hx8_3 : w15.cell? ⟨go5, (x5_1 : Int).toNat * 4 + 3, none⟩ = some (.int .i64 ((rd_T69 y103 x5_1).f3)) := hcc8 3 _ rfl; have hf8_0 : w15.frozen? ⟨go5, (x5_1 : Int).toNat * 4, none⟩ = false := hfr8 0; have hf8_1 : w15.frozen? ⟨go5, (x5_1 : Int).toNat * 4 + 1, none⟩ = false := hfr8 1; have hf8_2 : w15.frozen? ⟨go5, (x5_1 : Int).toNat * 4 + 2, none⟩ = false := hfr8 2; have hf8_3 : w15.frozen? ⟨go5, (x5_1 : Int).toNat * 4 + 3, none⟩ = false := hfr8 3; clear hcl8 hcc8 hfr8 hM8; replace p8 := eq_true p8; replace q8 := eq_true q8; have HX16 := Aside0.mk (show Kd.R k69 69 w15 w0.heap.size (fun k_ => (P0_ k_ ∨ w.heap.size ≤ k_)) (.slice (some ⟨go5, 0, none⟩) x0_1.length co9) y103 from (by (with_reducible repeat (first | apply Kd.R_alloc | apply Kd.R_drewN | apply Kd.R_drew)); exact HO_0.out)); obtain ⟨ce16, hcl16, hM16, hcc16, hfr16⟩ := Kd.R_elem HX16.out z69 (x5_1 : Int) (of_decide_eq_true (by first | (with_reducible assumption) | assumption)) (by have h_ : (x5_1 : Int) < ((x0_1.length : Int) : Int) := of_decide_eq_true (by first | (with_reducible assumption) | assumption); first | exact h_ | (have e_ := (Kd.R_reads' HO_0.out).1; omega) | simpa using h_); obtain rfl := k69_openM hM16; have HP16 := Kd.R_seg HX16.out (x5_1 : Int) (of_decide_eq_true (by first | (with_reducible assumption) | assumption)) (by have h_ : (x5_1 : Int) < ((x0_1.length : Int) : Int) := of_decide_eq_true (by first | (with_reducible assumption) | assumption); first | exact h_ | (have e_ := (Kd.R_reads' HO_0.out).1; omega) | simpa using h_) (seg := [.int .i64 (wrap64 ((wrap64 ((wrap64 (x1_1 + 1)) + 1)) + 1))]) (j := 3) hcl16 hcc16 (show 4 ≤ 4 from by decide) (x' := (⟨(rd_T69 y103 x5_1).f0, (rd_T69 y103 x5_1).f1, (rd_T69 y103 x5_1).f2, wrap64 ((wrap64 ((wrap64 (x1_1 + 1)) + 1)) + 1)⟩ : S69)) (k69_mkM _ _ _ (⟨(rd_T69 y103 x5_1).f0, (rd_T69 y103 x5_1).f1, (rd_T69 y103 x5_1).f2, wrap64 ((wrap64 ((wrap64 (x1_1 + 1)) + 1)) + 1)⟩ : S69) ) (fun _ hk => hk); have hx16_3 := hcc16 3 _ rfl; (try simp only [show (k69).sz = 4 from rfl, Nat.mul_one, Nat.add_zero] at hx16_3); have hf16_3 := hfr16 3; (try simp only [show (k69).sz = 4 from rfl, Nat.mul_one, Nat.add_zero] at hf16_3); clear hcl16 hcc16 hfr16 hM16) | ((with_reducible refine gate_store (t := 2) (p := 38) rfl ?_); refine store_event (t := 2) (p := 38) (v := ?vo_w17) (w1 := (w15.setCell ⟨go5, (x5_1 : Int).toNat * 4 + 3, none⟩ (.int .i64 (wrap64 ((wrap64 ((wrap64 (x1_1 + 1)) + 1)) + 1))))) ?hg ?ho ?hn ?hr ?_; (case ho => rfl); (case hg => rfl); (case hn => rfl); (case hr => first | (go_simp; done) | (go_simp; rfl)); intro w17 hw; have hg : w15.grownBy w17 (some go5) := (by rw [hw]; exact HP16.2); have hp_ : Kd.R k69 69 w17 w0.heap.size (fun k_ => (P0_ k_ ∨ w.heap.size ≤ k_)) (.slice (some ⟨go5, 0, none⟩) x0_1.length co9) y104 := (by rw [hw, Ny104.out]; exact HP16.1); clear HP16; have n0_ := Aside0.mk (hp_); have n1_ := Aside0.mk ((by rw [hw]; exact below_set (HB.out) GB5.out : Below w0.heap.size w0 w17)); have n2_ := Aside0.mk (Kept.of_grown (S := (fun k_ => P0_ k_)) hg (by repeat (first | (with_reducible first | exact HK.out | apply Kept.alloc | apply Kept.drewN | apply Kept.drew) | exact HK.out)) (fun k_ e_ => (HO_0.out.1 k_ e_))); clear HO_0; clear HB; clear HK; have HO_0 := n0_; have HB := n1_; have HK := n2_; clear n0_ n1_ n2_; clear hg hw hp_))
          go_roundg k1
          case measure => have := HK1.out; omega
          case rel => exact ⟨(y104), (wrap64 ((wrap64 ((wrap64 ((wrap64 (x1_1 + 1)) + 1)) + 1)) + 1)), (wrap64 (x5_1 + 1)), (by first | rfl | (simp only [IntKind.wrap_i64, wrap64]; done) | (simp; done) | (simp [*]; done)), (by first | rfl | (simp only [IntKind.wrap_i64, wrap64]; done) | (simp; done) | (simp [*]; done)), H', ⟨by have := HK1.out; omega⟩, ⟨by (with_reducible repeat (first | apply Kd.R_alloc | apply Kd.R_drewN | apply Kd.R_drew)); exact HO_0.out⟩, ⟨by repeat (first | (with_reducible first | exact HK.out | apply Kept.alloc | apply Kept.drewN | apply Kept.drew) | exact HK.out)⟩, ⟨by repeat (first | (with_reducible first | exact HB.out | apply below_alloc | apply pw_below_drewN | apply below_drew1) | exact HB.out)⟩⟩
        · rw [if_neg c4] at H
          exact absurd H (by simp)
      · rw [if_neg c3] at H
        have c3b0 : decide (x5_1 < (x0_1.length : Int)) = false := decide_eq_false c3
        clear c3
        simp only [Option.some.injEq, Prod.mk.injEq] at H
        obtain ⟨rfl, rfl⟩ := H
        obtain ⟨Ao18, co18, eo18⟩ := Kd.R_slice HO_0.out
        subst eo18
        go_wp2
        go_ret
        exact ⟨by first | rfl | (simp [errW_none, errW_some, IntKind.wrap_i64, wrap64]; done) | (simp [errW_none, errW_some] <;> rfl) | (simp [*, errW_none, errW_some] <;> rfl), by (with_reducible repeat (first | apply Kd.R_alloc | apply Kd.R_drewN | apply Kd.R_drew)); exact HO_0.out, by repeat (first | (with_reducible first | exact HB.out | apply below_alloc | apply pw_below_drewN | apply below_drew1) | exact HB.out), by repeat (first | (with_reducible first | exact HK.out | apply Kept.alloc | apply Kept.drewN | apply Kept.drew) | exact HK.out)⟩

end Go.Proofs.Ytclmedjighnkjaa.G
end

section
namespace Go.Proofs.Ytclmedjighnkjaa.G.Pure
open Go.RowKit Go.Proofs.Ytclmedjighnkjaa.G Go.Proofs.YtclmedjighnkjaaW.PrintWords Go.Proofs.YtclmedjighnkjaaW.PrintLast Go.Proofs.YtclmedjighnkjaaW.PrintMore
set_option linter.unusedVariables false
set_option linter.unusedSimpArgs false
/-! The laws' helpers over lists of times. -/
def timeOf (x : S71) : Tm := ⟨x.f0, x.f1, x.f2, x.f3⟩
theorem szTimesS_eq (l : List (S71)) (a : Int) (h0 : 0 ≤ a) (h1 : a ≤ 1048576) (hl : l.length ≤ 9223372036854775807) : laws_szTimesS.f l a = some (if a - l.length < 0 then -1 else a - l.length) := by
  unfold laws_szTimesS.f
  rw [w64 (by omega) (by omega)]
  split <;> rfl
theorem rd_laws_Times {l : List (S71)} {i : Nat} (h : i < l.length) : rd_T71 l (i : Int) = l[i] := by
  simp [rd_T71, List.getD_eq_getElem?_getD, List.getElem?_eq_getElem h]
theorem toTimesS_eq (k : Nat) (l : List (S71)) (hl : l.length ≤ 1048576) (hk : l.length < k) : laws_toTimesS.f k l = some (l.map timeOf) := by
  unfold laws_toTimesS.f
  rw [if_pos (by omega), if_pos (by omega)]
  obtain ⟨r, hr, h⟩ := loop_inv (fun k (s : List Tm × Int) => laws_toTimesS.l0 k l s.1 s.2) l.length (fun i s => s.2 = (i : Int) ∧ s.1.length = l.length ∧ s.1.take i = (l.map timeOf).take i) (fun r => r = l.map timeOf)
    (fun k i s hi ⟨h1, h2, h3⟩ => by
      obtain ⟨acc, x⟩ := s
      simp only at h1 h2 h3
      subst h1
      refine .inl ⟨(acc.set i (timeOf l[i]), ((i + 1 : Nat) : Int)), ⟨rfl, by simpa using h2, ?_⟩, ?_⟩
      · rw [take_set_succ (by omega), h3, List.take_succ_eq_append_getElem (by simpa using hi)]
        simp
      · simp only [laws_toTimesS.l0]
        rw [if_pos (by omega), if_pos (by omega), rd_laws_Times hi]
        simp only [laws_toTimes.f, Option.bind_some]
        rw [if_pos (by omega), w64 (by omega) (by omega)]
        rfl)
    (fun k s ⟨h1, h2, h3⟩ => by
      obtain ⟨acc, x⟩ := s
      simp only at h1 h2 h3
      subst h1
      refine ⟨acc, ?_, ?_⟩
      · rw [List.take_of_length_le (by omega), List.take_of_length_le (by simp)] at h3
        exact h3
      · simp only [laws_toTimesS.l0]
        rw [if_neg (by omega)]) k (List.replicate l.length z69, 0) ⟨rfl, by simp, by simp⟩ hk
  subst hr
  simpa using h
theorem eqTimes_self (a : Tm) : laws_eqTimes.f a.f0 a.f1 a.f2 a.f3 a.f0 a.f1 a.f2 a.f3 = some true := by
  simp [laws_eqTimes.f]
theorem eqTimesS_self (k : Nat) (a : List Tm) (hl : a.length ≤ 1048576) (hk : a.length < k) : laws_eqTimesS.f k a a = some true := by
  unfold laws_eqTimesS.f
  rw [if_pos rfl]
  obtain ⟨r, hr, h⟩ := loop_inv (fun k (s : Int) => laws_eqTimesS.l0 k a a s) a.length (fun i s => s = (i : Int)) (fun r => r = true)
    (fun k i s hi h1 => by
      subst h1
      refine .inl ⟨((i + 1 : Nat) : Int), rfl, ?_⟩
      simp only [laws_eqTimesS.l0]
      rw [if_pos (by omega), if_pos (by omega), if_pos (by omega), eqTimes_self]
      simp only [Option.bind_some, if_true]
      rw [w64 (by omega) (by omega)]
      rfl)
    (fun k s h1 => by
      subst h1
      refine ⟨true, rfl, ?_⟩
      simp only [laws_eqTimesS.l0]
      rw [if_neg (by omega)]) k 0 rfl hk
  subst hr
  exact h
theorem rd_set_Times {l : List Tm} {i : Nat} (h : i < l.length) (v : Tm) : rd_T69 (l.set i v) (i : Int) = v := by
  rw [rd_impl_Times (by simpa using h)]
  simp
/-- What is written to the times' fields. -/
def markT (i : Nat) : Tm := ⟨IntKind.i8.wrap (1 + 4 * (i : Int)), 1 + 4 * (i : Int) + 1, 1 + 4 * (i : Int) + 2, 1 + 4 * (i : Int) + 3⟩
theorem markTimesS_held (k : Nat) (a : List Tm) (hl : a.length ≤ 1048576) (hk : a.length < k) : ∃ l m, laws_markTimesS.f k a 1 = some (m, l) ∧ (∀ k', a.length < k' → laws_heldTimesS.f k' l 1 = some m) ∧ 0 ≤ m := by
  obtain ⟨r, ⟨h1, h2, h3⟩, h⟩ := loop_inv (fun k (s : List Tm × Int × Int) => laws_markTimesS.l0 k s.1 s.2.1 s.2.2) a.length
    (fun i s => s.2.2 = (i : Int) ∧ s.2.1 = 1 + 4 * (i : Int) ∧ s.1.length = a.length ∧ ∀ j (h : j < s.1.length), j < i → s.1[j] = markT j)
    (fun r => r.1 = 1 + 4 * (a.length : Int) ∧ r.2.length = a.length ∧ ∀ j (h : j < r.2.length), r.2[j] = markT j)
    (fun k i s hi ⟨h1, h2, h3, h4⟩ => by
      obtain ⟨acc, m, x⟩ := s
      simp only at h1 h2 h3 h4
      subst h1 h2
      refine .inl ⟨(acc.set i (markT i), 1 + 4 * ((i + 1 : Nat) : Int), ((i + 1 : Nat) : Int)), ⟨rfl, rfl, by simpa using h3, fun j hj hji => ?_⟩, ?_⟩
      · simp only [List.getElem_set]
        split
        · rename_i e; subst e; rfl
        · simp only [List.length_set] at hj
          exact h4 j hj (by omega)
      · have hia : i < acc.length := by omega
        simp only [laws_markTimesS.l0]
        rw [if_pos (by omega), if_pos (by omega)]
        simp only [Option.bind_some, Int.toNat_natCast]
        rw [w64 (n := 1 + 4 * (i : Int) + 1) (by omega) (by omega), w64 (n := 1 + 4 * (i : Int) + 1 + 1) (by omega) (by omega), w64 (n := 1 + 4 * (i : Int) + 1 + 1 + 1) (by omega) (by omega), w64 (n := 1 + 4 * (i : Int) + 1 + 1 + 1 + 1) (by omega) (by omega), w64 (n := (i : Int) + 1) (by omega) (by omega)]
        simp only [rd_set_Times, hia, List.set_set, List.length_set]
        rw [show 1 + 4 * (i : Int) + 1 + 1 + 1 + 1 = 1 + 4 * ((i + 1 : Nat) : Int) by omega, show 1 + 4 * (i : Int) + 1 + 1 + 1 = 1 + 4 * (i : Int) + 3 by omega, show 1 + 4 * (i : Int) + 1 + 1 = 1 + 4 * (i : Int) + 2 by omega]
        rfl)
    (fun k s ⟨h1, h2, h3, h4⟩ => by
      obtain ⟨acc, m, x⟩ := s
      simp only at h1 h2 h3 h4
      subst h1 h2
      refine ⟨(1 + 4 * (a.length : Int), acc), ⟨rfl, h3, fun j hj => h4 j hj (by rw [← h3]; exact hj)⟩, ?_⟩
      simp only [laws_markTimesS.l0]
      rw [if_neg (by omega)]) k (a, 1, 0) ⟨rfl, rfl, rfl, fun j _ h => absurd h (Nat.not_lt_zero _)⟩ hk
  obtain ⟨m, l⟩ := r
  simp only at h1 h2 h3
  refine ⟨l, m, h, fun k' hk' => ?_, by omega⟩
  obtain ⟨r, hr, h'⟩ := loop_inv (fun k (s : Int × Int) => laws_heldTimesS.l0 k l s.1 s.2) l.length (fun i s => s.2 = (i : Int) ∧ s.1 = 1 + 4 * (i : Int)) (fun r => r = m)
    (fun k i s hi ⟨g1, g2⟩ => by
      obtain ⟨m', x⟩ := s
      simp only at g1 g2
      subst g1 g2
      refine .inl ⟨(1 + 4 * ((i + 1 : Nat) : Int), ((i + 1 : Nat) : Int)), ⟨rfl, rfl⟩, ?_⟩
      simp only [laws_heldTimesS.l0]
      rw [w64 (n := 1 + 4 * (i : Int) + 1) (by omega) (by omega), w64 (n := 1 + 4 * (i : Int) + 1 + 1) (by omega) (by omega), w64 (n := 1 + 4 * (i : Int) + 1 + 1 + 1) (by omega) (by omega), w64 (n := 1 + 4 * (i : Int) + 1 + 1 + 1 + 1) (by omega) (by omega), w64 (n := (i : Int) + 1) (by omega) (by omega)]
      rw [if_pos (by omega), if_pos (by omega), rd_impl_Times hi, h3 i hi, if_pos (show (markT i).f0 = IntKind.i8.wrap (1 + 4 * (i : Int)) from rfl), if_pos (show (markT i).f1 = 1 + 4 * (i : Int) + 1 from rfl), if_pos (show (markT i).f2 = 1 + 4 * (i : Int) + 1 + 1 by show 1 + 4 * (i : Int) + 2 = _; omega), if_pos (show (markT i).f3 = 1 + 4 * (i : Int) + 1 + 1 + 1 by show 1 + 4 * (i : Int) + 3 = _; omega)]
      rw [show 1 + 4 * (i : Int) + 1 + 1 + 1 + 1 = 1 + 4 * ((i + 1 : Nat) : Int) by omega]
      rfl)
    (fun k s ⟨g1, g2⟩ => by
      obtain ⟨m', x⟩ := s
      simp only at g1 g2
      subst g1 g2
      refine ⟨m, rfl, ?_⟩
      simp only [laws_heldTimesS.l0]
      rw [if_neg (by omega), h1, h2]) k' (1, 0) ⟨rfl, rfl⟩ (by omega)
  subst hr
  exact h'

end Go.Proofs.Ytclmedjighnkjaa.G.Pure
end

section
namespace Go.Proofs.Ytclmedjighnkjaa.G.Pure
open Go.RowKit Go.Proofs.Ytclmedjighnkjaa.G Go.Proofs.YtclmedjighnkjaaW.PrintWords Go.Proofs.YtclmedjighnkjaaW.PrintLast Go.Proofs.YtclmedjighnkjaaW.PrintMore
set_option linter.unusedVariables false
set_option linter.unusedSimpArgs false
/-! The program's times. -/
theorem implInner (k : Nat) (acc : List Tm) (line : List Sp) (x : Sp) (i a : Nat) (len x12 : Int) (hi : acc.length = i) (h20 : i < 20) (h1i : 0 < i) (hok : TimesOK acc) (hx : shipIn x) (ha : a ≤ i) :
    ∀ d n, a + n + d = i → impl_times.l1 (k + d + 1) acc (i : Int) ((a + n : Nat) : Int) line len x12 x.f0 x.f1 x.f2 (scan acc a n).1 (scan acc a n).2 (-1) (-1) =
      impl_times.l1 (k + 1) acc (i : Int) (i : Int) line len x12 x.f0 x.f1 x.f2 (scan acc a (i - a)).1 (scan acc a (i - a)).2 (-1) (-1) := by
  intro d
  induction d with
  | zero =>
    intro n hn
    rw [show i - a = n by omega, show a + n = i by omega]
  | succ d ih =>
    intro n hn
    have hql : a + n < acc.length := by omega
    have hb := hok.bound (a + n) _ (List.getElem?_eq_getElem hql)
    have hsc := scan_spec acc hok a n (by omega)
    rw [← ih (n + 1) (by omega)]
    rw [show k + (d + 1) + 1 = (k + d + 1) + 1 by omega]
    conv => lhs; unfold impl_times.l1
    rw [if_pos (by omega), if_pos (by omega), if_pos (by omega), rd_impl_Times hql, w64 (n := ((a + n : Nat) : Int) + 1) (by omega) (by omega), i8w (n := ((a + n : Nat) : Int)) (by omega) (by omega)]
    rw [show ((a + (n + 1) : Nat) : Int) = ((a + n : Nat) : Int) + 1 by omega]
    have hs1 : scan acc a (n + 1) = if 0 ≤ acc[a + n].f3 ∧ ((scan acc a n).1 < 0 ∨ acc[a + n].f3 < (scan acc a n).2) then (((a + n : Nat) : Int), acc[a + n].f3) else scan acc a n := by
      rcases hs : scan acc a n with ⟨f, s⟩
      simp only [scan, hs, List.getElem?_eq_getElem hql]
    rw [hs1]
    have hneg : (scan acc a n).1 < 0 ↔ (scan acc a n).2 < 0 := by
      rcases hsc with h | h
      · rw [h]
      · omega
    by_cases c1 : 0 ≤ acc[a + n].f3
    · rw [if_pos (by omega)]
      by_cases c2 : (scan acc a n).2 < 0
      · rw [if_pos c2, if_pos ⟨c1, .inl (hneg.2 c2)⟩]
      · rw [if_neg c2]
        by_cases c3 : acc[a + n].f3 < (scan acc a n).2
        · rw [if_pos c3, if_pos ⟨c1, .inr c3⟩]
        · rw [if_neg c3, if_neg (fun h => h.2.elim (fun h => c2 (hneg.1 h)) c3)]
    · rw [if_neg (by omega), if_neg (fun h => c1 h.1)]
theorem implRound (k : Nat) (acc : List Tm) (line : List Sp) (x : Sp) (hlt : acc.length < line.length) (h20 : line.length ≤ 20) (hx0 : line[acc.length] = x) (hok : TimesOK acc) (hx : shipIn x) :
    impl_times.l0 (k + (acc.length - (acc.length - x.f0.toNat)) + 3) acc line (line.length : Int) (acc.length : Int) = impl_times.l0 k (acc ++ [dueL acc x x.f1]) line (line.length : Int) ((acc.length : Int) + 1) := by
  obtain ⟨s0, s1, s2, s3, s4, s5⟩ := hx
  have hxx : shipIn x := ⟨s0, s1, s2, s3, s4, s5⟩
  rcases Nat.eq_zero_or_pos acc.length with h0 | h0
  · rw [show k + (acc.length - (acc.length - x.f0.toNat)) + 3 = k + 3 by omega]
    conv => lhs; unfold impl_times.l0
    rw [if_pos (by omega), if_pos (by omega), if_pos (by omega), if_pos (by omega), rd_impl_Ship hlt, hx0]
    conv => lhs; unfold impl_times.j1
    rw [w64 (n := x.f0) (by omega) (by omega), w64 (by omega) (by omega)]
    rw [show mx ((acc.length : Int) - x.f0) 0 = (acc.length : Int) by unfold mx; split <;> omega]
    conv => lhs; unfold impl_times.l1
    rw [if_neg (by omega), if_pos (by omega), if_pos (by omega), if_pos (by omega), w64 (n := x.f2) (by omega) (by omega), w64 (n := x.f2) (by omega) (by omega), w64 (n := (acc.length : Int) + 1) (by omega) (by omega)]
    simp [dueL, h0]
  · obtain ⟨a, ha⟩ : ∃ a, a = acc.length - x.f0.toNat := ⟨_, rfl⟩
    rw [← ha]
    conv => lhs; unfold impl_times.l0
    rw [if_pos (by omega), if_pos (by omega), if_pos (by omega), if_neg (by omega), rd_impl_Ship hlt, hx0]
    conv => lhs; unfold impl_times.j1
    rw [w64 (n := x.f0) (by omega) (by omega), w64 (n := (acc.length : Int) - x.f0) (by omega) (by omega)]
    rw [show mx ((acc.length : Int) - x.f0) 0 = ((a + 0 : Nat) : Int) by unfold mx; split <;> omega]
    have h1 := implInner k acc line x acc.length a (line.length : Int) (acc.length : Int) rfl (by omega) h0 hok hxx (by omega) (acc.length - a) 0 (by omega)
    simp only [scan] at h1
    rw [h1]
    have hsc := scan_spec acc hok a (acc.length - a) (by omega)
    have hd : dueL acc x x.f1 = if 0 ≤ (scan acc a (acc.length - a)).1 then ⟨(scan acc a (acc.length - a)).1, (scan acc a (acc.length - a)).2, (scan acc a (acc.length - a)).2 + x.f1, (scan acc a (acc.length - a)).2 + x.f1 + x.f2⟩ else ⟨-1, -1, -1, -1⟩ := by
      unfold dueL
      rw [if_neg (show ¬ acc.length = 0 by omega), ← ha]
    rw [hd]
    rcases hsc with h | h
    · rw [h]
      conv => lhs; unfold impl_times.l1
      simp only
      rw [if_neg (by omega), if_neg (by omega), if_pos (by omega), if_neg (by omega), w64 (by omega) (by omega)]
    · conv => lhs; unfold impl_times.l1
      rw [if_neg (by omega), if_pos (by omega), if_neg (by omega), if_pos (by omega), if_pos h.1]
      rw [w64 (n := x.f1) (by omega) (by omega), w64 (n := x.f2) (by omega) (by omega), w64 (n := (scan acc a (acc.length - a)).2 + x.f1) (by omega) (by omega), w64 (n := (scan acc a (acc.length - a)).2 + x.f1 + x.f2) (by omega) (by omega), w64 (n := (acc.length : Int) + 1) (by omega) (by omega)]
theorem timesGo_plain (xs : List Sp) (acc : List Tm) : ∀ x, timesGo (-1) 0 (x :: xs) acc = timesGo (-1) 0 xs (acc ++ [dueL acc x x.f1]) := by
  intro x
  simp only [timesGo]
  rw [if_neg (by omega), Int.add_zero]
theorem implTimes_eq (k : Nat) (line : List Sp) (hl : line.length ≤ 20) (hx : ∀ x ∈ line, shipIn x) (hk : 200 < k) : impl_times.f k line = some (timesL (-1) 0 line) := by
  have go : ∀ (rest : List Sp) (k : Nat) (acc : List Tm), line.drop acc.length = rest → TimesOK acc → acc.length ≤ line.length → 9 * rest.length < k → impl_times.l0 k acc line (line.length : Int) (acc.length : Int) = some (timesGo (-1) 0 rest acc) := by
    intro rest
    induction rest with
    | nil =>
      intro k acc hd hok hle hk
      obtain ⟨k, rfl⟩ : ∃ m, k = m + 1 := ⟨k - 1, by omega⟩
      have := List.drop_eq_nil_iff.1 hd
      unfold impl_times.l0
      rw [if_neg (by omega)]
      rfl
    | cons x xs ih =>
      intro k acc hd hok hle hk
      simp only [List.length_cons] at hk
      have hlt : acc.length < line.length := by
        have := congrArg List.length hd
        simp at this
        omega
      have hx0 : line[acc.length] = x := by
        have h1 := List.drop_eq_getElem_cons hlt
        rw [hd] at h1
        exact (List.cons.inj h1).1.symm
      have hxs : line.drop (acc.length + 1) = xs := by
        have h1 := List.drop_eq_getElem_cons hlt
        rw [hd] at h1
        exact (List.cons.inj h1).2.symm
      have hmem : x ∈ line := hx0 ▸ List.getElem_mem hlt
      have hxx := hx x hmem
      obtain ⟨s0, s1, s2, s3, s4, s5⟩ := hxx
      obtain ⟨m, rfl, hm⟩ : ∃ m, k = m + (acc.length - (acc.length - x.f0.toNat)) + 3 ∧ 9 * xs.length < m := ⟨k - (acc.length - (acc.length - x.f0.toNat)) - 3, by omega, by omega⟩
      rw [implRound m acc line x hlt hl hx0 hok (hx x hmem), timesGo_plain]
      have h2 := ih m (acc ++ [dueL acc x x.f1]) (by simpa using hxs) (due_ok hok ⟨s4, s5⟩ ⟨s2, s3⟩) (by simp; omega) hm
      rw [show ((acc ++ [dueL acc x x.f1]).length : Int) = (acc.length : Int) + 1 by simp] at h2
      exact h2
  unfold impl_times.f
  exact go line k [] rfl TimesOK.nil (by simp) (by omega)

end Go.Proofs.Ytclmedjighnkjaa.G.Pure
end

section
namespace Go.Proofs.Ytclmedjighnkjaa.G.Pure
open Go.RowKit Go.Proofs.Ytclmedjighnkjaa.G Go.Proofs.YtclmedjighnkjaaW.PrintWords Go.Proofs.YtclmedjighnkjaaW.PrintLast Go.Proofs.YtclmedjighnkjaaW.PrintMore
set_option linter.unusedVariables false
set_option linter.unusedSimpArgs false
/-! Valid lines. -/
def wfShip (x : Sp) : Prop := (Lit.int .i8 x.f0).wf = true ∧ (Lit.int .i8 x.f1).wf = true ∧ (Lit.int .i8 x.f2).wf = true
def validB (l : List Sp) : Bool := decide (1 ≤ (l.length : Int)) && decide ((l.length : Int) ≤ 20) && !l.any shipBad
theorem implValid_eq (l : List Sp) : impl_ValidLine.f l = some (validB l) := rfl
theorem shipBad_wf {x : Sp} (h : wfShip x) : shipBad x = !(decide (0 ≤ x.f0) && decide (x.f0 ≤ 6) && (decide (0 ≤ x.f1) && decide (x.f1 ≤ 60)) && (decide (0 ≤ x.f2) && decide (x.f2 ≤ 60))) := by
  obtain ⟨h0, h1, h2⟩ := h
  have b0 := i8b h0
  have b1 := i8b h1
  have b2 := i8b h2
  unfold shipBad
  rw [w64 (n := x.f0) (by omega) (by omega), w64 (n := x.f1) (by omega) (by omega), w64 (n := x.f2) (by omega) (by omega)]
structure ValidL (l : List Sp) : Prop where
  pos : 1 ≤ l.length
  most : l.length ≤ 20
  ships : ∀ x ∈ l, 0 ≤ x.f0 ∧ x.f0 ≤ 6 ∧ 0 ≤ x.f1 ∧ x.f1 ≤ 60 ∧ 0 ≤ x.f2 ∧ x.f2 ≤ 60
theorem ValidL.in_ {l : List Sp} (h : ValidL l) : ∀ x ∈ l, shipIn x := fun x hx => by
  have := h.ships x hx
  unfold shipIn
  omega
theorem validB_iff {l : List Sp} (hw : ∀ x ∈ l, wfShip x) : validB l = true ↔ ValidL l := by
  constructor
  · intro h
    unfold validB at h
    simp only [Bool.and_eq_true, decide_eq_true_eq, Bool.not_eq_true', List.any_eq_false] at h
    obtain ⟨⟨h1, h2⟩, h3⟩ := h
    refine ⟨by omega, by omega, fun x hx => ?_⟩
    have h4 := h3 x hx
    rw [shipBad_wf (hw x hx)] at h4
    simp at h4
    omega
  · intro h
    unfold validB
    simp only [Bool.and_eq_true, decide_eq_true_eq, Bool.not_eq_true', List.any_eq_false]
    refine ⟨⟨by have := h.pos; omega, by have := h.most; omega⟩, fun x hx => ?_⟩
    rw [shipBad_wf (hw x hx)]
    have := h.ships x hx
    simp
    omega
theorem in_eq (n lo hi : Int) : spec_l00In.f n lo hi = some (decide (lo ≤ n) && decide (n ≤ hi)) := by
  unfold spec_l00In.f
  split
  · simp [*]
  · simp [*]
theorem specOk_eq (k : Nat) (l : List Sp) (hw : ∀ x ∈ l, wfShip x) (hl : l.length ≤ 1048576) (hk : l.length < k) : spec_l06Ok.f k l = some (validB l) := by
  unfold spec_l06Ok.f validB
  rw [in_eq]
  simp only [Option.bind_some]
  by_cases h0 : (decide (1 ≤ (l.length : Int)) && decide ((l.length : Int) ≤ 20)) = true
  · rw [if_pos h0, h0, Bool.true_and]
    obtain ⟨r, hr, h⟩ := loop_inv (fun k (s : Int) => spec_l06Ok.l0 k l s) l.length (fun i s => s = (i : Int) ∧ ∀ j (h : j < l.length), j < i → shipBad l[j] = false) (fun r => r = !l.any shipBad)
      (fun k i s hi ⟨h1, h2⟩ => by
        subst h1
        have hb := hw l[i] (List.getElem_mem hi)
        have hbad := shipBad_wf hb
        obtain ⟨b0, b1, b2⟩ := hb
        have b0 := i8b b0
        have b1 := i8b b1
        have b2 := i8b b2
        cases hq : shipBad l[i] with
        | true =>
          refine .inr ⟨false, ?_, ?_⟩
          · have : l.any shipBad = true := List.any_eq_true.2 ⟨l[i], List.getElem_mem hi, hq⟩
            rw [this]; rfl
          · simp only [spec_l06Ok.l0]
            rw [if_pos (by omega), if_pos (by omega), rd_impl_Ship hi, in_eq, in_eq, in_eq]
            rw [w64 (n := (l[i]).f0) (by omega) (by omega), w64 (n := (l[i]).f1) (by omega) (by omega), w64 (n := (l[i]).f2) (by omega) (by omega)]
            rw [hq] at hbad
            simp only [Option.bind_some]
            generalize (decide (0 ≤ (l[i]).f0) && decide ((l[i]).f0 ≤ 6)) = c0 at *
            generalize (decide (0 ≤ (l[i]).f1) && decide ((l[i]).f1 ≤ 60)) = c1 at *
            generalize (decide (0 ≤ (l[i]).f2) && decide ((l[i]).f2 ≤ 60)) = c2 at *
            cases c0 <;> cases c1 <;> cases c2 <;> first | (exfalso; revert hbad; decide) | rfl
        | false =>
          refine .inl ⟨((i + 1 : Nat) : Int), ⟨rfl, fun j hj hji => ?_⟩, ?_⟩
          · by_cases e : j = i
            · subst e; exact hq
            · exact h2 j hj (by omega)
          · simp only [spec_l06Ok.l0]
            rw [if_pos (by omega), if_pos (by omega), rd_impl_Ship hi, in_eq, in_eq, in_eq]
            rw [w64 (n := (l[i]).f0) (by omega) (by omega), w64 (n := (l[i]).f1) (by omega) (by omega), w64 (n := (l[i]).f2) (by omega) (by omega), w64 (n := (i : Int) + 1) (by omega) (by omega)]
            rw [hq] at hbad
            simp only [Option.bind_some]
            generalize (decide (0 ≤ (l[i]).f0) && decide ((l[i]).f0 ≤ 6)) = c0 at *
            generalize (decide (0 ≤ (l[i]).f1) && decide ((l[i]).f1 ≤ 60)) = c1 at *
            generalize (decide (0 ≤ (l[i]).f2) && decide ((l[i]).f2 ≤ 60)) = c2 at *
            cases c0 <;> cases c1 <;> cases c2 <;> first | (exfalso; revert hbad; decide) | rfl)
      (fun k s ⟨h1, h2⟩ => by
        subst h1
        refine ⟨true, ?_, ?_⟩
        · have : l.any shipBad = false := by
            rw [List.any_eq_false]
            intro x hx
            obtain ⟨j, hj, rfl⟩ := List.mem_iff_getElem.1 hx
            simp [h2 j hj hj]
          rw [this]; rfl
        · simp only [spec_l06Ok.l0]
          rw [if_neg (by omega)]) k 0 ⟨rfl, fun j _ h => absurd h (Nat.not_lt_zero _)⟩ hk
    subst hr
    exact h
  · rw [if_neg h0]
    simp only [Bool.not_eq_true] at h0
    rw [h0, Bool.false_and]
theorem wf_map {l : List (S62)} (h : ∀ x ∈ l, (Lit.int .i8 x.f0).wf = true ∧ (Lit.int .i8 x.f1).wf = true ∧ (Lit.int .i8 x.f2).wf = true) : ∀ x ∈ l.map shipOf, wfShip x := by
  intro x hx
  obtain ⟨y, hy, rfl⟩ := List.mem_map.1 hx
  exact h y hy

end Go.Proofs.Ytclmedjighnkjaa.G.Pure
end

section
namespace Go.Proofs.Ytclmedjighnkjaa.G
open Go.RowKit Go.Proofs.YtclmedjighnkjaaW.PrintWords Go.Proofs.YtclmedjighnkjaaW.PrintLast Go.Proofs.YtclmedjighnkjaaW.PrintMore
attribute [local go_sem] max2_int min2_int max_two min_two max_three min_three max_four min_four
set_option linter.unusedVariables false
set_option linter.unusedSimpArgs false

/-! ### spec_TimesOf: function 43 -/
def spec_TimesOf.f (k : Nat) (l0 : List (S60)) : Option ((List (S69)) × Int) := (spec_l06Ok.f k l0).bind fun t101 => (if t101 = true then ((spec_l06Times.f k l0 (-1) 0).bind fun t102 => (some (t102, 0))) else (some ((([] : List (S69))), 1)))
set_option maxHeartbeats 8000000 in
set_option maxRecDepth 100000 in
theorem spec_TimesOf.calls (k : Nat) (A0 : Option Addr) (c0 : Nat) (l0 : List (S60)) (r1 : List (S69)) (r2 : Int) (w : World) (hr0 : Kd.C k60 w A0 l0.length l0) (hc0 : l0.length ≤ c0) (h : spec_TimesOf.f k l0 = some (r1, r2)) :
    Calls Try.prog 43 #[.slice A0 l0.length c0] w fun e w' => ∃ v0_ : Value, e = .returned (.tuple #[v0_, .int .i64 r2]) ∧ Kd.R k69 69 w' w.heap.size (fun _ => True) v0_ r1 ∧ Below w.heap.size w w' := by
  have HR0 := Aside0.mk hr0
  have HC0 := Aside0.mk hc0
  clear hr0 hc0
  have HB := Aside0.mk (Below.refl w.heap.size w)
  have H : ((spec_l06Ok.f k l0).bind fun t101 => (if t101 = true then ((spec_l06Times.f k l0 (-1) 0).bind fun t102 => (some (t102, 0))) else (some ((([] : List (S69))), 1)))) = some (r1, r2) := h
  clear h
  replace H := Option.bind_eq_some_iff.mp H
  obtain ⟨t101, A20, H⟩ := H
  replace H : (if t101 = true then ((spec_l06Times.f k l0 (-1) 0).bind fun t102 => (some (t102, 0))) else (some ((([] : List (S69))), 1))) = some (r1, r2) := H
  have A2 := Aside0.mk A20
  clear A20
  by_cases c3 : t101 = true
  · subst c3
    have H1 : ((spec_l06Times.f k l0 (-1) 0).bind fun t102 => (some (t102, 0))) = some (r1, r2) := by rw [if_pos rfl] at H; exact H
    clear H
    have H := H1
    clear H1
    replace H := Option.bind_eq_some_iff.mp H
    obtain ⟨t102, A40, H⟩ := H
    replace H : (some (t102, 0)) = some (r1, r2) := H
    have A4 := Aside0.mk A40
    clear A40
    simp only [Option.some.injEq, Prod.mk.injEq] at H
    obtain ⟨rfl, rfl⟩ := H
    go_enter Try.func43, Try.ntmps43
    go_wp2_with (first | ((with_reducible refine gate_callee (f := 55) rfl ?_); refine goesL_ (some 5) rfl rfl Try.func55 (by kernel_rfl) rfl #[.slice A0 l0.length c0] rfl (by (try simp only [List.map_toArray, List.map_cons, List.map_nil]); first | done | rfl | (simp only [List.length_drop, List.length_take]; rfl)) ?_; (with_reducible refine (spec_l06Ok.calls k _ _ l0 true _ ?side1 ?side2 A2.out).mono ?_); (case side1 => repeat (first | exact HR0.out | (with_reducible refine Kd.C_alloc ?_ _) | (with_reducible refine Kd.C_drewN ?_ _) | (with_reducible refine Kd.C_drew ?_))); (case side2 => exact HC0.out); rintro e w5 ⟨rfl, hb⟩; refine ⟨_, rfl, ?_⟩; have n0_ := Aside0.mk (below_step (by repeat (first | (with_reducible first | exact HB.out | apply below_alloc | apply pw_below_drewN | apply below_drew1) | exact HB.out)) hb); clear HB; have HB := n0_; clear n0_; (try clear hb); (try clear hb2); (try clear hk); (try clear hi)) | ((with_reducible refine gate_callee (f := 66) rfl ?_); refine goesL_ (some 9) rfl rfl Try.func66 (by kernel_rfl) rfl #[.slice A0 l0.length c0, .int .i64 (-1), .int .i64 0] rfl (by (try simp only [List.map_toArray, List.map_cons, List.map_nil]); first | done | rfl | (simp only [List.length_drop, List.length_take]; rfl)) ?_; (with_reducible refine (spec_l06Times.calls k _ _ l0 (-1) 0 t102 _ ?side1 ?side2 A4.out).mono ?_); (case side1 => repeat (first | exact (Kd.C_below HR0.out HB.out) | (with_reducible refine Kd.C_alloc ?_ _) | (with_reducible refine Kd.C_drewN ?_ _) | (with_reducible refine Kd.C_drew ?_))); (case side2 => exact HC0.out); rintro e w6 ⟨v103, rfl, ho0, hb⟩; refine ⟨_, rfl, ?_⟩; have n0_ := Aside0.mk (Kd.R_lower ho0 (below_size (by repeat (first | (with_reducible first | exact HB.out | apply below_alloc | apply pw_below_drewN | apply below_drew1) | exact HB.out)))); have n1_ := Aside0.mk (below_step (by repeat (first | (with_reducible first | exact HB.out | apply below_alloc | apply pw_below_drewN | apply below_drew1) | exact HB.out)) hb); clear HB; have HO104 := n0_; have HB := n1_; clear n0_ n1_; (try clear hb); (try clear hb2); (try clear hk); (try clear hi); (try clear ho0)))
    go_ret2
    exact ⟨_, by first | rfl | (simp [errW_none, errW_some, IntKind.wrap_i64, wrap64]; done) | (simp [errW_none, errW_some] <;> rfl) | (simp [*, errW_none, errW_some] <;> rfl), by (with_reducible repeat (first | apply Kd.R_alloc | apply Kd.R_drewN | apply Kd.R_drew)); exact HO104.out, by repeat (first | (with_reducible first | exact HB.out | apply below_alloc | apply pw_below_drewN | apply below_drew1) | exact HB.out)⟩
  · replace c3 := Bool.eq_false_iff.mpr c3
    subst c3
    have H1 : (some ((([] : List (S69))), 1)) = some (r1, r2) := by rw [if_neg (show ¬ (false = true) by decide)] at H; exact H
    clear H
    have H := H1
    clear H1
    obtain ⟨y105, hy105⟩ : ∃ y_ : List (S69), y_ = (([] : List (S69))) := ⟨_, rfl⟩
    replace H : (some (y105, 1)) = some (r1, r2) := by first | (rw [hy105]; with_reducible exact H) | (have H2_ := (Option.bind_some _ _).symm.trans H; rw [hy105]; with_reducible exact H2_) | (have H2_ := (Option.bind_some _ _).symm.trans H; with_reducible exact H2_) | with_reducible exact H | (rw [hy105]; exact H) | exact H
    have Ny105 := Aside0.mk hy105
    clear hy105
    simp only [Option.some.injEq, Prod.mk.injEq] at H
    obtain ⟨rfl, rfl⟩ := H
    go_enter Try.func43, Try.ntmps43
    go_wp2_with (first | ((with_reducible refine gate_callee (f := 55) rfl ?_); refine goesL_ (some 5) rfl rfl Try.func55 (by kernel_rfl) rfl #[.slice A0 l0.length c0] rfl (by (try simp only [List.map_toArray, List.map_cons, List.map_nil]); first | done | rfl | (simp only [List.length_drop, List.length_take]; rfl)) ?_; (with_reducible refine (spec_l06Ok.calls k _ _ l0 false _ ?side1 ?side2 A2.out).mono ?_); (case side1 => repeat (first | exact HR0.out | (with_reducible refine Kd.C_alloc ?_ _) | (with_reducible refine Kd.C_drewN ?_ _) | (with_reducible refine Kd.C_drew ?_))); (case side2 => exact HC0.out); rintro e w7 ⟨rfl, hb⟩; refine ⟨_, rfl, ?_⟩; have n0_ := Aside0.mk (below_step (by repeat (first | (with_reducible first | exact HB.out | apply below_alloc | apply pw_below_drewN | apply below_drew1) | exact HB.out)) hb); clear HB; have HB := n0_; clear n0_; (try clear hb); (try clear hb2); (try clear hk); (try clear hi)) | ((with_reducible refine gate_dst (N := 7) rfl ?_); refine Kd.R_lit k69 _ 69 ?hg (N := 7) ?hd (xs := ([] : List (S69))) (inner := []) (ok := fun _ => True) (okp := fun _ => True) ?hr ?hp (fun _ hk => hk) trivial (Below.refl _ _) (Nat.le_refl _) (by simp) ?_; (case hd => rfl); (case hg => rfl); (case hr => first | (go_simp; done) | (go_simp; rfl)); (case hp => exact (Reps.none _ _)); intro v106 w8 ho9 hb hg_ hnew_; clear hg_ hnew_; (first | rw [← Ny105.out] at ho9 | (simp only [Int.reduceToNat] at ho9; rw [← Ny105.out] at ho9)); have n0_ := Aside0.mk (Kd.R_lower ho9 (below_size (by repeat (first | (with_reducible first | exact HB.out | apply below_alloc | apply pw_below_drewN | apply below_drew1) | exact HB.out)))); have n1_ := Aside0.mk (below_step (by repeat (first | (with_reducible first | exact HB.out | apply below_alloc | apply pw_below_drewN | apply below_drew1) | exact HB.out)) hb); clear HB; have HO107 := n0_; have HB := n1_; clear n0_ n1_; clear hb ho9))
    go_ret2
    exact ⟨_, by first | rfl | (simp [errW_none, errW_some, IntKind.wrap_i64, wrap64]; done) | (simp [errW_none, errW_some] <;> rfl) | (simp [*, errW_none, errW_some] <;> rfl), by (with_reducible repeat (first | apply Kd.R_alloc | apply Kd.R_drewN | apply Kd.R_drew)); exact HO107.out, by repeat (first | (with_reducible first | exact HB.out | apply below_alloc | apply pw_below_drewN | apply below_drew1) | exact HB.out)⟩

end Go.Proofs.Ytclmedjighnkjaa.G
end

section
namespace Go.Proofs.Ytclmedjighnkjaa.G.Pure
open Go.RowKit Go.Proofs.Ytclmedjighnkjaa.G Go.Proofs.YtclmedjighnkjaaW.PrintWords Go.Proofs.YtclmedjighnkjaaW.PrintLast Go.Proofs.YtclmedjighnkjaaW.PrintMore
set_option linter.unusedVariables false
set_option linter.unusedSimpArgs false
/-! What TimesOf comes to. -/
theorem ValidL.specTimes {line : List Sp} (v : ValidL line) {k : Nat} (hk : 300 < k) : spec_l06Times.f k line (-1) 0 = some (timesL (-1) 0 line) :=
  specTimes_eq k line (-1) 0 v.most v.in_ (fun i x hx => by
    have := v.ships x (List.mem_of_getElem? hx)
    rw [if_neg (by omega)]
    omega) ⟨by omega, by omega⟩ (by omega)
theorem ValidL.implTimes {line : List Sp} (v : ValidL line) {k : Nat} (hk : 300 < k) : impl_times.f k line = some (timesL (-1) 0 line) :=
  implTimes_eq k line v.most v.in_ (by omega)
theorem ValidL.timesOK {line : List Sp} (v : ValidL line) : TimesOK (timesL (-1) 0 line) :=
  timesGo_ok (-1) 0 line [] TimesOK.nil (fun x hx => by have := v.ships x hx; omega) (fun i x hx => by
    have := v.ships x (List.mem_of_getElem? hx)
    rw [if_neg (by simp only [List.length_nil]; omega)]
    omega)
theorem TimesOK.sign {ts : List Tm} (h : TimesOK ts) {i : Nat} {t : Tm} (ht : ts[i]? = some t) : (t.f3 < 0 ↔ t.f2 < 0) ∧ (t.f3 < 0 ↔ t.f0 < 0 ∧ 0 < i) := by
  have hb := h.bound i t ht
  rcases Nat.eq_zero_or_pos i with h0 | h0
  · subst h0
    have := h.first t ht
    omega
  · rcases h.later i t ht h0 with rfl | h1
    · exact ⟨⟨fun _ => by decide, fun _ => by decide⟩, ⟨fun _ => ⟨by decide, h0⟩, fun _ => by decide⟩⟩
    · omega
def resTimesOf (line : List Sp) : List Tm × Int := if validB line = true then (timesL (-1) 0 line, 0) else ([], 1)
theorem resTimesOf_len {line : List Sp} (hw : ∀ x ∈ line, wfShip x) : (resTimesOf line).1.length ≤ 20 := by
  unfold resTimesOf
  split
  · rename_i h
    simp only [timesL_len]
    exact ((validB_iff hw).1 h).most
  · simp
theorem specTimesOf_eq {k : Nat} {line : List Sp} (hw : ∀ x ∈ line, wfShip x) (hl : line.length ≤ 1048576) (hk : 1099000 < k) : spec_TimesOf.f k line = some (resTimesOf line) := by
  unfold spec_TimesOf.f resTimesOf
  rw [specOk_eq k line hw hl (by omega)]
  simp only [Option.bind_some]
  split
  · rename_i h
    rw [((validB_iff hw).1 h).specTimes (by omega)]
    rfl
  · rfl
theorem implTimesOf_eq {k : Nat} {line : List Sp} (hw : ∀ x ∈ line, wfShip x) (hk : 1099000 < k) : impl_TimesOf.f k line = some (resTimesOf line) := by
  unfold impl_TimesOf.f resTimesOf
  rw [implValid_eq]
  simp only [Option.bind_some]
  split
  · rename_i h
    rw [((validB_iff hw).1 h).implTimes (by omega)]
    rfl
  · rfl

end Go.Proofs.Ytclmedjighnkjaa.G.Pure
end

section
namespace Go.Proofs.Ytclmedjighnkjaa.G.Pure
open Go.RowKit Go.Proofs.Ytclmedjighnkjaa.G Go.Proofs.YtclmedjighnkjaaW.PrintWords Go.Proofs.YtclmedjighnkjaaW.PrintLast Go.Proofs.YtclmedjighnkjaaW.PrintMore
set_option linter.unusedVariables false
set_option linter.unusedSimpArgs false
def resCheckTimes (line : List Sp) (l : List Tm) : Bool × Int := if validB line = true then (eqL (timesL (-1) 0 line) l, 0) else (false, 1)
theorem specCheckTimes_eq {k : Nat} {line : List Sp} {l : List Tm} (hw : ∀ x ∈ line, wfShip x) (hl : line.length ≤ 1048576) (hk : 1099000 < k) : spec_CheckTimes.f k line l = some (resCheckTimes line l) := by
  unfold spec_CheckTimes.f resCheckTimes
  rw [specOk_eq k line hw hl (by omega)]
  simp only [Option.bind_some]
  split
  · rename_i h
    have v := (validB_iff hw).1 h
    have := v.most
    rw [v.specTimes (by omega)]
    simp only [Option.bind_some]
    rw [specSameTimes_eq k _ _ (by rw [timesL_len]; omega) (by rw [timesL_len]; omega)]
    rfl
  · rfl
theorem implCheckTimes_eq {k : Nat} {line : List Sp} {l : List Tm} (hw : ∀ x ∈ line, wfShip x) (hk : 1099000 < k) : impl_CheckTimes.f k line l = some (resCheckTimes line l) := by
  unfold impl_CheckTimes.f resCheckTimes
  rw [implTimesOf_eq hw hk]
  simp only [Option.bind_some, resTimesOf]
  split
  · rename_i h
    have v := (validB_iff hw).1 h
    have := v.most
    rw [if_pos rfl, implSameTimes_eq k _ _ (by rw [timesL_len]; omega) (by rw [timesL_len]; omega)]
    rfl
  · rfl
theorem FnExactCheckTimes (l0 : List (S62)) (l1 : List (S71)) (h00 : l0.length ≤ 9223372036854775807) (h01 : (∀ x ∈ l0, (Lit.int .i8 x.f0).wf = true ∧ (Lit.int .i8 x.f1).wf = true ∧ (Lit.int .i8 x.f2).wf = true)) (h10 : l1.length ≤ 9223372036854775807) (h11 : (∀ x ∈ l1, (Lit.int .i8 x.f0).wf = true ∧ (Lit.int .i64 x.f1).wf = true ∧ (Lit.int .i64 x.f2).wf = true ∧ (Lit.int .i64 x.f3).wf = true)) : ∃ k, laws_FnExactCheckTimes.f k l0 l1 = some true := by
  by_cases hL : l0.length ≤ 1048576
  · obtain ⟨n, hn, hn0, hn1⟩ := szShipS_small hL
    by_cases hL1 : l1.length ≤ 1048576 - l0.length
    · obtain ⟨k, hk⟩ : ∃ k, 1100000 < k := ⟨_, Nat.lt_succ_self _⟩
      refine ⟨k + 3, ?_⟩
      have hw := wf_map h01
      have hL' : (l0.map shipOf).length ≤ 1048576 := by simpa using hL
      have e1 := fun j => toShipS_eq (k + j) l0 hL (by omega)
      have e2 := fun j => toTimesS_eq (k + j) l1 (by omega) (by omega)
      have q1 := fun j => eqShipS_self (k + j) (l0.map shipOf) hL' (by omega)
      have q2 := fun j => eqTimesS_self (k + j) (l1.map timeOf) (by simp; omega) (by simp; omega)
      have s1 := fun j => specCheckTimes_eq (k := k + j) (l := l1.map timeOf) hw hL' (by omega)
      have i1 := fun j => implCheckTimes_eq (k := k + j) (l := l1.map timeOf) hw (by omega)
      unfold laws_FnExactCheckTimes.f
      rw [hn]
      simp only [Option.bind_some]
      rw [if_neg hn0, szTimesS_eq _ _ (by omega) (by omega) h10, if_neg (by omega)]
      simp only [Option.bind_some]
      rw [if_neg (by omega)]
      simp [laws_FnExactCheckTimes.j0, e1, e2, q1, q2, s1, i1]
    · refine ⟨0, ?_⟩
      unfold laws_FnExactCheckTimes.f
      rw [hn]
      simp only [Option.bind_some]
      rw [if_neg hn0, szTimesS_eq _ _ (by omega) (by omega) h10, if_pos (by omega)]
      rfl
  · refine ⟨0, ?_⟩
    unfold laws_FnExactCheckTimes.f
    rw [szShipS_big h00 hL]
    rfl

end Go.Proofs.Ytclmedjighnkjaa.G.Pure
end

section

end
