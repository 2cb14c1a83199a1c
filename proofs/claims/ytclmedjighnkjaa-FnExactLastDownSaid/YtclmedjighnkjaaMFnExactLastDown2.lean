/- The law's functions, their contracts, and the plain lemmas: texts of this claim, laid together. -/
import Derived.Test.YtclmedjighnkjaaMFnExactLastDown0
import Derived.Test.YtclmedjighnkjaaMFnExactLastDown1
section
namespace Go.Proofs.Ytclmedjighnkjaa.G
open Go.RowKit Go.Proofs.YtclmedjighnkjaaW.PrintWords Go.Proofs.YtclmedjighnkjaaW.PrintLast Go.Proofs.YtclmedjighnkjaaW.PrintMore
attribute [local go_sem] max2_int min2_int max_two min_two max_three min_three max_four min_four
set_option linter.unusedVariables false
set_option linter.unusedSimpArgs false

/-! ### laws_markShipS: function 32 -/
def laws_markShipS.l0 : Nat → List (S60) → Int → Int → Option (Int × (List (S60)))
  | 0, _, _, _ => none
  | k + 1, x0, x1, x5 => if x5 < (x0.length : Int) then (if 0 ≤ x5 then ((some (x0.set (x5 : Int).toNat (⟨IntKind.i8.wrap (x1), (rd_T60 x0 x5).f1, (rd_T60 x0 x5).f2⟩ : S60) : List (S60))).bind fun y101 => ((some (y101.set (x5 : Int).toNat (⟨(rd_T60 y101 x5).f0, IntKind.i8.wrap (wrap64 (x1 + 1)), (rd_T60 y101 x5).f2⟩ : S60) : List (S60))).bind fun y102 => (laws_markShipS.l0 k (y102.set (x5 : Int).toNat (⟨(rd_T60 y102 x5).f0, (rd_T60 y102 x5).f1, IntKind.i8.wrap (wrap64 ((wrap64 (x1 + 1)) + 1))⟩ : S60)) (wrap64 ((wrap64 ((wrap64 (x1 + 1)) + 1)) + 1)) (wrap64 (x5 + 1))))) else (none)) else (some (x1, x0))
def laws_markShipS.f (k : Nat) (l0 : List (S60)) (a1 : Int) : Option (Int × (List (S60))) := laws_markShipS.l0 k l0 a1 0
set_option maxHeartbeats 8000000 in
set_option maxRecDepth 100000 in
theorem laws_markShipS.calls (k : Nat) (P0_ : Nat → Prop) (u9000_ : Value) (l0 : List (S60)) (a1 : Int) (r1 : Int) (r2 : List (S60)) (w0 w : World) (hB : Below w0.heap.size w0 w) (ho0 : Kd.R k60 60 w w0.heap.size P0_ u9000_ l0) (h : laws_markShipS.f k l0 a1 = some (r1, r2)) :
    Calls Try.prog 32 #[u9000_, .int .i64 a1] w fun e w' => e = .returned (.int .i64 r1) ∧ Kd.R k60 60 w' w0.heap.size (fun k_ => (P0_ k_ ∨ w.heap.size ≤ k_)) u9000_ r2 ∧ Below w0.heap.size w0 w' ∧ Kept w w' (fun k_ => P0_ k_) := by
  have HO0 := Aside0.mk (show Kd.R k60 60 w w0.heap.size (fun k_ => (P0_ k_ ∨ w.heap.size ≤ k_)) u9000_ l0 from Kd.R_mono ho0 (fun k_ hk => (.inl hk)))
  have HK := Aside0.mk (Kept.refl w (fun k_ => P0_ k_))
  have HW0 := Aside0.mk hB.size
  have HB := Aside0.mk hB
  clear hB
  have H : (laws_markShipS.l0 k l0 a1 0) = some (r1, r2) := h
  clear h
  have H' := Aside0.mk H
  clear H
  go_enter Try.func32, Try.ntmps32
  go_wp2
  go_loopg [1, 5] k (fun kq v1 v5 w' => ∃ (x0_1 : List (S60)) (x1_1 : Int) (x5_1 : Int), v1 = .int .i64 x1_1 ∧ v5 = .int .i64 x5_1 ∧ Aside0 (laws_markShipS.l0 kq x0_1 x1_1 x5_1 = some (r1, r2)) ∧ Aside0 (kq ≤ k) ∧ Aside0 (Kd.R k60 60 w' w0.heap.size (fun k_ => (P0_ k_ ∨ w.heap.size ≤ k_)) u9000_ x0_1) ∧ Aside0 (Kept w w' (fun k_ => P0_ k_)) ∧ Aside0 (Below w0.heap.size w0 w'))
  case atStart => exact ⟨(l0), (a1), (0), (by first | rfl | (simp only [IntKind.wrap_i64, wrap64]; done) | (simp; done) | (simp [*]; done)), (by first | rfl | (simp only [IntKind.wrap_i64, wrap64]; done) | (simp; done) | (simp [*]; done)), H', ⟨Nat.le_refl _⟩, ⟨by (with_reducible repeat (first | apply Kd.R_alloc | apply Kd.R_drewN | apply Kd.R_drew)); exact HO0.out⟩, ⟨by repeat (first | (with_reducible first | exact HK.out | apply Kept.alloc | apply Kept.drewN | apply Kept.drew) | exact HK.out)⟩, ⟨by repeat (first | (with_reducible first | exact HB.out | apply below_alloc | apply pw_below_drewN | apply below_drew1) | exact HB.out)⟩⟩
  case round =>
    clear H'
    try clear p2
    obtain ⟨x0_1, x1_1, x5_1, rfl, rfl, HA, HK1, HO_0, HK, HB⟩ := hrel
    cases gk with
    | zero => exact absurd HA.out (by simp [laws_markShipS.l0])
    | succ k1 =>
      have H := HA.out
      clear HA
      simp only [laws_markShipS.l0] at H
      by_cases c3 : x5_1 < (x0_1.length : Int)
      · rw [if_pos c3] at H
        have c3b0 : decide (x5_1 < (x0_1.length : Int)) = true := decide_eq_true c3
        clear c3
        by_cases c4 : 0 ≤ x5_1
        · rw [if_pos c4] at H
          have c4b0 : decide (0 ≤ x5_1) = true := decide_eq_true c4
          clear c4
          obtain ⟨y101, hy101⟩ : ∃ y_ : List (S60), y_ = (x0_1.set (x5_1 : Int).toNat (⟨IntKind.i8.wrap (x1_1), (rd_T60 x0_1 x5_1).f1, (rd_T60 x0_1 x5_1).f2⟩ : S60)) := ⟨_, rfl⟩
          replace H : ((some (y101.set (x5_1 : Int).toNat (⟨(rd_T60 y101 x5_1).f0, IntKind.i8.wrap (wrap64 (x1_1 + 1)), (rd_T60 y101 x5_1).f2⟩ : S60) : List (S60))).bind fun y102 => (laws_markShipS.l0 k1 (y102.set (x5_1 : Int).toNat (⟨(rd_T60 y102 x5_1).f0, (rd_T60 y102 x5_1).f1, IntKind.i8.wrap (wrap64 ((wrap64 (x1_1 + 1)) + 1))⟩ : S60)) (wrap64 ((wrap64 ((wrap64 (x1_1 + 1)) + 1)) + 1)) (wrap64 (x5_1 + 1)))) = some (r1, r2) := by first | (rw [hy101]; with_reducible exact H) | (have H2_ := (Option.bind_some _ _).symm.trans H; rw [hy101]; with_reducible exact H2_) | (have H2_ := (Option.bind_some _ _).symm.trans H; with_reducible exact H2_) | with_reducible exact H | (rw [hy101]; exact H) | exact H
          have Ny101 := Aside0.mk hy101
          clear hy101
          obtain ⟨y102, hy102⟩ : ∃ y_ : List (S60), y_ = (y101.set (x5_1 : Int).toNat (⟨(rd_T60 y101 x5_1).f0, IntKind.i8.wrap (wrap64 (x1_1 + 1)), (rd_T60 y101 x5_1).f2⟩ : S60)) := ⟨_, rfl⟩
          replace H : (laws_markShipS.l0 k1 (y102.set (x5_1 : Int).toNat (⟨(rd_T60 y102 x5_1).f0, (rd_T60 y102 x5_1).f1, IntKind.i8.wrap (wrap64 ((wrap64 (x1_1 + 1)) + 1))⟩ : S60)) (wrap64 ((wrap64 ((wrap64 (x1_1 + 1)) + 1)) + 1)) (wrap64 (x5_1 + 1))) = some (r1, r2) := by first | (rw [hy102]; with_reducible exact H) | (have H2_ := (Option.bind_some _ _).symm.trans H; rw [hy102]; with_reducible exact H2_) | (have H2_ := (Option.bind_some _ _).symm.trans H; with_reducible exact H2_) | with_reducible exact H | (rw [hy102]; exact H) | exact H
          have Ny102 := Aside0.mk hy102
          clear hy102
          obtain ⟨y103, hy103⟩ : ∃ y_ : List (S60), y_ = (y102.set (x5_1 : Int).toNat (⟨(rd_T60 y102 x5_1).f0, (rd_T60 y102 x5_1).f1, IntKind.i8.wrap (wrap64 ((wrap64 (x1_1 + 1)) + 1))⟩ : S60)) := ⟨_, rfl⟩
          replace H : (laws_markShipS.l0 k1 y103 (wrap64 ((wrap64 ((wrap64 (x1_1 + 1)) + 1)) + 1)) (wrap64 (x5_1 + 1))) = some (r1, r2) := by first | (rw [hy103]; with_reducible exact H) | (have H2_ := (Option.bind_some _ _).symm.trans H; rw [hy103]; with_reducible exact H2_) | (have H2_ := (Option.bind_some _ _).symm.trans H; with_reducible exact H2_) | with_reducible exact H | (rw [hy103]; exact H) | exact H
          have Ny103 := Aside0.mk hy103
          clear hy103
          have H' := Aside0.mk H
          clear H
          obtain ⟨Ao8, co8, eo8⟩ := Kd.R_slice HO_0.out
          subst eo8
          have p5 : 0 ≤ (x5_1 : Int) := of_decide_eq_true (by first | (with_reducible assumption) | assumption)
          have q5 : (x5_1 : Int) < ((x0_1.length : Int) : Int) := of_decide_eq_true (by first | (with_reducible assumption) | assumption)
          obtain ⟨go5, co5, eo5, gb5, gl5, cl5, HG5⟩ := Kd.R_form HO_0.out (by omega)
          (first | cases eo5 | (injection eo5 with ea_ en_ ec_; (first | subst ea_ | (injection ea_ with ea_; subst ea_)); subst ec_; clear en_))
          have GB5 := Aside0.mk gb5
          have GG5 := Aside0.mk HG5
          clear gb5 gl5 HG5
          have HMgo5 := Aside0.mk (show (P0_ go5 ∨ w.heap.size ≤ go5) from (HO_0.out.1 _ rfl))
          obtain ⟨ce5, hcl5, hM5, hcc5, hfr5⟩ := Kd.R_elem HO_0.out z60 (x5_1 : Int) p5 q5
          obtain rfl := k60_openM hM5
          have hx5_0 : wr.cell? ⟨go5, (x5_1 : Int).toNat * 3, none⟩ = some (.int .i8 ((rd_T60 x0_1 x5_1).f0)) := hcc5 0 _ rfl
          have hx5_1 : wr.cell? ⟨go5, (x5_1 : Int).toNat * 3 + 1, none⟩ = some (.int .i8 ((rd_T60 x0_1 x5_1).f1)) := hcc5 1 _ rfl
          have hx5_2 : wr.cell? ⟨go5, (x5_1 : Int).toNat * 3 + 2, none⟩ = some (.int .i8 ((rd_T60 x0_1 x5_1).f2)) := hcc5 2 _ rfl
          have hf5_0 : wr.frozen? ⟨go5, (x5_1 : Int).toNat * 3, none⟩ = false := hfr5 0
          have hf5_1 : wr.frozen? ⟨go5, (x5_1 : Int).toNat * 3 + 1, none⟩ = false := hfr5 1
          have hf5_2 : wr.frozen? ⟨go5, (x5_1 : Int).toNat * 3 + 2, none⟩ = false := hfr5 2
          clear hcl5 hcc5 hfr5 hM5
          replace p5 := eq_true p5
          replace q5 := eq_true q5
          have HX9 := Aside0.mk (show Kd.R k60 60 wr w0.heap.size (fun k_ => (P0_ k_ ∨ w.heap.size ≤ k_)) (.slice (some ⟨go5, 0, none⟩) x0_1.length co8) x0_1 from (by (with_reducible repeat (first | apply Kd.R_alloc | apply Kd.R_drewN | apply Kd.R_drew)); exact HO_0.out))
          obtain ⟨ce9, hcl9, hM9, hcc9, hfr9⟩ := Kd.R_elem HX9.out z60 (x5_1 : Int) (of_decide_eq_true (by first | (with_reducible assumption) | assumption)) (by have h_ : (x5_1 : Int) < ((x0_1.length : Int) : Int) := of_decide_eq_true (by first | (with_reducible assumption) | assumption); first | exact h_ | (have e_ := (Kd.R_reads' HO_0.out).1; omega) | simpa using h_)
          obtain rfl := k60_openM hM9
          have HP9 := Kd.R_seg HX9.out (x5_1 : Int) (of_decide_eq_true (by first | (with_reducible assumption) | assumption)) (by have h_ : (x5_1 : Int) < ((x0_1.length : Int) : Int) := of_decide_eq_true (by first | (with_reducible assumption) | assumption); first | exact h_ | (have e_ := (Kd.R_reads' HO_0.out).1; omega) | simpa using h_) (seg := [.int .i8 (IntKind.i8.wrap (x1_1))]) (j := 0) hcl9 hcc9 (show 1 ≤ 3 from by decide) (x' := (⟨IntKind.i8.wrap (x1_1), (rd_T60 x0_1 x5_1).f1, (rd_T60 x0_1 x5_1).f2⟩ : S60)) (k60_mkM _ _ _ (⟨IntKind.i8.wrap (x1_1), (rd_T60 x0_1 x5_1).f1, (rd_T60 x0_1 x5_1).f2⟩ : S60) ) (fun _ hk => hk)
          have hx9_0 := hcc9 0 _ rfl
          (try simp only [show (k60).sz = 3 from rfl, Nat.mul_one, Nat.add_zero] at hx9_0)
          have hf9_0 := hfr9 0
          (try simp only [show (k60).sz = 3 from rfl, Nat.mul_one, Nat.add_zero] at hf9_0)
          clear hcl9 hcc9 hfr9 hM9
          go_wp2_with (first | ((with_reducible refine gate_store (t := 58) (p := 17) rfl ?_); refine store_event (t := 58) (p := 17) (v := ?vo_w10) (w1 := (wr.setCell ⟨go5, (x5_1 : Int).toNat * 3, none⟩ (.int .i8 (IntKind.i8.wrap (x1_1))))) ?hg ?ho ?hn ?hr ?_; (case ho => rfl); (case hg => rfl); (case hn => rfl); (case hr => first | (go_simp; done) | (go_simp; rfl)); intro w10 hw; have hg : wr.grownBy w10 (some go5) := (by rw [hw]; exact HP9.2); have hp_ : Kd.R k60 60 w10 w0.heap.size (fun k_ => (P0_ k_ ∨ w.heap.size ≤ k_)) (.slice (some ⟨go5, 0, none⟩) x0_1.length co8) y101 := (by rw [hw, Ny101.out]; exact HP9.1); clear HP9; have n0_ := Aside0.mk (hp_); have n1_ := Aside0.mk ((by rw [hw]; exact below_set (HB.out) GB5.out : Below w0.heap.size w0 w10)); have n2_ := Aside0.mk (Kept.of_grown (S := (fun k_ => P0_ k_)) hg (by repeat (first | (with_reducible first | exact HK.out | apply Kept.alloc | apply Kept.drewN | apply Kept.drew) | exact HK.out)) (fun k_ e_ => (HO_0.out.1 k_ e_))); clear HO_0; clear HB; clear HK; have HO_0 := n0_; have HB := n1_; have HK := n2_; clear n0_ n1_ n2_; clear hg hw hp_; have p6 : 0 ≤ (x5_1 : Int) := of_decide_eq_true (by first | (with_reducible assumption) | assumption); have q6 : (x5_1 : Int) < ((x0_1.length : Int) : Int) := of_decide_eq_true (by first | (with_reducible assumption) | assumption); obtain ⟨ce6, hcl6, hM6, hcc6, hfr6⟩ := Kd.R_elem HO_0.out z60 (x5_1 : Int) p6 q6; obtain rfl := k60_openM hM6; have hx6_0 : w10.cell? ⟨go5, (x5_1 : Int).toNat * 3, none⟩ = some (.int .i8 ((rd_T60 y101 x5_1).f0)) := hcc6 0 _ rfl; have hx6_1 : w10.cell? ⟨go5, (x5_1 : Int).toNat * 3 + 1, none⟩ = some (.int .i8 ((rd_T60 y101 x5_1).f1)) := hcc6 1 _ rfl; have hx6_2 : w10.cell? ⟨go5, (x5_1 : Int).toNat * 3 + 2, none⟩ = some (.int .i8 ((rd_T60 y101 x5_1).f2)) := hcc6 2 _ rfl; have hf6_0 : w10.frozen? ⟨go5, (x5_1 : Int).toNat * 3, none⟩ = false := hfr6 0; have hf6_1 : w10.frozen? ⟨go5, (x5_1 : Int).toNat * 3 + 1, none⟩ = false := hfr6 1; have hf6_2 : w10.frozen? ⟨go5, (x5_1 : Int).toNat * 3 + 2, none⟩ = false := hfr6 2; clear hcl6 hcc6 hfr6 hM6; replace p6 := eq_true p6; replace q6 := eq_true q6; have HX11 := Aside0.mk (show Kd.R k60 60 w10 w0.heap.size (fun k_ => (P0_ k_ ∨ w.heap.size ≤ k_)) (.slice (some ⟨go5, 0, none⟩) x0_1.length co8) y101 from (by (with_reducible repeat (first | apply Kd.R_alloc | apply Kd.R_drewN | apply Kd.R_drew)); exact HO_0.out)); obtain ⟨ce11, hcl11, hM11, hcc11, hfr11⟩ := Kd.R_elem HX11.out z60 (x5_1 : Int) (of_decide_eq_true (by first | (with_reducible assumption) | assumption)) (by have h_ : (x5_1 : Int) < ((x0_1.length : Int) : Int) := of_decide_eq_true (by first | (with_reducible assumption) | assumption); first | exact h_ | (have e_ := (Kd.R_reads' HO_0.out).1; omega) | simpa using h_); obtain rfl := k60_openM hM11; have HP11 := Kd.R_seg HX11.out (x5_1 : Int) (of_decide_eq_true (by first | (with_reducible assumption) | assumption)) (by have h_ : (x5_1 : Int) < ((x0_1.length : Int) : Int) := of_decide_eq_true (by first | (with_reducible assumption) | assumption); first | exact h_ | (have e_ := (Kd.R_reads' HO_0.out).1; omega) | simpa using h_) (seg := [.int .i8 (IntKind.i8.wrap (wrap64 (x1_1 + 1)))]) (j := 1) hcl11 hcc11 (show 2 ≤ 3 from by decide) (x' := (⟨(rd_T60 y101 x5_1).f0, IntKind.i8.wrap (wrap64 (x1_1 + 1)), (rd_T60 y101 x5_1).f2⟩ : S60)) (k60_mkM _ _ _ (⟨(rd_T60 y101 x5_1).f0, IntKind.i8.wrap (wrap64 (x1_1 + 1)), (rd_T60 y101 x5_1).f2⟩ : S60) ) (fun _ hk => hk); have hx11_1 := hcc11 1 _ rfl; (try simp only [show (k60).sz = 3 from rfl, Nat.mul_one, Nat.add_zero] at hx11_1); have hf11_1 := hfr11 1; (try simp only [show (k60).sz = 3 from rfl, Nat.mul_one, Nat.add_zero] at hf11_1); clear hcl11 hcc11 hfr11 hM11) | ((with_reducible refine gate_store (t := 58) (p := 25) rfl ?_); refine store_event (t := 58) (p := 25) (v := ?vo_w12) (w1 := (w10.setCell ⟨go5, (x5_1 : Int).toNat * 3 + 1, none⟩ (.int .i8 (IntKind.i8.wrap (wrap64 (x1_1 + 1)))))) ?hg ?ho ?hn ?hr ?_; (case ho => rfl); (case hg => rfl); (case hn => rfl); (case hr => first | (go_simp; done) | (go_simp; rfl)); intro w12 hw; have hg : w10.grownBy w12 (some go5) := (by rw [hw]; exact HP11.2); have hp_ : Kd.R k60 60 w12 w0.heap.size (fun k_ => (P0_ k_ ∨ w.heap.size ≤ k_)) (.slice (some ⟨go5, 0, none⟩) x0_1.length co8) y102 := (by rw [hw, Ny102.out]; exact HP11.1); clear HP11; have n0_ := Aside0.mk (hp_); have n1_ := Aside0.mk ((by rw [hw]; exact below_set (HB.out) GB5.out : Below w0.heap.size w0 w12)); have n2_ := Aside0.mk (Kept.of_grown (S := (fun k_ => P0_ k_)) hg (by repeat (first | (with_reducible first | exact HK.out | apply Kept.alloc | apply Kept.drewN | apply Kept.drew) | exact HK.out)) (fun k_ e_ => (HO_0.out.1 k_ e_))); clear HO_0; clear HB; clear HK; have HO_0 := n0_; have HB := n1_; have HK := n2_; clear n0_ n1_ n2_; clear hg hw hp_; have p7 : 0 ≤ (x5_1 : Int) := of_decide_eq_true (by first | (with_reducible assumption) | assumption); have q7 : (x5_1 : Int) < ((x0_1.length : Int) : Int) := of_decide_eq_true (by first | (with_reducible assumption) | assumption); obtain ⟨ce7, hcl7, hM7, hcc7, hfr7⟩ := Kd.R_elem HO_0.out z60 (x5_1 : Int) p7 q7; obtain rfl := k60_openM hM7; have hx7_0 : w12.cell? ⟨go5, (x5_1 : Int).toNat * 3, none⟩ = some (.int .i8 ((rd_T60 y102 x5_1).f0)) := hcc7 0 _ rfl; have hx7_1 : w12.cell? ⟨go5, (x5_1 : Int).toNat * 3 + 1, none⟩ = some (.int .i8 ((rd_T60 y102 x5_1).f1)) := hcc7 1 _ rfl; have hx7_2 : w12.cell? ⟨go5, (x5_1 : Int).toNat * 3 + 2, none⟩ = some (.int .i8 ((rd_T60 y102 x5_1).f2)) := hcc7 2 _ rfl; have hf7_0 : w12.frozen? ⟨go5, (x5_1 : Int).toNat * 3, none⟩ = false := hfr7 0; have hf7_1 : w12.frozen? ⟨go5, (x5_1 : Int).toNat * 3 + 1, none⟩ = false := hfr7 1; have hf7_2 : w12.frozen? ⟨go5, (x5_1 : Int).toNat * 3 + 2, none⟩ = false := hfr7 2; clear hcl7 hcc7 hfr7 hM7; replace p7 := eq_true p7; replace q7 := eq_true q7; have HX13 := Aside0.mk (show Kd.R k60 60 w12 w0.heap.size (fun k_ => (P0_ k_ ∨ w.heap.size ≤ k_)) (.slice (some ⟨go5, 0, none⟩) x0_1.length co8) y102 from (by (with_reducible repeat (first | apply Kd.R_alloc | apply Kd.R_drewN | apply Kd.R_drew)); exact HO_0.out)); obtain ⟨ce13, hcl13, hM13, hcc13, hfr13⟩ := Kd.R_elem HX13.out z60 (x5_1 : Int) (of_decide_eq_true (by first | (with_reducible assumption) | assumption)) (by have h_ : (x5_1 : Int) < ((x0_1.length : Int) : Int) := of_decide_eq_true (by first | (with_reducible assumption) | assumption); first | exact h_ | (have e_ := (Kd.R_reads' HO_0.out).1; omega) | simpa using h_); obtain rfl := k60_openM hM13; have HP13 := Kd.R_seg HX13.out (x5_1 : Int) (of_decide_eq_true (by first | (with_reducible assumption) | assumption)) (by have h_ : (x5_1 : Int) < ((x0_1.length : Int) : Int) := of_decide_eq_true (by first | (with_reducible assumption) | assumption); first | exact h_ | (have e_ := (Kd.R_reads' HO_0.out).1; omega) | simpa using h_) (seg := [.int .i8 (IntKind.i8.wrap (wrap64 ((wrap64 (x1_1 + 1)) + 1)))]) (j := 2) hcl13 hcc13 (show 3 ≤ 3 from by decide) (x' := (⟨(rd_T60 y102 x5_1).f0, (rd_T60 y102 x5_1).f1, IntKind.i8.wrap (wrap64 ((wrap64 (x1_1 + 1)) + 1))⟩ : S60)) (k60_mkM _ _ _ (⟨(rd_T60 y102 x5_1).f0, (rd_T60 y102 x5_1).f1, IntKind.i8.wrap (wrap64 ((wrap64 (x1_1 + 1)) + 1))⟩ : S60) ) (fun _ hk => hk); have hx13_2 := hcc13 2 _ rfl; (try simp only [show (k60).sz = 3 from rfl, Nat.mul_one, Nat.add_zero] at hx13_2); have hf13_2 := hfr13 2; (try simp only [show (k60).sz = 3 from rfl, Nat.mul_one, Nat.add_zero] at hf13_2); clear hcl13 hcc13 hfr13 hM13) | ((with_reducible refine gate_store (t := 58) (p := 33) rfl ?_); refine store_event (t := 58) (p := 33) (v := ?vo_w14) (w1 := (w12.setCell ⟨go5, (x5_1 : Int).toNat * 3 + 2, none⟩ (.int .i8 (IntKind.i8.wrap (wrap64 ((wrap64 (x1_1 + 1)) + 1)))))) ?hg ?ho ?hn ?hr ?_; (case ho => rfl); (case hg => rfl); (case hn => rfl); (case hr => first | (go_simp; done) | (go_simp; rfl)); intro w14 hw; have hg : w12.grownBy w14 (some go5) := (by rw [hw]; exact HP13.2); have hp_ : Kd.R k60 60 w14 w0.heap.size (fun k_ => (P0_ k_ ∨ w.heap.size ≤ k_)) (.slice (some ⟨go5, 0, none⟩) x0_1.length co8) y103 := (by rw [hw, Ny103.out]; exact HP13.1); clear HP13; have n0_ := Aside0.mk (hp_); have n1_ := Aside0.mk ((by rw [hw]; exact below_set (HB.out) GB5.out : Below w0.heap.size w0 w14)); have n2_ := Aside0.mk (Kept.of_grown (S := (fun k_ => P0_ k_)) hg (by repeat (first | (with_reducible first | exact HK.out | apply Kept.alloc | apply Kept.drewN | apply Kept.drew) | exact HK.out)) (fun k_ e_ => (HO_0.out.1 k_ e_))); clear HO_0; clear HB; clear HK; have HO_0 := n0_; have HB := n1_; have HK := n2_; clear n0_ n1_ n2_; clear hg hw hp_))
          go_roundg k1
          case measure => have := HK1.out; omega
          case rel => exact ⟨(y103), (wrap64 ((wrap64 ((wrap64 (x1_1 + 1)) + 1)) + 1)), (wrap64 (x5_1 + 1)), (by first | rfl | (simp only [IntKind.wrap_i64, wrap64]; done) | (simp; done) | (simp [*]; done)), (by first | rfl | (simp only [IntKind.wrap_i64, wrap64]; done) | (simp; done) | (simp [*]; done)), H', ⟨by have := HK1.out; omega⟩, ⟨by (with_reducible repeat (first | apply Kd.R_alloc | apply Kd.R_drewN | apply Kd.R_drew)); exact HO_0.out⟩, ⟨by repeat (first | (with_reducible first | exact HK.out | apply Kept.alloc | apply Kept.drewN | apply Kept.drew) | exact HK.out)⟩, ⟨by repeat (first | (with_reducible first | exact HB.out | apply below_alloc | apply pw_below_drewN | apply below_drew1) | exact HB.out)⟩⟩
        · rw [if_neg c4] at H
          exact absurd H (by simp)
      · rw [if_neg c3] at H
        have c3b0 : decide (x5_1 < (x0_1.length : Int)) = false := decide_eq_false c3
        clear c3
        simp only [Option.some.injEq, Prod.mk.injEq] at H
        obtain ⟨rfl, rfl⟩ := H
        obtain ⟨Ao15, co15, eo15⟩ := Kd.R_slice HO_0.out
        subst eo15
        go_wp2
        go_ret
        exact ⟨by first | rfl | (simp [errW_none, errW_some, IntKind.wrap_i64, wrap64]; done) | (simp [errW_none, errW_some] <;> rfl) | (simp [*, errW_none, errW_some] <;> rfl), by (with_reducible repeat (first | apply Kd.R_alloc | apply Kd.R_drewN | apply Kd.R_drew)); exact HO_0.out, by repeat (first | (with_reducible first | exact HB.out | apply below_alloc | apply pw_below_drewN | apply below_drew1) | exact HB.out), by repeat (first | (with_reducible first | exact HK.out | apply Kept.alloc | apply Kept.drewN | apply Kept.drew) | exact HK.out)⟩

end Go.Proofs.Ytclmedjighnkjaa.G
end

section
namespace Go.Proofs.Ytclmedjighnkjaa.G.Pure
open Go.RowKit Go.Proofs.Ytclmedjighnkjaa.G Go.Proofs.YtclmedjighnkjaaW.PrintWords Go.Proofs.YtclmedjighnkjaaW.PrintLast Go.Proofs.YtclmedjighnkjaaW.PrintMore
set_option linter.unusedVariables false
set_option linter.unusedSimpArgs false
/-! What the laws' own helpers come to over ships. -/
def shipOf (x : S62) : S60 := ⟨x.f0, x.f1, x.f2⟩
theorem szShipS_eq (l : List (S62)) (a : Int) (h0 : 0 ≤ a) (h1 : a ≤ 1048576) (hl : l.length ≤ 9223372036854775807) : laws_szShipS.f l a = some (if a - l.length < 0 then -1 else a - l.length) := by
  unfold laws_szShipS.f
  rw [w64 (by omega) (by omega)]
  split <;> rfl
theorem rd_laws_Ship {l : List (S62)} {i : Nat} (h : i < l.length) : rd_T62 l (i : Int) = l[i] := by
  simp [rd_T62, List.getD_eq_getElem?_getD, List.getElem?_eq_getElem h]
theorem rd_impl_Ship {l : List (S60)} {i : Nat} (h : i < l.length) : rd_T60 l (i : Int) = l[i] := by
  simp [rd_T60, List.getD_eq_getElem?_getD, List.getElem?_eq_getElem h]
theorem toShipS_eq (k : Nat) (l : List (S62)) (hl : l.length ≤ 1048576) (hk : l.length < k) : laws_toShipS.f k l = some (l.map shipOf) := by
  unfold laws_toShipS.f
  rw [if_pos (by omega), if_pos (by omega)]
  obtain ⟨r, hr, h⟩ := loop_inv (fun k (s : List (S60) × Int) => laws_toShipS.l0 k l s.1 s.2) l.length (fun i s => s.2 = (i : Int) ∧ s.1.length = l.length ∧ s.1.take i = (l.map shipOf).take i) (fun r => r = l.map shipOf)
    (fun k i s hi ⟨h1, h2, h3⟩ => by
      obtain ⟨acc, x⟩ := s
      simp only at h1 h2 h3
      subst h1
      refine .inl ⟨(acc.set i (shipOf l[i]), ((i + 1 : Nat) : Int)), ⟨rfl, by simpa using h2, ?_⟩, ?_⟩
      · rw [take_set_succ (by omega), h3, List.take_succ_eq_append_getElem (by simpa using hi)]
        simp
      · simp only [laws_toShipS.l0]
        rw [if_pos (by omega), if_pos (by omega), rd_laws_Ship hi]
        simp only [laws_toShip.f, Option.bind_some]
        rw [if_pos (by omega), w64 (by omega) (by omega)]
        rfl)
    (fun k s ⟨h1, h2, h3⟩ => by
      obtain ⟨acc, x⟩ := s
      simp only at h1 h2 h3
      subst h1
      refine ⟨acc, ?_, ?_⟩
      · rw [List.take_of_length_le (by omega), List.take_of_length_le (by simp)] at h3
        exact h3
      · simp only [laws_toShipS.l0]
        rw [if_neg (by omega)]) k (List.replicate l.length z60, 0) ⟨rfl, by simp, by simp⟩ hk
  subst hr
  simpa using h
theorem eqShip_self (a : S60) : laws_eqShip.f a.f0 a.f1 a.f2 a.f0 a.f1 a.f2 = some true := by
  simp [laws_eqShip.f]
theorem eqShipS_self (k : Nat) (a : List (S60)) (hl : a.length ≤ 1048576) (hk : a.length < k) : laws_eqShipS.f k a a = some true := by
  unfold laws_eqShipS.f
  rw [if_pos rfl]
  obtain ⟨r, hr, h⟩ := loop_inv (fun k (s : Int) => laws_eqShipS.l0 k a a s) a.length (fun i s => s = (i : Int)) (fun r => r = true)
    (fun k i s hi h1 => by
      subst h1
      refine .inl ⟨((i + 1 : Nat) : Int), rfl, ?_⟩
      simp only [laws_eqShipS.l0]
      rw [if_pos (by omega), if_pos (by omega), if_pos (by omega), eqShip_self]
      simp only [Option.bind_some, if_true]
      rw [w64 (by omega) (by omega)]
      rfl)
    (fun k s h1 => by
      subst h1
      refine ⟨true, rfl, ?_⟩
      simp only [laws_eqShipS.l0]
      rw [if_neg (by omega)]) k 0 rfl hk
  subst hr
  exact h
/-- Writing over what came in: the number behind it is positive. -/
theorem markShipS_pos (k : Nat) (a : List (S60)) (hl : a.length ≤ 1048576) (hk : a.length < k) : ∃ r, laws_markShipS.f k a 1 = some r ∧ 0 ≤ r.1 := by
  unfold laws_markShipS.f
  obtain ⟨r, hr, h⟩ := loop_inv (fun k (s : List (S60) × Int × Int) => laws_markShipS.l0 k s.1 s.2.1 s.2.2) a.length (fun i s => s.2.2 = (i : Int) ∧ s.2.1 = 1 + 3 * (i : Int) ∧ s.1.length = a.length) (fun r => 0 ≤ r.1)
    (fun k i s hi ⟨h1, h2, h3⟩ => by
      obtain ⟨acc, m, x⟩ := s
      simp only at h1 h2 h3
      subst h1 h2
      refine .inl ⟨(?acc, 1 + 3 * ((i + 1 : Nat) : Int), ((i + 1 : Nat) : Int)), ⟨rfl, rfl, ?len⟩, ?eq⟩
      case eq =>
        simp only [laws_markShipS.l0]
        rw [if_pos (by omega), if_pos (by omega)]
        simp only [Option.bind_some]
        rw [w64 (n := (i : Int) + 1) (by omega) (by omega), w64 (n := 1 + 3 * (i : Int) + 1) (by omega) (by omega), w64 (n := 1 + 3 * (i : Int) + 1 + 1) (by omega) (by omega), w64 (n := 1 + 3 * (i : Int) + 1 + 1 + 1) (by omega) (by omega)]
        rw [show 1 + 3 * (i : Int) + 1 + 1 + 1 = 1 + 3 * ((i + 1 : Nat) : Int) by omega]
        rfl
      case len => simp [h3])
    (fun k s ⟨h1, h2, h3⟩ => by
      obtain ⟨acc, m, x⟩ := s
      simp only at h1 h2 h3
      subst h1 h2
      refine ⟨(1 + 3 * (a.length : Int), acc), by show 0 ≤ 1 + 3 * (a.length : Int); omega, ?_⟩
      simp only [laws_markShipS.l0]
      rw [if_neg (by omega)]) k (a, 1, 0) ⟨rfl, rfl, rfl⟩ hk
  exact ⟨r, h, hr⟩

end Go.Proofs.Ytclmedjighnkjaa.G.Pure
end

section
namespace Go.Proofs.Ytclmedjighnkjaa.G.Pure
open Go.RowKit Go.Proofs.Ytclmedjighnkjaa.G Go.Proofs.YtclmedjighnkjaaW.PrintWords Go.Proofs.YtclmedjighnkjaaW.PrintLast Go.Proofs.YtclmedjighnkjaaW.PrintMore
set_option linter.unusedVariables false
set_option linter.unusedSimpArgs false
/-! The times of a line: what both programs come to. -/
abbrev Sp := S60
abbrev Tm := S69
/-- From whom a ship reads: the first one, of those that fly earliest, among the ships a, a + 1, .., a + n - 1. -/
def scan (pre : List Tm) (a : Nat) : Nat → Int × Int
  | 0 => (-1, -1)
  | n + 1 => match scan pre a n with
    | (f, s) => match pre[a + n]? with
      | some t => if 0 ≤ t.f3 ∧ (f < 0 ∨ t.f3 < s) then (((a + n : Nat) : Int), t.f3) else (f, s)
      | none => (f, s)
/-- The times of a ship with so many ships ahead. -/
def dueL (pre : List Tm) (x : Sp) (read : Int) : Tm :=
  if pre.length = 0 then ⟨-1, 0, 0, x.f2⟩ else
    match scan pre (pre.length - x.f0.toNat) (pre.length - (pre.length - x.f0.toNat)) with
    | (f, s) => if 0 ≤ f then ⟨f, s, s + read, s + read + x.f2⟩ else ⟨-1, -1, -1, -1⟩
def timesGo (ship more : Int) : List Sp → List Tm → List Tm
  | [], acc => acc
  | x :: xs, acc => timesGo ship more xs (acc ++ [dueL acc x (x.f1 + if (acc.length : Int) = ship then more else 0)])
def timesL (ship more : Int) (l : List Sp) : List Tm := timesGo ship more l []
/-- What is known of times. -/
structure TimesOK (ts : List Tm) : Prop where
  first : ∀ t, ts[0]? = some t → t.f0 = -1 ∧ t.f1 = 0 ∧ t.f2 = 0 ∧ 0 ≤ t.f3
  bound : ∀ (i : Nat) t, ts[i]? = some t → t.f3 ≤ 200 * ((i : Int) + 1) ∧ t.f2 ≤ t.f3 ∧ t.f1 ≤ t.f2
  later : ∀ (i : Nat) t, ts[i]? = some t → 0 < i → (t = ⟨-1, -1, -1, -1⟩) ∨ (0 ≤ t.f0 ∧ t.f0 < (i : Int) ∧ 0 ≤ t.f1 ∧ ∃ u, ts[t.f0.toNat]? = some u ∧ u.f3 = t.f1)
theorem TimesOK.nil : TimesOK [] := ⟨fun t h => by simp at h, fun i t h => by simp at h, fun i t h => by simp at h⟩
theorem scan_spec (pre : List Tm) (hok : TimesOK pre) (a n : Nat) (h : a + n ≤ pre.length) :
    (scan pre a n = (-1, -1) ∨ (0 ≤ (scan pre a n).1 ∧ (scan pre a n).1 < ((a + n : Nat) : Int) ∧ 0 ≤ (scan pre a n).2 ∧ (scan pre a n).2 ≤ 200 * ((a + n : Nat) : Int) ∧ ∃ u, pre[(scan pre a n).1.toNat]? = some u ∧ u.f3 = (scan pre a n).2)) := by
  induction n with
  | zero => exact .inl rfl
  | succ n ih =>
    have hi : a + n < pre.length := by omega
    have e : pre[a + n]? = some pre[a + n] := List.getElem?_eq_getElem hi
    have hb := hok.bound _ _ e
    obtain ih := ih (by omega)
    rcases hs : scan pre a n with ⟨f, s⟩
    rw [hs] at ih
    simp only [scan, hs, e]
    split
    · right
      exact ⟨by simp only; omega, by simp only; omega, by simp only; omega, by simp only; omega, pre[a + n], by show pre[((a + n : Nat) : Int).toNat]? = _; rw [Int.toNat_natCast]; exact e, rfl⟩
    · rcases ih with ih | ih
      · exact .inl ih
      · right
        exact ⟨ih.1, by omega, ih.2.2.1, by omega, ih.2.2.2.2⟩
/-- A ship as it may stand in a line: what it needs to read may be longer by up to 60. -/
def shipIn (x : Sp) : Prop := 0 ≤ x.f0 ∧ x.f0 ≤ 6 ∧ 0 ≤ x.f1 ∧ x.f1 ≤ 120 ∧ 0 ≤ x.f2 ∧ x.f2 ≤ 60
theorem due_ok {pre : List Tm} (hok : TimesOK pre) {x : Sp} {read : Int} (h2 : 0 ≤ x.f2 ∧ x.f2 ≤ 60) (hr : 0 ≤ read ∧ read ≤ 120) : TimesOK (pre ++ [dueL pre x read]) := by
  have hs := scan_spec pre hok (pre.length - x.f0.toNat) (pre.length - (pre.length - x.f0.toNat)) (by omega)
  rw [show pre.length - x.f0.toNat + (pre.length - (pre.length - x.f0.toNat)) = pre.length by omega] at hs
  unfold dueL
  rcases hsc : scan pre (pre.length - x.f0.toNat) (pre.length - (pre.length - x.f0.toNat)) with ⟨f, s⟩
  rw [hsc] at hs
  simp only at hs
  refine ⟨fun t ht => ?_, fun i t ht => ?_, fun i t ht hi => ?_⟩
  · rcases Nat.eq_zero_or_pos pre.length with h0 | h0
    · rw [List.getElem?_append_right (by omega), if_pos h0] at ht
      simp [h0] at ht
      subst ht
      exact ⟨rfl, rfl, rfl, h2.1⟩
    · rw [List.getElem?_append_left h0] at ht
      exact hok.first t ht
  · rcases Nat.lt_or_ge i pre.length with hi | hi
    · rw [List.getElem?_append_left hi] at ht
      exact hok.bound i t ht
    · rw [List.getElem?_append_right hi] at ht
      have h0 : i - pre.length = 0 := by
        rcases Nat.eq_zero_or_pos (i - pre.length) with h | h
        · exact h
        · rw [List.getElem?_eq_none (by simp; omega)] at ht
          cases ht
      rw [h0] at ht
      simp only [List.getElem?_cons_zero, Option.some.injEq] at ht
      split at ht
      · subst ht
        simp only
        omega
      · split at ht
        · subst ht
          rcases hs with hs | hs
          · simp only [Prod.mk.injEq] at hs
            omega
          · simp only
            omega
        · subst ht
          simp only
          omega
  · rcases Nat.lt_or_ge i pre.length with hl | hl
    · rw [List.getElem?_append_left hl] at ht
      rcases hok.later i t ht hi with h | ⟨h1, h2, h3, u, hu, h4⟩
      · exact .inl h
      · refine .inr ⟨h1, h2, h3, u, ?_, h4⟩
        rw [List.getElem?_append_left (by omega)]
        exact hu
    · rw [List.getElem?_append_right hl] at ht
      have h0 : i - pre.length = 0 := by
        rcases Nat.eq_zero_or_pos (i - pre.length) with h | h
        · exact h
        · rw [List.getElem?_eq_none (by simp; omega)] at ht
          cases ht
      rw [h0] at ht
      simp only [List.getElem?_cons_zero, Option.some.injEq] at ht
      rw [if_neg (by omega)] at ht
      split at ht
      · rcases hs with hs | ⟨h1, h2, h3, h4, u, hu, h5⟩
        · simp only [Prod.mk.injEq] at hs
          omega
        · subst ht
          refine .inr ⟨h1, by simp only; omega, h3, u, ?_, h5⟩
          simp only
          rw [List.getElem?_append_left (by omega)]
          exact hu
      · exact .inl ht.symm
theorem timesGo_len (ship more : Int) : ∀ (l : List Sp) (acc : List Tm), (timesGo ship more l acc).length = acc.length + l.length
  | [], acc => by simp [timesGo]
  | x :: xs, acc => by
    simp only [timesGo]
    rw [timesGo_len ship more xs]
    simp
    omega
theorem timesL_len (ship more : Int) (l : List Sp) : (timesL ship more l).length = l.length := by
  simp [timesL, timesGo_len]
theorem timesGo_ok (ship more : Int) : ∀ (l : List Sp) (acc : List Tm), TimesOK acc → (∀ x ∈ l, 0 ≤ x.f2 ∧ x.f2 ≤ 60) → (∀ i x, l[i]? = some x → 0 ≤ x.f1 + (if ((acc.length + i : Nat) : Int) = ship then more else 0) ∧ x.f1 + (if ((acc.length + i : Nat) : Int) = ship then more else 0) ≤ 120) → TimesOK (timesGo ship more l acc)
  | [], acc, h, _, _ => h
  | x :: xs, acc, h, h2, hr => by
    simp only [timesGo]
    have h0 := hr 0 x rfl
    refine timesGo_ok ship more xs _ (due_ok h (h2 x (by simp)) (by simpa using h0)) (fun y hy => h2 y (by simp [hy])) (fun i y hy => ?_)
    have := hr (i + 1) y (by simpa using hy)
    simp only [List.length_append, List.length_singleton]
    rw [show acc.length + 1 + i = acc.length + (i + 1) by omega]
    exact this

end Go.Proofs.Ytclmedjighnkjaa.G.Pure
end

section
namespace Go.Proofs.Ytclmedjighnkjaa.G.Pure
open Go.RowKit Go.Proofs.Ytclmedjighnkjaa.G Go.Proofs.YtclmedjighnkjaaW.PrintWords Go.Proofs.YtclmedjighnkjaaW.PrintLast Go.Proofs.YtclmedjighnkjaaW.PrintMore
set_option linter.unusedVariables false
set_option linter.unusedSimpArgs false
/-! The reference's times. -/
theorem rd_impl_Times {l : List Tm} {i : Nat} (h : i < l.length) : rd_T69 l (i : Int) = l[i] := by
  simp [rd_T69, List.getD_eq_getElem?_getD, List.getElem?_eq_getElem h]
def tup (t : Tm) : Int × Int × Int × Int := (t.f0, t.f1, t.f2, t.f3)
theorem due_eq (k : Nat) (line : List Sp) (pre : List Tm) (i : Nat) (read : Int) (hi : i < line.length) (hp : pre.length = i) (h20 : i < 20) (hok : TimesOK pre) (hx : shipIn line[i]) (hr : 0 ≤ read ∧ read ≤ 120) (hk : 8 < k) :
    spec_l06Due.f k line pre (i : Int) read = some (tup (dueL pre line[i] read)) := by
  obtain ⟨s0, s1, s2, s3, s4, s5⟩ := hx
  unfold spec_l06Due.f
  rw [if_pos (by omega), if_pos (by omega), rd_impl_Ship hi]
  rw [w64 (n := (line[i]).f2) (by omega) (by omega), w64 (n := (line[i]).f0) (by omega) (by omega)]
  by_cases h0 : (i : Int) = 0
  · rw [if_pos h0]
    simp [dueL, tup, hp, show i = 0 by omega]
  · rw [if_neg h0, w64 (by omega) (by omega)]
    have hsc := fun n (hn : (i - (line[i]).f0.toNat) + n ≤ pre.length) => scan_spec pre hok (i - (line[i]).f0.toNat) n hn
    generalize line[i] = x at *
    obtain ⟨r, hr', h⟩ := loop_inv (fun k (s : Int × Int × Int) => spec_l06Due.l0 k pre (i : Int) read x.f2 s.1 s.2.1 s.2.2 (-1) (-1)) x.f0.toNat
      (fun j s => s.1 = (i : Int) - x.f0 + j ∧ (s.2.1, s.2.2) = scan pre (i - x.f0.toNat) ((i + j - x.f0.toNat) - (i - x.f0.toNat)))
      (fun r => r = tup (dueL pre x read))
      (fun k j s hj ⟨h1, h2⟩ => by
        obtain ⟨p, f, s⟩ := s
        simp only at h1 h2
        subst h1
        refine .inl ?_
        by_cases hneg : 0 ≤ (i : Int) - x.f0 + j
        · obtain ⟨q, hq⟩ : ∃ q : Nat, (i : Int) - x.f0 + j = (q : Int) := ⟨((i : Int) - x.f0 + j).toNat, by omega⟩
          have hql : q < pre.length := by omega
          have hb := hok.bound q _ (List.getElem?_eq_getElem hql)
          have hn : i - x.f0.toNat + (i + j - x.f0.toNat - (i - x.f0.toNat)) = q := by omega
          have hn2 : i + (j + 1) - x.f0.toNat - (i - x.f0.toNat) = (i + j - x.f0.toNat - (i - x.f0.toNat)) + 1 := by omega
          refine ⟨((q : Int) + 1, (scan pre (i - x.f0.toNat) (i + (j + 1) - x.f0.toNat - (i - x.f0.toNat))).1, (scan pre (i - x.f0.toNat) (i + (j + 1) - x.f0.toNat - (i - x.f0.toNat))).2), ⟨by simp only; omega, rfl⟩, ?_⟩
          rw [hn2]
          simp only [scan, ← h2, hn, List.getElem?_eq_getElem hql]
          rw [hq]
          simp only [spec_l06Due.l0]
          rw [if_pos (by omega), if_pos (by omega), if_pos (by omega), if_pos (by omega), rd_impl_Times hql, w64 (n := (q : Int) + 1) (by omega) (by omega), i8w (n := (q : Int)) (by omega) (by omega)]
          by_cases c1 : 0 ≤ pre[q].f3
          · rw [if_pos (by omega)]
            by_cases c2 : f < 0
            · rw [if_pos c2, if_pos ⟨c1, .inl c2⟩]
            · rw [if_neg c2]
              by_cases c3 : pre[q].f3 < s
              · rw [if_pos c3, if_pos ⟨c1, .inr c3⟩]
              · rw [if_neg c3, if_neg (fun h => h.2.elim c2 c3)]
          · rw [if_neg (by omega), if_neg (fun h => c1 h.1)]
        · have hn : i + j - x.f0.toNat - (i - x.f0.toNat) = 0 := by omega
          have hn2 : i + (j + 1) - x.f0.toNat - (i - x.f0.toNat) = 0 := by omega
          refine ⟨((i : Int) - x.f0 + j + 1, f, s), ⟨by simp only; omega, ?_⟩, ?_⟩
          · rw [hn2]; rw [hn] at h2; exact h2
          · simp only [spec_l06Due.l0]
            rw [if_pos (by omega), if_neg (by omega), w64 (by omega) (by omega)])
      (fun k s ⟨h1, h2⟩ => by
        obtain ⟨p, f, s⟩ := s
        simp only at h1 h2
        have hp' : p = (i : Int) := by omega
        subst hp'
        have hn : i + x.f0.toNat - x.f0.toNat - (i - x.f0.toNat) = pre.length - (pre.length - x.f0.toNat) := by omega
        refine ⟨_, rfl, ?_⟩
        have hs := hsc (pre.length - (pre.length - x.f0.toNat)) (by omega)
        rw [hn] at h2
        rw [← h2] at hs
        simp only [spec_l06Due.l0]
        rw [if_neg (by omega)]
        unfold dueL
        rw [if_neg (show ¬ pre.length = 0 by omega), show pre.length - x.f0.toNat = i - x.f0.toNat by omega]
        rw [show pre.length - x.f0.toNat = i - x.f0.toNat by omega] at h2
        rw [← h2]
        simp only
        by_cases c : 0 ≤ f
        · rw [if_pos (by omega), if_pos c]
          rcases hs with hs | hs
          · simp only [Prod.mk.injEq] at hs
            omega
          · simp only at hs
            rw [w64 (n := s + read) (by omega) (by omega), w64 (by omega) (by omega)]
            rfl
        · rw [if_neg (by omega), if_neg c]
          rcases hs with hs | hs
          · simp only [Prod.mk.injEq] at hs
            rw [hs.1, hs.2]
            rfl
          · simp only at hs
            omega) k ((i : Int) - x.f0, -1, -1) ⟨by simp, by
        rw [show i + 0 - x.f0.toNat - (i - x.f0.toNat) = 0 by omega]
        rfl⟩ (by omega)
    subst hr'
    exact h
theorem specTimes_eq (k : Nat) (line : List Sp) (ship more : Int) (hl : line.length ≤ 20) (hx : ∀ x ∈ line, shipIn x) (hr : ∀ (i : Nat) (x : Sp), line[i]? = some x → 0 ≤ x.f1 + (if (i : Int) = ship then more else 0) ∧ x.f1 + (if (i : Int) = ship then more else 0) ≤ 120) (hm : 0 ≤ more ∧ more ≤ 60) (hk : 40 < k) :
    spec_l06Times.f k line ship more = some (timesL ship more line) := by
  unfold spec_l06Times.f
  have go : ∀ (rest : List Sp) (k : Nat) (acc : List Tm), line.drop acc.length = rest → TimesOK acc → acc.length ≤ line.length → rest.length + 10 < k → spec_l06Times.l0 k line ship more acc (acc.length : Int) = some (timesGo ship more rest acc) := by
    intro rest
    induction rest with
    | nil =>
      intro k acc hd hok hle hk
      obtain ⟨k, rfl⟩ : ∃ m, k = m + 1 := ⟨k - 1, by omega⟩
      have := List.drop_eq_nil_iff.1 hd
      simp only [spec_l06Times.l0]
      rw [if_neg (by omega)]
      rfl
    | cons x xs ih =>
      intro k acc hd hok hle hk
      simp only [List.length_cons] at hk
      obtain ⟨k, rfl⟩ : ∃ m, k = m + 1 := ⟨k - 1, by omega⟩
      have hlt : acc.length < line.length := by
        have := congrArg List.length hd
        simp at this
        omega
      have hx0 : line[acc.length] = x := by
        have h1 := List.drop_eq_getElem_cons hlt
        rw [hd] at h1
        exact (List.cons.inj h1).1.symm
      have hxs : line.drop (acc.length + 1) = xs := by
        have h1 := List.drop_eq_getElem_cons hlt
        rw [hd] at h1
        exact (List.cons.inj h1).2.symm
      have hmem : x ∈ line := hx0 ▸ List.getElem_mem hlt
      obtain ⟨s0, s1, s2, s3, s4, s5⟩ := hx x hmem
      have hr' := hr acc.length x (by rw [List.getElem?_eq_getElem hlt, hx0])
      simp only [spec_l06Times.l0]
      rw [if_pos (by omega), if_pos (by omega), rd_impl_Ship hlt, hx0]
      rw [w64 (n := x.f1) (by omega) (by omega), w64 (n := (acc.length : Int) + 1) (by omega) (by omega)]
      have step : ∀ read, read = x.f1 + (if (acc.length : Int) = ship then more else 0) → 
          ((spec_l06Due.f k line acc (acc.length : Int) read).bind fun bt => (if acc.length < 4398046511104 then (spec_l06Times.l0 k line ship more (acc ++ [(⟨bt.1, bt.2.1, bt.2.2.1, bt.2.2.2⟩ : Tm)]) ((acc.length : Int) + 1)) else none)) = some (timesGo ship more (x :: xs) acc) := by
        intro read hread
        rw [due_eq k line acc acc.length read hlt rfl (by omega) hok (by rw [hx0]; exact hx x hmem) (by rw [hread]; exact hr') (by omega)]
        simp only [Option.bind_some]
        rw [if_pos (by omega), hx0]
        have h2 := ih k (acc ++ [dueL acc x read]) (by simpa using hxs) (due_ok hok ⟨s4, s5⟩ (by rw [hread]; exact hr')) (by simp; omega) (by omega)
        rw [show ((acc ++ [dueL acc x read]).length : Int) = (acc.length : Int) + 1 by simp] at h2
        simp only [tup, timesGo]
        rw [← hread]
        exact h2
      by_cases c : (acc.length : Int) = ship
      · rw [if_pos c]
        rw [if_pos c] at hr'
        rw [w64 (n := x.f1 + more) (by omega) (by omega)]
        exact step _ (by rw [if_pos c])
      · rw [if_neg c]
        exact step _ (by rw [if_neg c, Int.add_zero])
  exact go line k [] rfl TimesOK.nil (by simp) (by omega)

end Go.Proofs.Ytclmedjighnkjaa.G.Pure
end

section
namespace Go.Proofs.Ytclmedjighnkjaa.G.Pure
open Go.RowKit Go.Proofs.Ytclmedjighnkjaa.G Go.Proofs.YtclmedjighnkjaaW.PrintWords Go.Proofs.YtclmedjighnkjaaW.PrintLast Go.Proofs.YtclmedjighnkjaaW.PrintMore
set_option linter.unusedVariables false
set_option linter.unusedSimpArgs false
/-! The program's times. -/
theorem implInner (k : Nat) (acc : List Tm) (line : List Sp) (x : Sp) (i a : Nat) (len x12 : Int) (hi : acc.length = i) (h20 : i < 20) (h1i : 0 < i) (hok : TimesOK acc) (hx : shipIn x) (ha : a ≤ i) :
    ∀ d n, a + n + d = i → impl_times.l1 (k + d + 1) acc (i : Int) ((a + n : Nat) : Int) line len x12 x.f0 x.f1 x.f2 (scan acc a n).1 (scan acc a n).2 (-1) (-1) =
      impl_times.l1 (k + 1) acc (i : Int) (i : Int) line len x12 x.f0 x.f1 x.f2 (scan acc a (i - a)).1 (scan acc a (i - a)).2 (-1) (-1) := by
  intro d
  induction d with
  | zero =>
    intro n hn
    rw [show i - a = n by omega, show a + n = i by omega]
  | succ d ih =>
    intro n hn
    have hql : a + n < acc.length := by omega
    have hb := hok.bound (a + n) _ (List.getElem?_eq_getElem hql)
    have hsc := scan_spec acc hok a n (by omega)
    rw [← ih (n + 1) (by omega)]
    rw [show k + (d + 1) + 1 = (k + d + 1) + 1 by omega]
    conv => lhs; unfold impl_times.l1
    rw [if_pos (by omega), if_pos (by omega), if_pos (by omega), rd_impl_Times hql, w64 (n := ((a + n : Nat) : Int) + 1) (by omega) (by omega), i8w (n := ((a + n : Nat) : Int)) (by omega) (by omega)]
    rw [show ((a + (n + 1) : Nat) : Int) = ((a + n : Nat) : Int) + 1 by omega]
    have hs1 : scan acc a (n + 1) = if 0 ≤ acc[a + n].f3 ∧ ((scan acc a n).1 < 0 ∨ acc[a + n].f3 < (scan acc a n).2) then (((a + n : Nat) : Int), acc[a + n].f3) else scan acc a n := by
      rcases hs : scan acc a n with ⟨f, s⟩
      simp only [scan, hs, List.getElem?_eq_getElem hql]
    rw [hs1]
    have hneg : (scan acc a n).1 < 0 ↔ (scan acc a n).2 < 0 := by
      rcases hsc with h | h
      · rw [h]
      · omega
    by_cases c1 : 0 ≤ acc[a + n].f3
    · rw [if_pos (by omega)]
      by_cases c2 : (scan acc a n).2 < 0
      · rw [if_pos c2, if_pos ⟨c1, .inl (hneg.2 c2)⟩]
      · rw [if_neg c2]
        by_cases c3 : acc[a + n].f3 < (scan acc a n).2
        · rw [if_pos c3, if_pos ⟨c1, .inr c3⟩]
        · rw [if_neg c3, if_neg (fun h => h.2.elim (fun h => c2 (hneg.1 h)) c3)]
    · rw [if_neg (by omega), if_neg (fun h => c1 h.1)]
theorem implRound (k : Nat) (acc : List Tm) (line : List Sp) (x : Sp) (hlt : acc.length < line.length) (h20 : line.length ≤ 20) (hx0 : line[acc.length] = x) (hok : TimesOK acc) (hx : shipIn x) :
    impl_times.l0 (k + (acc.length - (acc.length - x.f0.toNat)) + 3) acc line (line.length : Int) (acc.length : Int) = impl_times.l0 k (acc ++ [dueL acc x x.f1]) line (line.length : Int) ((acc.length : Int) + 1) := by
  obtain ⟨s0, s1, s2, s3, s4, s5⟩ := hx
  have hxx : shipIn x := ⟨s0, s1, s2, s3, s4, s5⟩
  rcases Nat.eq_zero_or_pos acc.length with h0 | h0
  · rw [show k + (acc.length - (acc.length - x.f0.toNat)) + 3 = k + 3 by omega]
    conv => lhs; unfold impl_times.l0
    rw [if_pos (by omega), if_pos (by omega), if_pos (by omega), if_pos (by omega), rd_impl_Ship hlt, hx0]
    conv => lhs; unfold impl_times.j1
    rw [w64 (n := x.f0) (by omega) (by omega), w64 (by omega) (by omega)]
    rw [show mx ((acc.length : Int) - x.f0) 0 = (acc.length : Int) by unfold mx; split <;> omega]
    conv => lhs; unfold impl_times.l1
    rw [if_neg (by omega), if_pos (by omega), if_pos (by omega), if_pos (by omega), w64 (n := x.f2) (by omega) (by omega), w64 (n := x.f2) (by omega) (by omega), w64 (n := (acc.length : Int) + 1) (by omega) (by omega)]
    simp [dueL, h0]
  · obtain ⟨a, ha⟩ : ∃ a, a = acc.length - x.f0.toNat := ⟨_, rfl⟩
    rw [← ha]
    conv => lhs; unfold impl_times.l0
    rw [if_pos (by omega), if_pos (by omega), if_pos (by omega), if_neg (by omega), rd_impl_Ship hlt, hx0]
    conv => lhs; unfold impl_times.j1
    rw [w64 (n := x.f0) (by omega) (by omega), w64 (n := (acc.length : Int) - x.f0) (by omega) (by omega)]
    rw [show mx ((acc.length : Int) - x.f0) 0 = ((a + 0 : Nat) : Int) by unfold mx; split <;> omega]
    have h1 := implInner k acc line x acc.length a (line.length : Int) (acc.length : Int) rfl (by omega) h0 hok hxx (by omega) (acc.length - a) 0 (by omega)
    simp only [scan] at h1
    rw [h1]
    have hsc := scan_spec acc hok a (acc.length - a) (by omega)
    have hd : dueL acc x x.f1 = if 0 ≤ (scan acc a (acc.length - a)).1 then ⟨(scan acc a (acc.length - a)).1, (scan acc a (acc.length - a)).2, (scan acc a (acc.length - a)).2 + x.f1, (scan acc a (acc.length - a)).2 + x.f1 + x.f2⟩ else ⟨-1, -1, -1, -1⟩ := by
      unfold dueL
      rw [if_neg (show ¬ acc.length = 0 by omega), ← ha]
    rw [hd]
    rcases hsc with h | h
    · rw [h]
      conv => lhs; unfold impl_times.l1
      simp only
      rw [if_neg (by omega), if_neg (by omega), if_pos (by omega), if_neg (by omega), w64 (by omega) (by omega)]
    · conv => lhs; unfold impl_times.l1
      rw [if_neg (by omega), if_pos (by omega), if_neg (by omega), if_pos (by omega), if_pos h.1]
      rw [w64 (n := x.f1) (by omega) (by omega), w64 (n := x.f2) (by omega) (by omega), w64 (n := (scan acc a (acc.length - a)).2 + x.f1) (by omega) (by omega), w64 (n := (scan acc a (acc.length - a)).2 + x.f1 + x.f2) (by omega) (by omega), w64 (n := (acc.length : Int) + 1) (by omega) (by omega)]
theorem timesGo_plain (xs : List Sp) (acc : List Tm) : ∀ x, timesGo (-1) 0 (x :: xs) acc = timesGo (-1) 0 xs (acc ++ [dueL acc x x.f1]) := by
  intro x
  simp only [timesGo]
  rw [if_neg (by omega), Int.add_zero]
theorem implTimes_eq (k : Nat) (line : List Sp) (hl : line.length ≤ 20) (hx : ∀ x ∈ line, shipIn x) (hk : 200 < k) : impl_times.f k line = some (timesL (-1) 0 line) := by
  have go : ∀ (rest : List Sp) (k : Nat) (acc : List Tm), line.drop acc.length = rest → TimesOK acc → acc.length ≤ line.length → 9 * rest.length < k → impl_times.l0 k acc line (line.length : Int) (acc.length : Int) = some (timesGo (-1) 0 rest acc) := by
    intro rest
    induction rest with
    | nil =>
      intro k acc hd hok hle hk
      obtain ⟨k, rfl⟩ : ∃ m, k = m + 1 := ⟨k - 1, by omega⟩
      have := List.drop_eq_nil_iff.1 hd
      unfold impl_times.l0
      rw [if_neg (by omega)]
      rfl
    | cons x xs ih =>
      intro k acc hd hok hle hk
      simp only [List.length_cons] at hk
      have hlt : acc.length < line.length := by
        have := congrArg List.length hd
        simp at this
        omega
      have hx0 : line[acc.length] = x := by
        have h1 := List.drop_eq_getElem_cons hlt
        rw [hd] at h1
        exact (List.cons.inj h1).1.symm
      have hxs : line.drop (acc.length + 1) = xs := by
        have h1 := List.drop_eq_getElem_cons hlt
        rw [hd] at h1
        exact (List.cons.inj h1).2.symm
      have hmem : x ∈ line := hx0 ▸ List.getElem_mem hlt
      have hxx := hx x hmem
      obtain ⟨s0, s1, s2, s3, s4, s5⟩ := hxx
      obtain ⟨m, rfl, hm⟩ : ∃ m, k = m + (acc.length - (acc.length - x.f0.toNat)) + 3 ∧ 9 * xs.length < m := ⟨k - (acc.length - (acc.length - x.f0.toNat)) - 3, by omega, by omega⟩
      rw [implRound m acc line x hlt hl hx0 hok (hx x hmem), timesGo_plain]
      have h2 := ih m (acc ++ [dueL acc x x.f1]) (by simpa using hxs) (due_ok hok ⟨s4, s5⟩ ⟨s2, s3⟩) (by simp; omega) hm
      rw [show ((acc ++ [dueL acc x x.f1]).length : Int) = (acc.length : Int) + 1 by simp] at h2
      exact h2
  unfold impl_times.f
  exact go line k [] rfl TimesOK.nil (by simp) (by omega)

end Go.Proofs.Ytclmedjighnkjaa.G.Pure
end

section
namespace Go.Proofs.Ytclmedjighnkjaa.G
open Go.RowKit Go.Proofs.YtclmedjighnkjaaW.PrintWords Go.Proofs.YtclmedjighnkjaaW.PrintLast Go.Proofs.YtclmedjighnkjaaW.PrintMore
attribute [local go_sem] max2_int min2_int max_two min_two max_three min_three max_four min_four
set_option linter.unusedVariables false
set_option linter.unusedSimpArgs false

/-! ### impl_allClosed: function 69 -/
def impl_allClosed.l0 : Nat → Int → Int → List (S69) → Int → Int → Option (Int × Int)
  | 0, _, _, _, _, _ => none
  | k + 1, x4, x5, x9, x10, x11 => if x11 < x10 then (if 0 ≤ x11 then (if x11 < (x9.length : Int) then (if ((rd_T69 x9 x11).f2) > x4 then (impl_allClosed.l0 k ((rd_T69 x9 x11).f2) x11 x9 x10 (wrap64 (x11 + 1))) else (impl_allClosed.l0 k x4 x5 x9 x10 (wrap64 (x11 + 1)))) else (none)) else (none)) else (some (x4, x5))
def impl_allClosed.f (k : Nat) (l0 : List (S60)) : Option (Int × Int) := (impl_times.f k l0).bind fun t101 => (impl_allClosed.l0 k (-1) 0 t101 (t101.length : Int) 0)
set_option maxHeartbeats 8000000 in
set_option maxRecDepth 100000 in
theorem impl_allClosed.calls (k : Nat) (A0 : Option Addr) (c0 : Nat) (l0 : List (S60)) (r1 : Int) (r2 : Int) (w : World) (hr0 : Kd.C k60 w A0 l0.length l0) (hc0 : l0.length ≤ c0) (h : impl_allClosed.f k l0 = some (r1, r2)) :
    Calls Try.prog 69 #[.slice A0 l0.length c0] w fun e w' => e = .returned (.tuple #[.int .i64 r1, .int .i64 r2]) ∧ Below w.heap.size w w' := by
  have hu69 := Try.underlying69
  have HR0 := Aside0.mk hr0
  have HC0 := Aside0.mk hc0
  clear hr0 hc0
  have HB := Aside0.mk (Below.refl w.heap.size w)
  have H : ((impl_times.f k l0).bind fun t101 => (impl_allClosed.l0 k (-1) 0 t101 (t101.length : Int) 0)) = some (r1, r2) := h
  clear h
  replace H := Option.bind_eq_some_iff.mp H
  obtain ⟨t101, A20, H⟩ := H
  replace H : (impl_allClosed.l0 k (-1) 0 t101 (t101.length : Int) 0) = some (r1, r2) := H
  have A2 := Aside0.mk A20
  clear A20
  have H' := Aside0.mk H
  clear H
  go_enter Try.func69, Try.ntmps69
  go_wp2_with (first | ((with_reducible refine gate_callee (f := 67) rfl ?_); refine goesL_ (some 9) rfl rfl Try.func67 (by kernel_rfl) rfl #[.slice A0 l0.length c0] rfl (by (try simp only [List.map_toArray, List.map_cons, List.map_nil]); first | done | rfl | (simp only [List.length_drop, List.length_take]; rfl)) ?_; (with_reducible refine (impl_times.calls k _ _ l0 t101 _ ?side1 ?side2 A2.out).mono ?_); (case side1 => repeat (first | exact HR0.out | (with_reducible refine Kd.C_alloc ?_ _) | (with_reducible refine Kd.C_drewN ?_ _) | (with_reducible refine Kd.C_drew ?_))); (case side2 => exact HC0.out); rintro e w3 ⟨v102, rfl, ho0, hb⟩; refine ⟨_, rfl, ?_⟩; have n0_ := Aside0.mk (Kd.R_lower ho0 (below_size (by repeat (first | (with_reducible first | exact HB.out | apply below_alloc | apply pw_below_drewN | apply below_drew1) | exact HB.out)))); have n1_ := Aside0.mk (below_step (by repeat (first | (with_reducible first | exact HB.out | apply below_alloc | apply pw_below_drewN | apply below_drew1) | exact HB.out)) hb); clear HB; have HO103 := n0_; have HB := n1_; clear n0_ n1_; (try clear hb); (try clear hb2); (try clear hk); (try clear hi); (try clear ho0); obtain ⟨Ao4, co4, eo4⟩ := Kd.R_slice HO103.out; subst eo4))
  go_loopg [4, 5, 11] k (fun kq v4 v5 v11 w' => ∃ (x4_1 : Int) (x5_1 : Int) (x11_1 : Int), v4 = .int .i64 x4_1 ∧ v5 = .int .i64 x5_1 ∧ v11 = .int .i64 x11_1 ∧ Aside0 (impl_allClosed.l0 kq x4_1 x5_1 t101 (t101.length : Int) x11_1 = some (r1, r2)) ∧ Aside0 (kq ≤ k) ∧ Aside0 (Kd.R k69 69 w' w.heap.size (fun _ => True) (.slice Ao4 t101.length co4) t101) ∧ Aside0 (Below w.heap.size w w'))
  case atStart => exact ⟨((-1)), (0), (0), (by first | rfl | (simp only [IntKind.wrap_i64, wrap64]; done) | (simp; done) | (simp [*]; done)), (by first | rfl | (simp only [IntKind.wrap_i64, wrap64]; done) | (simp; done) | (simp [*]; done)), (by first | rfl | (simp only [IntKind.wrap_i64, wrap64]; done) | (simp; done) | (simp [*]; done)), H', ⟨Nat.le_refl _⟩, ⟨by (with_reducible repeat (first | apply Kd.R_alloc | apply Kd.R_drewN | apply Kd.R_drew)); exact HO103.out⟩, ⟨by repeat (first | (with_reducible first | exact HB.out | apply below_alloc | apply pw_below_drewN | apply below_drew1) | exact HB.out)⟩⟩
  case round =>
    clear H'
    try clear p2
    obtain ⟨x4_1, x5_1, x11_1, rfl, rfl, rfl, HA, HK1, HO_9, HB⟩ := hrel
    cases gk with
    | zero => exact absurd HA.out (by simp [impl_allClosed.l0])
    | succ k1 =>
      have H := HA.out
      clear HA
      simp only [impl_allClosed.l0] at H
      by_cases c5 : x11_1 < (t101.length : Int)
      · rw [if_pos c5] at H
        have c5b0 : decide (x11_1 < (t101.length : Int)) = true := decide_eq_true c5
        clear c5
        by_cases c6 : 0 ≤ x11_1
        · rw [if_pos c6] at H
          have c6b0 : decide (0 ≤ x11_1) = true := decide_eq_true c6
          clear c6
          by_cases c7 : x11_1 < (t101.length : Int)
          · rw [if_pos c7] at H
            have c7b0 : decide (x11_1 < (t101.length : Int)) = true := decide_eq_true c7
            clear c7
            by_cases c8 : ((rd_T69 t101 x11_1).f2) > x4_1
            · rw [if_pos c8] at H
              have c8b0 : decide (x4_1 < ((rd_T69 t101 x11_1).f2)) = true := decide_eq_true c8
              clear c8
              have H' := Aside0.mk H
              clear H
              have p104 : 0 ≤ (x11_1 : Int) := of_decide_eq_true (by first | (with_reducible assumption) | assumption)
              have q104 : x11_1 < (t101.length : Int) := of_decide_eq_true (by first | (with_reducible assumption) | assumption)
              obtain ⟨ad104, e104, hx104_0, hx104_1, hx104_2, hx104_3⟩ := at_T69 (Kd.R_reads' HO_9.out).2.2 x11_1 p104 q104
              cases e104
              replace p104 := eq_true p104
              replace q104 := eq_true q104
              go_wp2_with (first | ((with_reducible refine gate_dst (N := 7) rfl ?_); refine box_event ?hg (N := 7) ?hd (cs := #[.int .i8 0, .int .i64 0, .int .i64 0, .int .i64 0]) (t := 69) ?hr ?_; (case hd => rfl); (case hg => rfl); (case hr => first | (go_simp; done) | (go_simp; rfl)); intro gb105 hg w9 hbox hb; have n0_ := Aside0.mk (Kd.R_below (Kd.R_elderB (by (with_reducible repeat (first | apply Kd.R_alloc | apply Kd.R_drewN | apply Kd.R_drew)); exact HO_9.out) gb105 (Nat.le_of_eq hg.symm)) hb); have n1_ := Aside0.mk (below_step (by repeat (first | (with_reducible first | exact HB.out | apply below_alloc | apply pw_below_drewN | apply below_drew1) | exact HB.out)) hb); have n2_ := Aside0.mk (hbox); have n3_ := Aside0.mk ((by rw [hg]; exact (below_size (by repeat (first | (with_reducible first | exact HB.out | apply below_alloc | apply pw_below_drewN | apply below_drew1) | exact HB.out))) : w.heap.size ≤ gb105)); have n4_ := Aside0.mk ((by rw [hg]; exact (below_size (by repeat (first | (with_reducible first | exact HB.out | apply below_alloc | apply pw_below_drewN | apply below_drew1) | exact HB.out))) : w.heap.size ≤ gb105)); clear HO_9; clear HB; have HO_9 := n0_; have HB := n1_; have BK105 := n2_; have GW105 := n3_; have GE105 := n4_; clear n0_ n1_ n2_ n3_ n4_; clear hb hbox hg; have hcz10_0 : w9.cell? ⟨gb105, 0, none⟩ = some (.int .i8 0) := (blk_cell BK105.out 0).trans rfl; have hcz10_1 : w9.cell? ⟨gb105, 1, none⟩ = some (.int .i64 0) := (blk_cell BK105.out 1).trans rfl; have hcz10_2 : w9.cell? ⟨gb105, 2, none⟩ = some (.int .i64 0) := (blk_cell BK105.out 2).trans rfl; have hcz10_3 : w9.cell? ⟨gb105, 3, none⟩ = some (.int .i64 0) := (blk_cell BK105.out 3).trans rfl; have hfz10_0 := blk_frozen BK105.out 0; have hfz10_1 := blk_frozen BK105.out 1; have hfz10_2 := blk_frozen BK105.out 2; have hfz10_3 := blk_frozen BK105.out 3))
              go_roundg k1
              case measure => have := HK1.out; omega
              case rel => exact ⟨((rd_T69 t101 x11_1).f2), (x11_1), (wrap64 (x11_1 + 1)), (by first | rfl | (simp only [IntKind.wrap_i64, wrap64]; done) | (simp; done) | (simp [*]; done)), (by first | rfl | (simp only [IntKind.wrap_i64, wrap64]; done) | (simp; done) | (simp [*]; done)), (by first | rfl | (simp only [IntKind.wrap_i64, wrap64]; done) | (simp; done) | (simp [*]; done)), H', ⟨by have := HK1.out; omega⟩, ⟨by (with_reducible repeat (first | apply Kd.R_alloc | apply Kd.R_drewN | apply Kd.R_drew)); exact Kd.R_mono (Kd.R_far (p := ⟨gb105, 3, none⟩) (Kd.R_far (p := ⟨gb105, 2, none⟩) (Kd.R_far (p := ⟨gb105, 1, none⟩) (Kd.R_far (p := ⟨gb105, 0, none⟩) (Kd.R_mono HO_9.out (fun k_ hk => (⟨hk, hk.2⟩ : _ ∧ k_ ≠ gb105))) (fun _ hk => hk.2) (.int .i8 ((rd_T69 t101 x11_1).f0))) (fun _ hk => hk.2) (.int .i64 ((rd_T69 t101 x11_1).f1))) (fun _ hk => hk.2) (.int .i64 ((rd_T69 t101 x11_1).f2))) (fun _ hk => hk.2) (.int .i64 ((rd_T69 t101 x11_1).f3))) (fun _ hk => trivial)⟩, ⟨by repeat (first | (with_reducible first | exact HB.out | apply below_alloc | apply pw_below_drewN | apply below_drew1 | refine below_set ?_ GE105.out) | exact HB.out)⟩⟩
            · rw [if_neg c8] at H
              have c8b0 : decide (x4_1 < ((rd_T69 t101 x11_1).f2)) = false := decide_eq_false c8
              clear c8
              have H' := Aside0.mk H
              clear H
              have p104 : 0 ≤ (x11_1 : Int) := of_decide_eq_true (by first | (with_reducible assumption) | assumption)
              have q104 : x11_1 < (t101.length : Int) := of_decide_eq_true (by first | (with_reducible assumption) | assumption)
              obtain ⟨ad104, e104, hx104_0, hx104_1, hx104_2, hx104_3⟩ := at_T69 (Kd.R_reads' HO_9.out).2.2 x11_1 p104 q104
              cases e104
              replace p104 := eq_true p104
              replace q104 := eq_true q104
              go_wp2_with (first | ((with_reducible refine gate_dst (N := 7) rfl ?_); refine box_event ?hg (N := 7) ?hd (cs := #[.int .i8 0, .int .i64 0, .int .i64 0, .int .i64 0]) (t := 69) ?hr ?_; (case hd => rfl); (case hg => rfl); (case hr => first | (go_simp; done) | (go_simp; rfl)); intro gb105 hg w11 hbox hb; have n0_ := Aside0.mk (Kd.R_below (Kd.R_elderB (by (with_reducible repeat (first | apply Kd.R_alloc | apply Kd.R_drewN | apply Kd.R_drew)); exact HO_9.out) gb105 (Nat.le_of_eq hg.symm)) hb); have n1_ := Aside0.mk (below_step (by repeat (first | (with_reducible first | exact HB.out | apply below_alloc | apply pw_below_drewN | apply below_drew1) | exact HB.out)) hb); have n2_ := Aside0.mk (hbox); have n3_ := Aside0.mk ((by rw [hg]; exact (below_size (by repeat (first | (with_reducible first | exact HB.out | apply below_alloc | apply pw_below_drewN | apply below_drew1) | exact HB.out))) : w.heap.size ≤ gb105)); have n4_ := Aside0.mk ((by rw [hg]; exact (below_size (by repeat (first | (with_reducible first | exact HB.out | apply below_alloc | apply pw_below_drewN | apply below_drew1) | exact HB.out))) : w.heap.size ≤ gb105)); clear HO_9; clear HB; have HO_9 := n0_; have HB := n1_; have BK105 := n2_; have GW105 := n3_; have GE105 := n4_; clear n0_ n1_ n2_ n3_ n4_; clear hb hbox hg; have hcz12_0 : w11.cell? ⟨gb105, 0, none⟩ = some (.int .i8 0) := (blk_cell BK105.out 0).trans rfl; have hcz12_1 : w11.cell? ⟨gb105, 1, none⟩ = some (.int .i64 0) := (blk_cell BK105.out 1).trans rfl; have hcz12_2 : w11.cell? ⟨gb105, 2, none⟩ = some (.int .i64 0) := (blk_cell BK105.out 2).trans rfl; have hcz12_3 : w11.cell? ⟨gb105, 3, none⟩ = some (.int .i64 0) := (blk_cell BK105.out 3).trans rfl; have hfz12_0 := blk_frozen BK105.out 0; have hfz12_1 := blk_frozen BK105.out 1; have hfz12_2 := blk_frozen BK105.out 2; have hfz12_3 := blk_frozen BK105.out 3))
              go_roundg k1
              case measure => have := HK1.out; omega
              case rel => exact ⟨(x4_1), (x5_1), (wrap64 (x11_1 + 1)), (by first | rfl | (simp only [IntKind.wrap_i64, wrap64]; done) | (simp; done) | (simp [*]; done)), (by first | rfl | (simp only [IntKind.wrap_i64, wrap64]; done) | (simp; done) | (simp [*]; done)), (by first | rfl | (simp only [IntKind.wrap_i64, wrap64]; done) | (simp; done) | (simp [*]; done)), H', ⟨by have := HK1.out; omega⟩, ⟨by (with_reducible repeat (first | apply Kd.R_alloc | apply Kd.R_drewN | apply Kd.R_drew)); exact Kd.R_mono (Kd.R_far (p := ⟨gb105, 3, none⟩) (Kd.R_far (p := ⟨gb105, 2, none⟩) (Kd.R_far (p := ⟨gb105, 1, none⟩) (Kd.R_far (p := ⟨gb105, 0, none⟩) (Kd.R_mono HO_9.out (fun k_ hk => (⟨hk, hk.2⟩ : _ ∧ k_ ≠ gb105))) (fun _ hk => hk.2) (.int .i8 ((rd_T69 t101 x11_1).f0))) (fun _ hk => hk.2) (.int .i64 ((rd_T69 t101 x11_1).f1))) (fun _ hk => hk.2) (.int .i64 ((rd_T69 t101 x11_1).f2))) (fun _ hk => hk.2) (.int .i64 ((rd_T69 t101 x11_1).f3))) (fun _ hk => trivial)⟩, ⟨by repeat (first | (with_reducible first | exact HB.out | apply below_alloc | apply pw_below_drewN | apply below_drew1 | refine below_set ?_ GE105.out) | exact HB.out)⟩⟩
          · rw [if_neg c7] at H
            exact absurd H (by simp)
        · rw [if_neg c6] at H
          exact absurd H (by simp)
      · rw [if_neg c5] at H
        have c5b0 : decide (x11_1 < (t101.length : Int)) = false := decide_eq_false c5
        clear c5
        simp only [Option.some.injEq, Prod.mk.injEq] at H
        obtain ⟨rfl, rfl⟩ := H
        go_wp2
        go_ret2
        exact ⟨by first | rfl | (simp [errW_none, errW_some, IntKind.wrap_i64, wrap64]; done) | (simp [errW_none, errW_some] <;> rfl) | (simp [*, errW_none, errW_some] <;> rfl), by repeat (first | (with_reducible first | exact HB.out | apply below_alloc | apply pw_below_drewN | apply below_drew1) | exact HB.out)⟩

end Go.Proofs.Ytclmedjighnkjaa.G
end

section
namespace Go.Proofs.Ytclmedjighnkjaa.G
open Go.RowKit Go.Proofs.YtclmedjighnkjaaW.PrintWords Go.Proofs.YtclmedjighnkjaaW.PrintLast Go.Proofs.YtclmedjighnkjaaW.PrintMore
attribute [local go_sem] max2_int min2_int max_two min_two max_three min_three max_four min_four
set_option linter.unusedVariables false
set_option linter.unusedSimpArgs false

/-! ### spec_l06Last: function 68 -/
def spec_l06Last.l0 : Nat → List (S69) → Int → Int → Option (Int)
  | 0, _, _, _ => none
  | k + 1, x0, x3, x4 => if x4 < (x0.length : Int) then (if 0 ≤ x4 then (if 0 ≤ x3 then (if x3 < (x0.length : Int) then (if ((rd_T69 x0 x4).f2) > ((rd_T69 x0 x3).f2) then (spec_l06Last.l0 k x0 x4 (wrap64 (x4 + 1))) else (spec_l06Last.l0 k x0 x3 (wrap64 (x4 + 1)))) else (none)) else (none)) else (none)) else (some x3)
def spec_l06Last.f (k : Nat) (l0 : List (S69)) : Option (Int) := spec_l06Last.l0 k l0 0 1
set_option maxHeartbeats 8000000 in
set_option maxRecDepth 100000 in
theorem spec_l06Last.calls (k : Nat) (A0 : Option Addr) (c0 : Nat) (l0 : List (S69)) (r : Int) (w : World) (hr0 : Kd.C k69 w A0 l0.length l0) (hc0 : l0.length ≤ c0) (h : spec_l06Last.f k l0 = some r) :
    Calls Try.prog 68 #[.slice A0 l0.length c0] w fun e w' => e = .returned (.int .i64 r) ∧ Drawn0 w w' := by
  have HR0 := Aside0.mk hr0
  have HC0 := Aside0.mk hc0
  clear hr0 hc0
  have H : (spec_l06Last.l0 k l0 0 1) = some r := h
  clear h
  have H' := Aside0.mk H
  clear H
  go_enter Try.func68, Try.ntmps68
  go_wp2
  repeat (go_quiet (fail); try go_wp2)
  go_loopg [3, 4] k (fun kq v3 v4 w' => ∃ (x3_1 : Int) (x4_1 : Int), v3 = .int .i64 x3_1 ∧ v4 = .int .i64 x4_1 ∧ Aside0 (spec_l06Last.l0 kq l0 x3_1 x4_1 = some r) ∧ Aside0 (kq ≤ k) ∧ Drawn0 w w')
  case atStart => exact ⟨(0), (1), (by first | rfl | (simp only [IntKind.wrap_i64, wrap64]; done) | (simp; done) | (simp [*]; done)), (by first | rfl | (simp only [IntKind.wrap_i64, wrap64]; done) | (simp; done) | (simp [*]; done)), H', ⟨Nat.le_refl _⟩, by repeat (first | exact Drawn0.refl _ | apply Drawn0.step)⟩
  case round =>
    clear H'
    obtain ⟨x3_1, x4_1, rfl, rfl, HA, HK1, ⟨m1, rfl⟩⟩ := hrel
    cases gk with
    | zero => exact absurd HA.out (by simp [spec_l06Last.l0])
    | succ k1 =>
      have H := HA.out
      clear HA
      simp only [spec_l06Last.l0] at H
      by_cases c2 : x4_1 < (l0.length : Int)
      · rw [if_pos c2] at H
        have c2b0 : decide (x4_1 < (l0.length : Int)) = true := decide_eq_true c2
        clear c2
        by_cases c3 : 0 ≤ x4_1
        · rw [if_pos c3] at H
          have c3b0 : decide (0 ≤ x4_1) = true := decide_eq_true c3
          clear c3
          by_cases c4 : 0 ≤ x3_1
          · rw [if_pos c4] at H
            have c4b0 : decide (0 ≤ x3_1) = true := decide_eq_true c4
            clear c4
            by_cases c5 : x3_1 < (l0.length : Int)
            · rw [if_pos c5] at H
              have c5b0 : decide (x3_1 < (l0.length : Int)) = true := decide_eq_true c5
              clear c5
              by_cases c6 : ((rd_T69 l0 x4_1).f2) > ((rd_T69 l0 x3_1).f2)
              · rw [if_pos c6] at H
                have c6b0 : decide (((rd_T69 l0 x3_1).f2) < ((rd_T69 l0 x4_1).f2)) = true := decide_eq_true c6
                clear c6
                have H' := Aside0.mk H
                clear H
                have p101 : 0 ≤ (x4_1 : Int) := of_decide_eq_true (by first | (with_reducible assumption) | assumption)
                have q101 : x4_1 < (l0.length : Int) := of_decide_eq_true (by first | (with_reducible assumption) | assumption)
                obtain ⟨ad101, e101, hx101_0, hx101_1, hx101_2, hx101_3⟩ := at_T69 HR0.out x4_1 p101 q101
                cases e101
                replace p101 := eq_true p101
                replace q101 := eq_true q101
                have p102 : 0 ≤ (x3_1 : Int) := of_decide_eq_true (by first | (with_reducible assumption) | assumption)
                have q102 : x3_1 < (l0.length : Int) := of_decide_eq_true (by first | (with_reducible assumption) | assumption)
                obtain ⟨ad102, e102, hx102_0, hx102_1, hx102_2, hx102_3⟩ := at_T69 HR0.out x3_1 p102 q102
                obtain rfl : ad101 = ad102 := (by injection e102)
                replace p102 := eq_true p102
                replace q102 := eq_true q102
                go_wp2
                repeat (go_quiet (fail); try go_wp2)
                go_roundg k1
                case measure => have := HK1.out; omega
                case rel => exact ⟨(x4_1), (wrap64 (x4_1 + 1)), (by first | rfl | (simp only [IntKind.wrap_i64, wrap64]; done) | (simp; done) | (simp [*]; done)), (by first | rfl | (simp only [IntKind.wrap_i64, wrap64]; done) | (simp; done) | (simp [*]; done)), H', ⟨by have := HK1.out; omega⟩, by repeat (first | exact Drawn0.refl _ | apply Drawn0.step)⟩
              · rw [if_neg c6] at H
                have c6b0 : decide (((rd_T69 l0 x3_1).f2) < ((rd_T69 l0 x4_1).f2)) = false := decide_eq_false c6
                clear c6
                have H' := Aside0.mk H
                clear H
                have p101 : 0 ≤ (x4_1 : Int) := of_decide_eq_true (by first | (with_reducible assumption) | assumption)
                have q101 : x4_1 < (l0.length : Int) := of_decide_eq_true (by first | (with_reducible assumption) | assumption)
                obtain ⟨ad101, e101, hx101_0, hx101_1, hx101_2, hx101_3⟩ := at_T69 HR0.out x4_1 p101 q101
                cases e101
                replace p101 := eq_true p101
                replace q101 := eq_true q101
                have p102 : 0 ≤ (x3_1 : Int) := of_decide_eq_true (by first | (with_reducible assumption) | assumption)
                have q102 : x3_1 < (l0.length : Int) := of_decide_eq_true (by first | (with_reducible assumption) | assumption)
                obtain ⟨ad102, e102, hx102_0, hx102_1, hx102_2, hx102_3⟩ := at_T69 HR0.out x3_1 p102 q102
                obtain rfl : ad101 = ad102 := (by injection e102)
                replace p102 := eq_true p102
                replace q102 := eq_true q102
                go_wp2
                repeat (go_quiet (fail); try go_wp2)
                go_roundg k1
                case measure => have := HK1.out; omega
                case rel => exact ⟨(x3_1), (wrap64 (x4_1 + 1)), (by first | rfl | (simp only [IntKind.wrap_i64, wrap64]; done) | (simp; done) | (simp [*]; done)), (by first | rfl | (simp only [IntKind.wrap_i64, wrap64]; done) | (simp; done) | (simp [*]; done)), H', ⟨by have := HK1.out; omega⟩, by repeat (first | exact Drawn0.refl _ | apply Drawn0.step)⟩
            · rw [if_neg c5] at H
              exact absurd H (by simp)
          · rw [if_neg c4] at H
            exact absurd H (by simp)
        · rw [if_neg c3] at H
          exact absurd H (by simp)
      · rw [if_neg c2] at H
        have c2b0 : decide (x4_1 < (l0.length : Int)) = false := decide_eq_false c2
        clear c2
        obtain rfl := Option.some.inj H
        go_wp2
        repeat (go_quiet (fail); try go_wp2)
        go_ret
        exact ⟨by first | rfl | (simp only [IntKind.wrap_i64, wrap64]; done) | (simp; done) | (simp [*]; done), by repeat (first | exact Drawn0.refl _ | apply Drawn0.step)⟩

end Go.Proofs.Ytclmedjighnkjaa.G
end

section
namespace Go.Proofs.Ytclmedjighnkjaa.G.Pure
open Go.RowKit Go.Proofs.Ytclmedjighnkjaa.G Go.Proofs.YtclmedjighnkjaaW.PrintWords Go.Proofs.YtclmedjighnkjaaW.PrintLast Go.Proofs.YtclmedjighnkjaaW.PrintMore
set_option linter.unusedVariables false
set_option linter.unusedSimpArgs false
/-! The first ship that closes up last. -/
def lastAt (ts : List Tm) : Nat → Nat
  | 0 => 0
  | i + 1 => if ((ts.getD (lastAt ts i) z69).f2) < ((ts.getD i z69).f2) then i else lastAt ts i
theorem lastAt_lt (ts : List Tm) (i : Nat) (h : 0 < i) : lastAt ts i < i := by
  induction i with
  | zero => omega
  | succ i ih =>
    simp only [lastAt]
    split
    · omega
    · rcases Nat.eq_zero_or_pos i with h0 | h0
      · subst h0; simp [lastAt]
      · have := ih h0; omega
theorem getD_in {l : List Tm} {i : Nat} (h : i < l.length) : l.getD i z69 = l[i] := by
  simp [List.getD_eq_getElem?_getD, List.getElem?_eq_getElem h]
theorem rd_getD (l : List Tm) (i : Nat) : rd_T69 l (i : Int) = l.getD i z69 := by
  simp [rd_T69]
theorem specLast_eq (k : Nat) (ts : List Tm) (h0 : 1 ≤ ts.length) (hl : ts.length ≤ 1048576) (hk : ts.length < k) : spec_l06Last.f k ts = some ((lastAt ts ts.length : Nat) : Int) := by
  unfold spec_l06Last.f
  obtain ⟨r, hr, h⟩ := loop_inv (fun k (s : Int × Int) => spec_l06Last.l0 k ts s.1 s.2) (ts.length - 1) (fun i s => s.2 = ((i + 1 : Nat) : Int) ∧ s.1 = ((lastAt ts (i + 1) : Nat) : Int)) (fun r => r = ((lastAt ts ts.length : Nat) : Int))
    (fun k i s hi ⟨h1, h2⟩ => by
      obtain ⟨c, x⟩ := s
      simp only at h1 h2
      subst h1 h2
      have hlt := lastAt_lt ts (i + 1) (by omega)
      refine .inl ⟨(((lastAt ts (i + 1 + 1) : Nat) : Int), ((i + 1 + 1 : Nat) : Int)), ⟨rfl, rfl⟩, ?_⟩
      simp only [spec_l06Last.l0]
      rw [if_pos (by omega), if_pos (by omega), if_pos (by omega), if_pos (by omega), rd_getD, rd_getD, w64 (by omega) (by omega)]
      rw [show lastAt ts (i + 1 + 1) = if ((ts.getD (lastAt ts (i + 1)) z69).f2) < ((ts.getD (i + 1) z69).f2) then i + 1 else lastAt ts (i + 1) from rfl]
      by_cases c : ((ts.getD (lastAt ts (i + 1)) z69).f2) < ((ts.getD (i + 1) z69).f2)
      · rw [if_pos (by omega), if_pos c]
        rfl
      · rw [if_neg (by omega), if_neg c]
        rfl)
    (fun k s ⟨h1, h2⟩ => by
      obtain ⟨c, x⟩ := s
      simp only at h1 h2
      subst h1 h2
      refine ⟨_, rfl, ?_⟩
      simp only [spec_l06Last.l0]
      rw [if_neg (by omega), show ts.length - 1 + 1 = ts.length by omega]) k (0, 1) ⟨rfl, by simp [lastAt]⟩ (by omega)
  subst hr
  exact h
theorem implLast_eq (k : Nat) (ts : List Tm) (h0 : 1 ≤ ts.length) (hc : (ts.getD 0 z69).f2 = 0) (hl : ts.length ≤ 1048576) (hk : ts.length < k) :
    impl_allClosed.l0 k (-1) 0 ts (ts.length : Int) 0 = some ((ts.getD (lastAt ts ts.length) z69).f2, ((lastAt ts ts.length : Nat) : Int)) := by
  obtain ⟨r, hr, h⟩ := loop_inv (fun k (s : Int × Int × Int) => impl_allClosed.l0 k s.1 s.2.1 ts (ts.length : Int) s.2.2) ts.length
    (fun i s => s.2.2 = (i : Int) ∧ (s.1, s.2.1) = if i = 0 then ((-1 : Int), (0 : Int)) else ((ts.getD (lastAt ts i) z69).f2, ((lastAt ts i : Nat) : Int))) (fun r => r = ((ts.getD (lastAt ts ts.length) z69).f2, ((lastAt ts ts.length : Nat) : Int)))
    (fun k i s hi ⟨h1, h2⟩ => by
      obtain ⟨m, c, x⟩ := s
      simp only at h1 h2
      subst h1
      have hn : ((ts.getD (lastAt ts (i + 1)) z69).f2, ((lastAt ts (i + 1) : Nat) : Int)) = if (ts.getD i z69).f2 > m then ((ts.getD i z69).f2, (i : Int)) else (m, c) := by
        by_cases hi0 : i = 0
        · subst hi0
          rw [if_pos rfl] at h2
          simp only [Prod.mk.injEq] at h2
          rw [h2.1, h2.2, if_pos (by rw [hc]; omega)]
          simp [lastAt]
        · rw [if_neg hi0] at h2
          simp only [Prod.mk.injEq] at h2
          rw [show lastAt ts (i + 1) = if ((ts.getD (lastAt ts i) z69).f2) < ((ts.getD i z69).f2) then i else lastAt ts i from rfl, h2.1, h2.2]
          split <;> rfl
      refine .inl ⟨((ts.getD (lastAt ts (i + 1)) z69).f2, ((lastAt ts (i + 1) : Nat) : Int), ((i + 1 : Nat) : Int)), ⟨rfl, by rw [if_neg (by omega)]⟩, ?_⟩
      simp only [impl_allClosed.l0]
      rw [if_pos (by omega), if_pos (by omega), if_pos (by omega), rd_getD, w64 (n := (i : Int) + 1) (by omega) (by omega)]
      by_cases c1 : (ts.getD i z69).f2 > m
      · rw [if_pos c1] at hn ⊢
        simp only [Prod.mk.injEq] at hn
        rw [hn.1, hn.2]
        rfl
      · rw [if_neg c1] at hn ⊢
        simp only [Prod.mk.injEq] at hn
        rw [hn.1, hn.2]
        rfl)
    (fun k s ⟨h1, h2⟩ => by
      obtain ⟨m, c, x⟩ := s
      simp only at h1 h2
      subst h1
      rw [if_neg (by omega)] at h2
      refine ⟨_, rfl, ?_⟩
      simp only [impl_allClosed.l0]
      rw [if_neg (by omega), h2]) k (-1, 0, 0) ⟨rfl, rfl⟩ hk
  subst hr
  exact h
def closedL (line : List Sp) : Int × Int := (((timesL (-1) 0 line).getD (lastAt (timesL (-1) 0 line) line.length) z69).f2, ((lastAt (timesL (-1) 0 line) line.length : Nat) : Int))
theorem timesL_ok {line : List Sp} (h2 : ∀ x ∈ line, shipIn x) : TimesOK (timesL (-1) 0 line) :=
  timesGo_ok (-1) 0 line [] TimesOK.nil (fun x hx => by have := h2 x hx; unfold shipIn at this; omega) (fun i x hx => by
    have := h2 x (List.mem_of_getElem? hx)
    unfold shipIn at this
    rw [if_neg (by simp only [List.length_nil]; omega)]
    omega)
theorem implAllClosedIn_eq (k : Nat) (line : List Sp) (h0 : 1 ≤ line.length) (hl : line.length ≤ 20) (hx : ∀ x ∈ line, shipIn x) (hk : 300 < k) : impl_allClosed.f k line = some (closedL line) := by
  unfold impl_allClosed.f
  rw [implTimes_eq k line hl hx (by omega)]
  simp only [Option.bind_some]
  have hlen := timesL_len (-1) 0 line
  have hf := (timesL_ok hx).first _ (List.getElem?_eq_getElem (by rw [hlen]; omega))
  rw [implLast_eq k _ (by omega) (by rw [getD_in (by rw [hlen]; omega)]; exact hf.2.2.1) (by omega) (by omega)]
  unfold closedL
  rw [hlen]

end Go.Proofs.Ytclmedjighnkjaa.G.Pure
end

section
namespace Go.Proofs.Ytclmedjighnkjaa.G.Pure
open Go.RowKit Go.Proofs.Ytclmedjighnkjaa.G Go.Proofs.YtclmedjighnkjaaW.PrintWords Go.Proofs.YtclmedjighnkjaaW.PrintLast Go.Proofs.YtclmedjighnkjaaW.PrintMore
set_option linter.unusedVariables false
set_option linter.unusedSimpArgs false
/-! Valid lines. -/
def wfShip (x : Sp) : Prop := (Lit.int .i8 x.f0).wf = true ∧ (Lit.int .i8 x.f1).wf = true ∧ (Lit.int .i8 x.f2).wf = true
def validB (l : List Sp) : Bool := decide (1 ≤ (l.length : Int)) && decide ((l.length : Int) ≤ 20) && !l.any shipBad
theorem implValid_eq (l : List Sp) : impl_ValidLine.f l = some (validB l) := rfl
theorem shipBad_wf {x : Sp} (h : wfShip x) : shipBad x = !(decide (0 ≤ x.f0) && decide (x.f0 ≤ 6) && (decide (0 ≤ x.f1) && decide (x.f1 ≤ 60)) && (decide (0 ≤ x.f2) && decide (x.f2 ≤ 60))) := by
  obtain ⟨h0, h1, h2⟩ := h
  have b0 := i8b h0
  have b1 := i8b h1
  have b2 := i8b h2
  unfold shipBad
  rw [w64 (n := x.f0) (by omega) (by omega), w64 (n := x.f1) (by omega) (by omega), w64 (n := x.f2) (by omega) (by omega)]
structure ValidL (l : List Sp) : Prop where
  pos : 1 ≤ l.length
  most : l.length ≤ 20
  ships : ∀ x ∈ l, 0 ≤ x.f0 ∧ x.f0 ≤ 6 ∧ 0 ≤ x.f1 ∧ x.f1 ≤ 60 ∧ 0 ≤ x.f2 ∧ x.f2 ≤ 60
theorem ValidL.in_ {l : List Sp} (h : ValidL l) : ∀ x ∈ l, shipIn x := fun x hx => by
  have := h.ships x hx
  unfold shipIn
  omega
theorem validB_iff {l : List Sp} (hw : ∀ x ∈ l, wfShip x) : validB l = true ↔ ValidL l := by
  constructor
  · intro h
    unfold validB at h
    simp only [Bool.and_eq_true, decide_eq_true_eq, Bool.not_eq_true', List.any_eq_false] at h
    obtain ⟨⟨h1, h2⟩, h3⟩ := h
    refine ⟨by omega, by omega, fun x hx => ?_⟩
    have h4 := h3 x hx
    rw [shipBad_wf (hw x hx)] at h4
    simp at h4
    omega
  · intro h
    unfold validB
    simp only [Bool.and_eq_true, decide_eq_true_eq, Bool.not_eq_true', List.any_eq_false]
    refine ⟨⟨by have := h.pos; omega, by have := h.most; omega⟩, fun x hx => ?_⟩
    rw [shipBad_wf (hw x hx)]
    have := h.ships x hx
    simp
    omega
theorem in_eq (n lo hi : Int) : spec_l00In.f n lo hi = some (decide (lo ≤ n) && decide (n ≤ hi)) := by
  unfold spec_l00In.f
  split
  · simp [*]
  · simp [*]
theorem specOk_eq (k : Nat) (l : List Sp) (hw : ∀ x ∈ l, wfShip x) (hl : l.length ≤ 1048576) (hk : l.length < k) : spec_l06Ok.f k l = some (validB l) := by
  unfold spec_l06Ok.f validB
  rw [in_eq]
  simp only [Option.bind_some]
  by_cases h0 : (decide (1 ≤ (l.length : Int)) && decide ((l.length : Int) ≤ 20)) = true
  · rw [if_pos h0, h0, Bool.true_and]
    obtain ⟨r, hr, h⟩ := loop_inv (fun k (s : Int) => spec_l06Ok.l0 k l s) l.length (fun i s => s = (i : Int) ∧ ∀ j (h : j < l.length), j < i → shipBad l[j] = false) (fun r => r = !l.any shipBad)
      (fun k i s hi ⟨h1, h2⟩ => by
        subst h1
        have hb := hw l[i] (List.getElem_mem hi)
        have hbad := shipBad_wf hb
        obtain ⟨b0, b1, b2⟩ := hb
        have b0 := i8b b0
        have b1 := i8b b1
        have b2 := i8b b2
        cases hq : shipBad l[i] with
        | true =>
          refine .inr ⟨false, ?_, ?_⟩
          · have : l.any shipBad = true := List.any_eq_true.2 ⟨l[i], List.getElem_mem hi, hq⟩
            rw [this]; rfl
          · simp only [spec_l06Ok.l0]
            rw [if_pos (by omega), if_pos (by omega), rd_impl_Ship hi, in_eq, in_eq, in_eq]
            rw [w64 (n := (l[i]).f0) (by omega) (by omega), w64 (n := (l[i]).f1) (by omega) (by omega), w64 (n := (l[i]).f2) (by omega) (by omega)]
            rw [hq] at hbad
            simp only [Option.bind_some]
            generalize (decide (0 ≤ (l[i]).f0) && decide ((l[i]).f0 ≤ 6)) = c0 at *
            generalize (decide (0 ≤ (l[i]).f1) && decide ((l[i]).f1 ≤ 60)) = c1 at *
            generalize (decide (0 ≤ (l[i]).f2) && decide ((l[i]).f2 ≤ 60)) = c2 at *
            cases c0 <;> cases c1 <;> cases c2 <;> first | (exfalso; revert hbad; decide) | rfl
        | false =>
          refine .inl ⟨((i + 1 : Nat) : Int), ⟨rfl, fun j hj hji => ?_⟩, ?_⟩
          · by_cases e : j = i
            · subst e; exact hq
            · exact h2 j hj (by omega)
          · simp only [spec_l06Ok.l0]
            rw [if_pos (by omega), if_pos (by omega), rd_impl_Ship hi, in_eq, in_eq, in_eq]
            rw [w64 (n := (l[i]).f0) (by omega) (by omega), w64 (n := (l[i]).f1) (by omega) (by omega), w64 (n := (l[i]).f2) (by omega) (by omega), w64 (n := (i : Int) + 1) (by omega) (by omega)]
            rw [hq] at hbad
            simp only [Option.bind_some]
            generalize (decide (0 ≤ (l[i]).f0) && decide ((l[i]).f0 ≤ 6)) = c0 at *
            generalize (decide (0 ≤ (l[i]).f1) && decide ((l[i]).f1 ≤ 60)) = c1 at *
            generalize (decide (0 ≤ (l[i]).f2) && decide ((l[i]).f2 ≤ 60)) = c2 at *
            cases c0 <;> cases c1 <;> cases c2 <;> first | (exfalso; revert hbad; decide) | rfl)
      (fun k s ⟨h1, h2⟩ => by
        subst h1
        refine ⟨true, ?_, ?_⟩
        · have : l.any shipBad = false := by
            rw [List.any_eq_false]
            intro x hx
            obtain ⟨j, hj, rfl⟩ := List.mem_iff_getElem.1 hx
            simp [h2 j hj hj]
          rw [this]; rfl
        · simp only [spec_l06Ok.l0]
          rw [if_neg (by omega)]) k 0 ⟨rfl, fun j _ h => absurd h (Nat.not_lt_zero _)⟩ hk
    subst hr
    exact h
  · rw [if_neg h0]
    simp only [Bool.not_eq_true] at h0
    rw [h0, Bool.false_and]
theorem wf_map {l : List (S62)} (h : ∀ x ∈ l, (Lit.int .i8 x.f0).wf = true ∧ (Lit.int .i8 x.f1).wf = true ∧ (Lit.int .i8 x.f2).wf = true) : ∀ x ∈ l.map shipOf, wfShip x := by
  intro x hx
  obtain ⟨y, hy, rfl⟩ := List.mem_map.1 hx
  exact h y hy

end Go.Proofs.Ytclmedjighnkjaa.G.Pure
end

section
namespace Go.Proofs.Ytclmedjighnkjaa.G
open Go.RowKit Go.Proofs.YtclmedjighnkjaaW.PrintWords Go.Proofs.YtclmedjighnkjaaW.PrintLast Go.Proofs.YtclmedjighnkjaaW.PrintMore
attribute [local go_sem] max2_int min2_int max_two min_two max_three min_three max_four min_four
set_option linter.unusedVariables false
set_option linter.unusedSimpArgs false

/-! ### impl_TimesOf: function 44 -/
def impl_TimesOf.f (k : Nat) (l0 : List (S60)) : Option ((List (S69)) × Int) := (impl_ValidLine.f l0).bind fun t101 => (if t101 = true then ((impl_times.f k l0).bind fun t102 => (some (t102, 0))) else (some (([] : List (S69)), 1)))
set_option maxHeartbeats 8000000 in
set_option maxRecDepth 100000 in
theorem impl_TimesOf.calls (k : Nat) (A0 : Option Addr) (c0 : Nat) (l0 : List (S60)) (r1 : List (S69)) (r2 : Int) (w : World) (hr0 : Kd.C k60 w A0 l0.length l0) (hc0 : l0.length ≤ c0) (h : impl_TimesOf.f k l0 = some (r1, r2)) :
    Calls Try.prog 44 #[.slice A0 l0.length c0] w fun e w' => ∃ v0_ : Value, e = .returned (.tuple #[v0_, .int .i64 r2]) ∧ Kd.R k69 69 w' w.heap.size (fun _ => True) v0_ r1 ∧ Below w.heap.size w w' := by
  have HR0 := Aside0.mk hr0
  have HC0 := Aside0.mk hc0
  clear hr0 hc0
  have HB := Aside0.mk (Below.refl w.heap.size w)
  have H : ((impl_ValidLine.f l0).bind fun t101 => (if t101 = true then ((impl_times.f k l0).bind fun t102 => (some (t102, 0))) else (some (([] : List (S69)), 1)))) = some (r1, r2) := h
  clear h
  replace H := Option.bind_eq_some_iff.mp H
  obtain ⟨t101, A20, H⟩ := H
  replace H : (if t101 = true then ((impl_times.f k l0).bind fun t102 => (some (t102, 0))) else (some (([] : List (S69)), 1))) = some (r1, r2) := H
  have A2 := Aside0.mk A20
  clear A20
  by_cases c3 : t101 = true
  · subst c3
    have H1 : ((impl_times.f k l0).bind fun t102 => (some (t102, 0))) = some (r1, r2) := by rw [if_pos rfl] at H; exact H
    clear H
    have H := H1
    clear H1
    replace H := Option.bind_eq_some_iff.mp H
    obtain ⟨t102, A40, H⟩ := H
    replace H : (some (t102, 0)) = some (r1, r2) := H
    have A4 := Aside0.mk A40
    clear A40
    simp only [Option.some.injEq, Prod.mk.injEq] at H
    obtain ⟨rfl, rfl⟩ := H
    go_enter Try.func44, Try.ntmps44
    go_wp2_with (first | ((with_reducible refine gate_callee (f := 19) rfl ?_); refine goesL_ (some 5) rfl rfl Try.func19 (by kernel_rfl) rfl #[.slice A0 l0.length c0] rfl (by (try simp only [List.map_toArray, List.map_cons, List.map_nil]); first | done | rfl | (simp only [List.length_drop, List.length_take]; rfl)) ?_; (with_reducible refine (impl_ValidLine.calls _ _ l0 true _ ?side1 ?side2 A2.out).mono ?_); (case side1 => repeat (first | exact HR0.out | (with_reducible refine Kd.C_alloc ?_ _) | (with_reducible refine Kd.C_drewN ?_ _) | (with_reducible refine Kd.C_drew ?_))); (case side2 => exact HC0.out); rintro e w5 ⟨rfl, hb⟩; refine ⟨_, rfl, ?_⟩; have n0_ := Aside0.mk (below_step (by repeat (first | (with_reducible first | exact HB.out | apply below_alloc | apply pw_below_drewN | apply below_drew1) | exact HB.out)) hb); clear HB; have HB := n0_; clear n0_; (try clear hb); (try clear hb2); (try clear hk); (try clear hi)) | ((with_reducible refine gate_callee (f := 67) rfl ?_); refine goesL_ (some 8) rfl rfl Try.func67 (by kernel_rfl) rfl #[.slice A0 l0.length c0] rfl (by (try simp only [List.map_toArray, List.map_cons, List.map_nil]); first | done | rfl | (simp only [List.length_drop, List.length_take]; rfl)) ?_; (with_reducible refine (impl_times.calls k _ _ l0 t102 _ ?side1 ?side2 A4.out).mono ?_); (case side1 => repeat (first | exact (Kd.C_below HR0.out HB.out) | (with_reducible refine Kd.C_alloc ?_ _) | (with_reducible refine Kd.C_drewN ?_ _) | (with_reducible refine Kd.C_drew ?_))); (case side2 => exact HC0.out); rintro e w6 ⟨v103, rfl, ho0, hb⟩; refine ⟨_, rfl, ?_⟩; have n0_ := Aside0.mk (Kd.R_lower ho0 (below_size (by repeat (first | (with_reducible first | exact HB.out | apply below_alloc | apply pw_below_drewN | apply below_drew1) | exact HB.out)))); have n1_ := Aside0.mk (below_step (by repeat (first | (with_reducible first | exact HB.out | apply below_alloc | apply pw_below_drewN | apply below_drew1) | exact HB.out)) hb); clear HB; have HO104 := n0_; have HB := n1_; clear n0_ n1_; (try clear hb); (try clear hb2); (try clear hk); (try clear hi); (try clear ho0)))
    go_ret2
    exact ⟨_, by first | rfl | (simp [errW_none, errW_some, IntKind.wrap_i64, wrap64]; done) | (simp [errW_none, errW_some] <;> rfl) | (simp [*, errW_none, errW_some] <;> rfl), by (with_reducible repeat (first | apply Kd.R_alloc | apply Kd.R_drewN | apply Kd.R_drew)); exact HO104.out, by repeat (first | (with_reducible first | exact HB.out | apply below_alloc | apply pw_below_drewN | apply below_drew1) | exact HB.out)⟩
  · replace c3 := Bool.eq_false_iff.mpr c3
    subst c3
    have H1 : (some (([] : List (S69)), 1)) = some (r1, r2) := by rw [if_neg (show ¬ (false = true) by decide)] at H; exact H
    clear H
    have H := H1
    clear H1
    simp only [Option.some.injEq, Prod.mk.injEq] at H
    obtain ⟨rfl, rfl⟩ := H
    go_enter Try.func44, Try.ntmps44
    go_wp2_with (first | ((with_reducible refine gate_callee (f := 19) rfl ?_); refine goesL_ (some 5) rfl rfl Try.func19 (by kernel_rfl) rfl #[.slice A0 l0.length c0] rfl (by (try simp only [List.map_toArray, List.map_cons, List.map_nil]); first | done | rfl | (simp only [List.length_drop, List.length_take]; rfl)) ?_; (with_reducible refine (impl_ValidLine.calls _ _ l0 false _ ?side1 ?side2 A2.out).mono ?_); (case side1 => repeat (first | exact HR0.out | (with_reducible refine Kd.C_alloc ?_ _) | (with_reducible refine Kd.C_drewN ?_ _) | (with_reducible refine Kd.C_drew ?_))); (case side2 => exact HC0.out); rintro e w7 ⟨rfl, hb⟩; refine ⟨_, rfl, ?_⟩; have n0_ := Aside0.mk (below_step (by repeat (first | (with_reducible first | exact HB.out | apply below_alloc | apply pw_below_drewN | apply below_drew1) | exact HB.out)) hb); clear HB; have HB := n0_; clear n0_; (try clear hb); (try clear hb2); (try clear hk); (try clear hi)))
    go_ret2
    exact ⟨_, by first | rfl | (simp [errW_none, errW_some, IntKind.wrap_i64, wrap64]; done) | (simp [errW_none, errW_some] <;> rfl) | (simp [*, errW_none, errW_some] <;> rfl), by first | exact Kd.R_nil _ _ _ _ _ | exact Kd.N_nil _ _ _ _ _ | exact Kd.V_nil _ _ _ _ _ | exact Kd.Q_nil _ _ _ _ _ | exact Kd.S_nil _ _ _ _ _, by repeat (first | (with_reducible first | exact HB.out | apply below_alloc | apply pw_below_drewN | apply below_drew1) | exact HB.out)⟩

end Go.Proofs.Ytclmedjighnkjaa.G
end

section
namespace Go.Proofs.Ytclmedjighnkjaa.G
open Go.RowKit Go.Proofs.YtclmedjighnkjaaW.PrintWords Go.Proofs.YtclmedjighnkjaaW.PrintLast Go.Proofs.YtclmedjighnkjaaW.PrintMore
attribute [local go_sem] max2_int min2_int max_two min_two max_three min_three max_four min_four
set_option linter.unusedVariables false
set_option linter.unusedSimpArgs false

/-! ### spec_TimesOf: function 43 -/
def spec_TimesOf.f (k : Nat) (l0 : List (S60)) : Option ((List (S69)) × Int) := (spec_l06Ok.f k l0).bind fun t101 => (if t101 = true then ((spec_l06Times.f k l0 (-1) 0).bind fun t102 => (some (t102, 0))) else (some ((([] : List (S69))), 1)))
set_option maxHeartbeats 8000000 in
set_option maxRecDepth 100000 in
theorem spec_TimesOf.calls (k : Nat) (A0 : Option Addr) (c0 : Nat) (l0 : List (S60)) (r1 : List (S69)) (r2 : Int) (w : World) (hr0 : Kd.C k60 w A0 l0.length l0) (hc0 : l0.length ≤ c0) (h : spec_TimesOf.f k l0 = some (r1, r2)) :
    Calls Try.prog 43 #[.slice A0 l0.length c0] w fun e w' => ∃ v0_ : Value, e = .returned (.tuple #[v0_, .int .i64 r2]) ∧ Kd.R k69 69 w' w.heap.size (fun _ => True) v0_ r1 ∧ Below w.heap.size w w' := by
  have HR0 := Aside0.mk hr0
  have HC0 := Aside0.mk hc0
  clear hr0 hc0
  have HB := Aside0.mk (Below.refl w.heap.size w)
  have H : ((spec_l06Ok.f k l0).bind fun t101 => (if t101 = true then ((spec_l06Times.f k l0 (-1) 0).bind fun t102 => (some (t102, 0))) else (some ((([] : List (S69))), 1)))) = some (r1, r2) := h
  clear h
  replace H := Option.bind_eq_some_iff.mp H
  obtain ⟨t101, A20, H⟩ := H
  replace H : (if t101 = true then ((spec_l06Times.f k l0 (-1) 0).bind fun t102 => (some (t102, 0))) else (some ((([] : List (S69))), 1))) = some (r1, r2) := H
  have A2 := Aside0.mk A20
  clear A20
  by_cases c3 : t101 = true
  · subst c3
    have H1 : ((spec_l06Times.f k l0 (-1) 0).bind fun t102 => (some (t102, 0))) = some (r1, r2) := by rw [if_pos rfl] at H; exact H
    clear H
    have H := H1
    clear H1
    replace H := Option.bind_eq_some_iff.mp H
    obtain ⟨t102, A40, H⟩ := H
    replace H : (some (t102, 0)) = some (r1, r2) := H
    have A4 := Aside0.mk A40
    clear A40
    simp only [Option.some.injEq, Prod.mk.injEq] at H
    obtain ⟨rfl, rfl⟩ := H
    go_enter Try.func43, Try.ntmps43
    go_wp2_with (first | ((with_reducible refine gate_callee (f := 55) rfl ?_); refine goesL_ (some 5) rfl rfl Try.func55 (by kernel_rfl) rfl #[.slice A0 l0.length c0] rfl (by (try simp only [List.map_toArray, List.map_cons, List.map_nil]); first | done | rfl | (simp only [List.length_drop, List.length_take]; rfl)) ?_; (with_reducible refine (spec_l06Ok.calls k _ _ l0 true _ ?side1 ?side2 A2.out).mono ?_); (case side1 => repeat (first | exact HR0.out | (with_reducible refine Kd.C_alloc ?_ _) | (with_reducible refine Kd.C_drewN ?_ _) | (with_reducible refine Kd.C_drew ?_))); (case side2 => exact HC0.out); rintro e w5 ⟨rfl, hb⟩; refine ⟨_, rfl, ?_⟩; have n0_ := Aside0.mk (below_step (by repeat (first | (with_reducible first | exact HB.out | apply below_alloc | apply pw_below_drewN | apply below_drew1) | exact HB.out)) hb); clear HB; have HB := n0_; clear n0_; (try clear hb); (try clear hb2); (try clear hk); (try clear hi)) | ((with_reducible refine gate_callee (f := 66) rfl ?_); refine goesL_ (some 9) rfl rfl Try.func66 (by kernel_rfl) rfl #[.slice A0 l0.length c0, .int .i64 (-1), .int .i64 0] rfl (by (try simp only [List.map_toArray, List.map_cons, List.map_nil]); first | done | rfl | (simp only [List.length_drop, List.length_take]; rfl)) ?_; (with_reducible refine (spec_l06Times.calls k _ _ l0 (-1) 0 t102 _ ?side1 ?side2 A4.out).mono ?_); (case side1 => repeat (first | exact (Kd.C_below HR0.out HB.out) | (with_reducible refine Kd.C_alloc ?_ _) | (with_reducible refine Kd.C_drewN ?_ _) | (with_reducible refine Kd.C_drew ?_))); (case side2 => exact HC0.out); rintro e w6 ⟨v103, rfl, ho0, hb⟩; refine ⟨_, rfl, ?_⟩; have n0_ := Aside0.mk (Kd.R_lower ho0 (below_size (by repeat (first | (with_reducible first | exact HB.out | apply below_alloc | apply pw_below_drewN | apply below_drew1) | exact HB.out)))); have n1_ := Aside0.mk (below_step (by repeat (first | (with_reducible first | exact HB.out | apply below_alloc | apply pw_below_drewN | apply below_drew1) | exact HB.out)) hb); clear HB; have HO104 := n0_; have HB := n1_; clear n0_ n1_; (try clear hb); (try clear hb2); (try clear hk); (try clear hi); (try clear ho0)))
    go_ret2
    exact ⟨_, by first | rfl | (simp [errW_none, errW_some, IntKind.wrap_i64, wrap64]; done) | (simp [errW_none, errW_some] <;> rfl) | (simp [*, errW_none, errW_some] <;> rfl), by (with_reducible repeat (first | apply Kd.R_alloc | apply Kd.R_drewN | apply Kd.R_drew)); exact HO104.out, by repeat (first | (with_reducible first | exact HB.out | apply below_alloc | apply pw_below_drewN | apply below_drew1) | exact HB.out)⟩
  · replace c3 := Bool.eq_false_iff.mpr c3
    subst c3
    have H1 : (some ((([] : List (S69))), 1)) = some (r1, r2) := by rw [if_neg (show ¬ (false = true) by decide)] at H; exact H
    clear H
    have H := H1
    clear H1
    obtain ⟨y105, hy105⟩ : ∃ y_ : List (S69), y_ = (([] : List (S69))) := ⟨_, rfl⟩
    replace H : (some (y105, 1)) = some (r1, r2) := by first | (rw [hy105]; with_reducible exact H) | (have H2_ := (Option.bind_some _ _).symm.trans H; rw [hy105]; with_reducible exact H2_) | (have H2_ := (Option.bind_some _ _).symm.trans H; with_reducible exact H2_) | with_reducible exact H | (rw [hy105]; exact H) | exact H
    have Ny105 := Aside0.mk hy105
    clear hy105
    simp only [Option.some.injEq, Prod.mk.injEq] at H
    obtain ⟨rfl, rfl⟩ := H
    go_enter Try.func43, Try.ntmps43
    go_wp2_with (first | ((with_reducible refine gate_callee (f := 55) rfl ?_); refine goesL_ (some 5) rfl rfl Try.func55 (by kernel_rfl) rfl #[.slice A0 l0.length c0] rfl (by (try simp only [List.map_toArray, List.map_cons, List.map_nil]); first | done | rfl | (simp only [List.length_drop, List.length_take]; rfl)) ?_; (with_reducible refine (spec_l06Ok.calls k _ _ l0 false _ ?side1 ?side2 A2.out).mono ?_); (case side1 => repeat (first | exact HR0.out | (with_reducible refine Kd.C_alloc ?_ _) | (with_reducible refine Kd.C_drewN ?_ _) | (with_reducible refine Kd.C_drew ?_))); (case side2 => exact HC0.out); rintro e w7 ⟨rfl, hb⟩; refine ⟨_, rfl, ?_⟩; have n0_ := Aside0.mk (below_step (by repeat (first | (with_reducible first | exact HB.out | apply below_alloc | apply pw_below_drewN | apply below_drew1) | exact HB.out)) hb); clear HB; have HB := n0_; clear n0_; (try clear hb); (try clear hb2); (try clear hk); (try clear hi)) | ((with_reducible refine gate_dst (N := 7) rfl ?_); refine Kd.R_lit k69 _ 69 ?hg (N := 7) ?hd (xs := ([] : List (S69))) (inner := []) (ok := fun _ => True) (okp := fun _ => True) ?hr ?hp (fun _ hk => hk) trivial (Below.refl _ _) (Nat.le_refl _) (by simp) ?_; (case hd => rfl); (case hg => rfl); (case hr => first | (go_simp; done) | (go_simp; rfl)); (case hp => exact (Reps.none _ _)); intro v106 w8 ho9 hb hg_ hnew_; clear hg_ hnew_; (first | rw [← Ny105.out] at ho9 | (simp only [Int.reduceToNat] at ho9; rw [← Ny105.out] at ho9)); have n0_ := Aside0.mk (Kd.R_lower ho9 (below_size (by repeat (first | (with_reducible first | exact HB.out | apply below_alloc | apply pw_below_drewN | apply below_drew1) | exact HB.out)))); have n1_ := Aside0.mk (below_step (by repeat (first | (with_reducible first | exact HB.out | apply below_alloc | apply pw_below_drewN | apply below_drew1) | exact HB.out)) hb); clear HB; have HO107 := n0_; have HB := n1_; clear n0_ n1_; clear hb ho9))
    go_ret2
    exact ⟨_, by first | rfl | (simp [errW_none, errW_some, IntKind.wrap_i64, wrap64]; done) | (simp [errW_none, errW_some] <;> rfl) | (simp [*, errW_none, errW_some] <;> rfl), by (with_reducible repeat (first | apply Kd.R_alloc | apply Kd.R_drewN | apply Kd.R_drew)); exact HO107.out, by repeat (first | (with_reducible first | exact HB.out | apply below_alloc | apply pw_below_drewN | apply below_drew1) | exact HB.out)⟩

end Go.Proofs.Ytclmedjighnkjaa.G
end

section
namespace Go.Proofs.Ytclmedjighnkjaa.G.Pure
open Go.RowKit Go.Proofs.Ytclmedjighnkjaa.G Go.Proofs.YtclmedjighnkjaaW.PrintWords Go.Proofs.YtclmedjighnkjaaW.PrintLast Go.Proofs.YtclmedjighnkjaaW.PrintMore
set_option linter.unusedVariables false
set_option linter.unusedSimpArgs false
/-! What TimesOf comes to. -/
theorem ValidL.specTimes {line : List Sp} (v : ValidL line) {k : Nat} (hk : 300 < k) : spec_l06Times.f k line (-1) 0 = some (timesL (-1) 0 line) :=
  specTimes_eq k line (-1) 0 v.most v.in_ (fun i x hx => by
    have := v.ships x (List.mem_of_getElem? hx)
    rw [if_neg (by omega)]
    omega) ⟨by omega, by omega⟩ (by omega)
theorem ValidL.implTimes {line : List Sp} (v : ValidL line) {k : Nat} (hk : 300 < k) : impl_times.f k line = some (timesL (-1) 0 line) :=
  implTimes_eq k line v.most v.in_ (by omega)
theorem ValidL.timesOK {line : List Sp} (v : ValidL line) : TimesOK (timesL (-1) 0 line) :=
  timesGo_ok (-1) 0 line [] TimesOK.nil (fun x hx => by have := v.ships x hx; omega) (fun i x hx => by
    have := v.ships x (List.mem_of_getElem? hx)
    rw [if_neg (by simp only [List.length_nil]; omega)]
    omega)
theorem TimesOK.sign {ts : List Tm} (h : TimesOK ts) {i : Nat} {t : Tm} (ht : ts[i]? = some t) : (t.f3 < 0 ↔ t.f2 < 0) ∧ (t.f3 < 0 ↔ t.f0 < 0 ∧ 0 < i) := by
  have hb := h.bound i t ht
  rcases Nat.eq_zero_or_pos i with h0 | h0
  · subst h0
    have := h.first t ht
    omega
  · rcases h.later i t ht h0 with rfl | h1
    · exact ⟨⟨fun _ => by decide, fun _ => by decide⟩, ⟨fun _ => ⟨by decide, h0⟩, fun _ => by decide⟩⟩
    · omega
def resTimesOf (line : List Sp) : List Tm × Int := if validB line = true then (timesL (-1) 0 line, 0) else ([], 1)
theorem resTimesOf_len {line : List Sp} (hw : ∀ x ∈ line, wfShip x) : (resTimesOf line).1.length ≤ 20 := by
  unfold resTimesOf
  split
  · rename_i h
    simp only [timesL_len]
    exact ((validB_iff hw).1 h).most
  · simp
theorem specTimesOf_eq {k : Nat} {line : List Sp} (hw : ∀ x ∈ line, wfShip x) (hl : line.length ≤ 1048576) (hk : 1099000 < k) : spec_TimesOf.f k line = some (resTimesOf line) := by
  unfold spec_TimesOf.f resTimesOf
  rw [specOk_eq k line hw hl (by omega)]
  simp only [Option.bind_some]
  split
  · rename_i h
    rw [((validB_iff hw).1 h).specTimes (by omega)]
    rfl
  · rfl
theorem implTimesOf_eq {k : Nat} {line : List Sp} (hw : ∀ x ∈ line, wfShip x) (hk : 1099000 < k) : impl_TimesOf.f k line = some (resTimesOf line) := by
  unfold impl_TimesOf.f resTimesOf
  rw [implValid_eq]
  simp only [Option.bind_some]
  split
  · rename_i h
    rw [((validB_iff hw).1 h).implTimes (by omega)]
    rfl
  · rfl

end Go.Proofs.Ytclmedjighnkjaa.G.Pure
end

section
namespace Go.Proofs.Ytclmedjighnkjaa.G.Pure
open Go.RowKit Go.Proofs.Ytclmedjighnkjaa.G Go.Proofs.YtclmedjighnkjaaW.PrintWords Go.Proofs.YtclmedjighnkjaaW.PrintLast Go.Proofs.YtclmedjighnkjaaW.PrintMore
set_option linter.unusedVariables false
set_option linter.unusedSimpArgs false
/-! When all have closed up, and when they haul down. -/
theorem l00Max_eq (a b : Int) : spec_l00Max.f a b = some (mx a b) := by
  unfold spec_l00Max.f mx
  split
  · rw [if_neg (by omega)]
  · split
    · rfl
    · congr 1
      omega
/-- The last times behind a ship: from the last ship to the first one. -/
def readyTo (ts : List Tm) : Nat → List Int
  | 0 => ts.map fun t => t.f2
  | n + 1 => match ts[ts.length - 1 - n]? with
    | some t => if 0 ≤ t.f0 then (readyTo ts n).set t.f0.toNat (mx (rd (readyTo ts n) t.f0) (rd (readyTo ts n) ((ts.length - 1 - n : Nat) : Int))) else readyTo ts n
    | none => readyTo ts n
theorem readyTo_len (ts : List Tm) : ∀ n, (readyTo ts n).length = ts.length
  | 0 => by simp [readyTo]
  | n + 1 => by
    simp only [readyTo]
    split
    · split
      · rw [List.length_set]; exact readyTo_len ts n
      · exact readyTo_len ts n
    · exact readyTo_len ts n
/-- When the ships haul down. -/
def downTo (ts : List Tm) (r0 : Int) : Nat → List Int
  | 0 => []
  | n + 1 => match ts[n]? with
    | some t => downTo ts r0 n ++ [if n = 0 then r0 else if t.f3 < 0 then -1 else wrap64 (rd (downTo ts r0 n) t.f0 + 1)]
    | none => downTo ts r0 n
theorem downTo_len (ts : List Tm) (r0 : Int) : ∀ n, n ≤ ts.length → (downTo ts r0 n).length = n
  | 0, _ => rfl
  | n + 1, h => by
    simp only [downTo, List.getElem?_eq_getElem (show n < ts.length by omega)]
    rw [List.length_append, downTo_len ts r0 n (by omega)]
    rfl
def downL (ts : List Tm) : List Int := downTo ts (mx (rd (readyTo ts (ts.length - 1)) 0) ((ts.getD 0 z69).f3)) ts.length
theorem downL_len (ts : List Tm) : (downL ts).length = ts.length := downTo_len ts _ _ (Nat.le_refl _)
theorem implHauled0 (k : Nat) (ts : List Tm) (hl : ts.length ≤ 1048576) :
    ∀ d i, i + d = ts.length → impl_hauledDown.l0 (k + d + 1) ts ((ts.take i).map fun t => t.f2) ts (ts.length : Int) (i : Int) = impl_hauledDown.l1 k ts (ts.map fun t => t.f2) (wrap64 ((ts.length : Int) - 1)) := by
  intro d
  induction d with
  | zero =>
    intro i hi
    unfold impl_hauledDown.l0
    rw [if_neg (by omega), List.take_of_length_le (by omega)]
  | succ d ih =>
    intro i hi
    rw [← ih (i + 1) (by omega), show k + (d + 1) + 1 = (k + d + 1) + 1 by omega]
    conv => lhs; unfold impl_hauledDown.l0
    rw [if_pos (by omega), if_pos (by omega), if_pos (by omega), if_pos (by simp; omega), rd_impl_Times (by omega), w64 (by omega) (by omega)]
    rw [List.take_succ_eq_append_getElem (by omega), List.map_append]
    rfl
theorem implHauled1 (k : Nat) (ts : List Tm) (hok : TimesOK ts) (h1 : 1 ≤ ts.length) (hl : ts.length ≤ 1048576) :
    ∀ d n, n + d = ts.length - 1 → impl_hauledDown.l1 (k + d + 1) ts (readyTo ts n) ((ts.length - 1 - n : Nat) : Int) = impl_hauledDown.l2 k (readyTo ts (ts.length - 1)) [] ts (ts.length : Int) 0 := by
  intro d
  induction d with
  | zero =>
    intro n hn
    unfold impl_hauledDown.l1
    rw [if_neg (by omega), show n = ts.length - 1 by omega]
  | succ d ih =>
    intro n hn
    have hq : ts.length - 1 - n < ts.length := by omega
    have e := List.getElem?_eq_getElem hq
    have hlt := hok.later _ _ e (by omega)
    have hlen := readyTo_len ts n
    rw [← ih (n + 1) (by omega), show k + (d + 1) + 1 = (k + d + 1) + 1 by omega]
    conv => lhs; unfold impl_hauledDown.l1
    rw [if_pos (by omega), if_pos (by omega), if_pos (by omega), rd_impl_Times hq]
    simp only [readyTo, e]
    rw [w64 (n := ((ts.length - 1 - n : Nat) : Int) - 1) (by omega) (by omega), show ((ts.length - 1 - n : Nat) : Int) - 1 = ((ts.length - 1 - (n + 1) : Nat) : Int) by omega]
    by_cases c : 0 ≤ (ts[ts.length - 1 - n]).f0
    · have hf : (ts[ts.length - 1 - n]).f0 < ((ts.length - 1 - n : Nat) : Int) := by
        rcases hlt with h | h
        · rw [h] at c; exact absurd c (by decide)
        · exact h.2.1
      rw [if_pos (by omega), if_pos c, if_pos (by rw [hlen]; omega), if_pos (by rw [hlen]; omega), if_pos c]
    · rw [if_neg (by omega), if_neg c]
theorem implHauled2 (k : Nat) (ts : List Tm) (hok : TimesOK ts) (R : List Int) (hR : R.length = ts.length) (hl : ts.length ≤ 1048576) :
    ∀ d n, n + d = ts.length → impl_hauledDown.l2 (k + d + 1) R (downTo ts (mx (rd R 0) ((ts.getD 0 z69).f3)) n) ts (ts.length : Int) (n : Int) = some (downTo ts (mx (rd R 0) ((ts.getD 0 z69).f3)) ts.length) := by
  intro d
  induction d with
  | zero =>
    intro n hn
    unfold impl_hauledDown.l2
    rw [if_neg (by omega), show n = ts.length by omega]
  | succ d ih =>
    intro n hn
    have hq : n < ts.length := by omega
    have e := List.getElem?_eq_getElem hq
    have hlen := downTo_len ts (mx (rd R 0) ((ts.getD 0 z69).f3)) n (by omega)
    rw [← ih (n + 1) (by omega), show k + (d + 1) + 1 = (k + d + 1) + 1 by omega]
    conv => lhs; unfold impl_hauledDown.l2
    rw [if_pos (by omega), if_pos (by omega), if_pos (by omega), rd_impl_Times hq, w64 (n := (n : Int) + 1) (by omega) (by omega)]
    simp only [downTo, e]
    by_cases c0 : n = 0
    · subst c0
      rw [if_pos (by omega), if_pos (by omega), if_pos (by rw [hlen]; omega), if_pos rfl, getD_in (by omega)]
      rfl
    · rw [if_neg (by omega), if_neg c0]
      have hs := hok.sign e
      by_cases c : (ts[n]).f3 < 0
      · rw [if_pos (by omega), if_pos (by rw [hlen]; omega), if_pos c]
        rfl
      · have hf : 0 ≤ (ts[n]).f0 ∧ (ts[n]).f0 < (n : Int) := by
          rcases hok.later n _ e (by omega) with h | h
          · exfalso; apply c; rw [h]; decide
          · omega
        rw [if_neg (by omega), if_pos hf.1, if_pos (by rw [hlen]; exact hf.2), if_pos (by rw [hlen]; omega), if_neg c]
        rfl
theorem implHauled_eq (k : Nat) (line : List Sp) (v : ValidL line) (hk : 1000 < k) : impl_hauledDown.f k line = some (downL (timesL (-1) 0 line)) := by
  have hlen := timesL_len (-1) 0 line
  have h1 := v.pos
  have h20 := v.most
  unfold impl_hauledDown.f
  rw [v.implTimes (by omega)]
  simp only [Option.bind_some]
  generalize hts : timesL (-1) 0 line = ts at *
  have hok : TimesOK ts := hts ▸ v.timesOK
  obtain ⟨m, rfl⟩ : ∃ m, k = m + (ts.length + 1 + (ts.length - 1 + 1) + (ts.length + 1)) := ⟨k - (ts.length + 1 + (ts.length - 1 + 1) + (ts.length + 1)), by omega⟩
  have a0 := implHauled0 (m + (ts.length + 1) + (ts.length - 1 + 1)) ts (by omega) ts.length 0 (by omega)
  have a1 := implHauled1 (m + (ts.length + 1)) ts hok (by omega) (by omega) (ts.length - 1) 0 (by omega)
  have a2 := implHauled2 m ts hok (readyTo ts (ts.length - 1)) (readyTo_len _ _) (by omega) ts.length 0 (by omega)
  rw [show m + (ts.length + 1 + (ts.length - 1 + 1) + (ts.length + 1)) = m + (ts.length + 1) + (ts.length - 1 + 1) + ts.length + 1 by omega]
  simp only [List.take_zero, List.map_nil] at a0
  rw [show (0 : Int) = ((0 : Nat) : Int) from rfl, a0, w64 (by omega) (by omega)]
  rw [show (ts.length : Int) - 1 = ((ts.length - 1 - 0 : Nat) : Int) by omega]
  simp only [readyTo] at a1
  rw [show m + (ts.length + 1) + (ts.length - 1 + 1) = m + (ts.length + 1) + (ts.length - 1) + 1 by omega, a1]
  exact a2
theorem mx_swap (a b c : Int) : mx (mx a b) c = mx (mx a c) b := by
  unfold mx
  (repeat' split) <;> omega
/-- What the reference's list of last times tells, ahead of ship i. -/
def SInv (ts : List Tm) (S : List Int) (i : Nat) : Prop := S.length = ts.length ∧ ∀ j, j ≤ i → ∀ t, ts[j]? = some t → 0 ≤ t.f3 → mx (rd S (j : Int)) t.f2 = rd (readyTo ts (ts.length - 1 - i)) (j : Int)
theorem rd_set_ne {l : List Int} {i j : Nat} (h : i ≠ j) (v : Int) : rd (l.set i v) (j : Int) = rd l (j : Int) := by
  simp [rd, List.getD_eq_getElem?_getD, List.getElem?_set, h]
theorem rd_set_eq {l : List Int} {i : Nat} (h : i < l.length) (v : Int) : rd (l.set i v) (i : Int) = v := by
  simp [rd, List.getD_eq_getElem?_getD, List.getElem?_set, h]
theorem specDown0 (k : Nat) (ts : List Tm) (hok : TimesOK ts) (h1 : 1 ≤ ts.length) (hl : ts.length ≤ 1048576) :
    ∀ d S, d + 1 ≤ ts.length → SInv ts S d → spec_l06Down.l0 (k + d + 2) ts S (d : Int) = spec_l06Down.l1 k ts [mx (rd (readyTo ts (ts.length - 1)) 0) ((ts.getD 0 z69).f3)] 1 := by
  intro d
  induction d with
  | zero =>
    intro S hd ⟨hS, hi⟩
    have hq : 0 < ts.length := by omega
    have e := List.getElem?_eq_getElem hq
    have hf := hok.first _ e
    have h2 := hi 0 (Nat.le_refl _) _ e hf.2.2.2
    conv => lhs; unfold spec_l06Down.l0
    rw [if_pos (by omega), if_pos (by omega), if_pos (by omega), if_pos (by omega), rd_impl_Times hq, l00Max_eq]
    simp only [Option.bind_some]
    rw [if_neg (by omega), h2, w64 (by omega) (by omega)]
    conv => lhs; unfold spec_l06Down.l0
    rw [if_neg (by omega), if_pos (by rw [List.length_set]; omega), if_pos (by omega), l00Max_eq]
    simp only [Option.bind_some]
    rw [show ((0 : Nat) : Int).toNat = 0 from rfl, show (0 : Int) = ((0 : Nat) : Int) from rfl, rd_set_eq (by omega), rd_impl_Times hq, getD_in hq]
    rfl
  | succ d ih =>
    intro S hd ⟨hS, hi⟩
    have hq : d + 1 < ts.length := by omega
    have e := List.getElem?_eq_getElem hq
    have hs := hok.sign e
    have hlen := readyTo_len ts (ts.length - 1 - (d + 1))
    have hR : readyTo ts (ts.length - 1 - d) = if 0 ≤ (ts[d + 1]).f0 then (readyTo ts (ts.length - 1 - (d + 1))).set (ts[d + 1]).f0.toNat (mx (rd (readyTo ts (ts.length - 1 - (d + 1))) (ts[d + 1]).f0) (rd (readyTo ts (ts.length - 1 - (d + 1))) ((d + 1 : Nat) : Int))) else readyTo ts (ts.length - 1 - (d + 1)) := by
      rw [show ts.length - 1 - d = (ts.length - 1 - (d + 1)) + 1 by omega]
      simp only [readyTo]
      rw [show ts.length - 1 - (ts.length - 1 - (d + 1)) = d + 1 by omega, e]
    rw [show k + (d + 1) + 2 = (k + d + 2) + 1 by omega]
    conv => lhs; unfold spec_l06Down.l0
    rw [if_pos (by omega), if_pos (by omega), if_pos (by omega), if_pos (by omega), rd_impl_Times hq, l00Max_eq, Int.toNat_natCast]
    simp only [Option.bind_some]
    rw [w64 (n := ((d + 1 : Nat) : Int) - 1) (by omega) (by omega), show ((d + 1 : Nat) : Int) - 1 = (d : Int) by omega]
    by_cases c : 0 ≤ (ts[d + 1]).f0
    · have hreach : 0 ≤ (ts[d + 1]).f3 := by omega
      have h2 := hi (d + 1) (Nat.le_refl _) _ e hreach
      obtain ⟨q, hqf⟩ : ∃ q : Nat, (ts[d + 1]).f0 = (q : Int) := ⟨(ts[d + 1]).f0.toNat, by omega⟩
      have hqd : q < d + 1 := by
        rcases hok.later _ _ e (by omega) with h | h
        · rw [h] at c; exact absurd c (by decide)
        · omega
      rw [if_pos (by omega), if_pos c, if_pos (by omega), l00Max_eq, h2, hqf, Int.toNat_natCast]
      simp only [Option.bind_some]
      rw [rd_set_eq (by omega), rd_set_ne (by omega)]
      refine ih _ (by omega) ⟨by simp [hS], fun j hj t ht h3 => ?_⟩
      rw [hR, if_pos c, hqf, Int.toNat_natCast]
      by_cases ej : q = j
      · subst ej
        rw [rd_set_eq (by rw [List.length_set]; omega), rd_set_eq (by omega), ← hi q (by omega) t ht h3]
        exact mx_swap _ _ _
      · rw [rd_set_ne ej, rd_set_ne (by omega), rd_set_ne ej]
        exact hi j (by omega) t ht h3
    · rw [if_neg (by omega)]
      refine ih _ (by omega) ⟨by simp [hS], fun j hj t ht h3 => ?_⟩
      rw [hR, if_neg c, rd_set_ne (by omega)]
      exact hi j (by omega) t ht h3
theorem specDown1 (k : Nat) (ts : List Tm) (r0 : Int) (hok : TimesOK ts) (hl : ts.length ≤ 1048576) :
    ∀ d n, n + d = ts.length → 1 ≤ n → spec_l06Down.l1 (k + d + 1) ts (downTo ts r0 n) (n : Int) = some (downTo ts r0 ts.length) := by
  intro d
  induction d with
  | zero =>
    intro n hn h1
    unfold spec_l06Down.l1
    rw [if_neg (by omega), show n = ts.length by omega]
  | succ d ih =>
    intro n hn h1
    have hq : n < ts.length := by omega
    have e := List.getElem?_eq_getElem hq
    have hlen := downTo_len ts r0 n (by omega)
    rw [← ih (n + 1) (by omega) (by omega), show k + (d + 1) + 1 = (k + d + 1) + 1 by omega]
    conv => lhs; unfold spec_l06Down.l1
    rw [if_pos (by omega), if_pos (by omega), rd_impl_Times hq, w64 (n := (n : Int) + 1) (by omega) (by omega)]
    simp only [downTo, e]
    rw [if_neg (show ¬ n = 0 by omega)]
    by_cases c : (ts[n]).f3 < 0
    · rw [if_pos c, if_pos (by rw [hlen]; omega), if_pos c]
      rfl
    · have hf : 0 ≤ (ts[n]).f0 ∧ (ts[n]).f0 < (n : Int) := by
        rcases hok.later n _ e (by omega) with h | h
        · exfalso; apply c; rw [h]; decide
        · omega
      rw [if_neg c, if_pos hf.1, if_pos (by rw [hlen]; exact hf.2), if_pos (by rw [hlen]; omega), if_neg c]
      rfl
theorem specDown_eq (k : Nat) (line : List Sp) (v : ValidL line) (hk : 1000 < k) : spec_l06Down.f k line = some (downL (timesL (-1) 0 line)) := by
  have hlen := timesL_len (-1) 0 line
  have h1 := v.pos
  have h20 := v.most
  unfold spec_l06Down.f
  rw [v.specTimes (by omega)]
  simp only [Option.bind_some]
  generalize hts : timesL (-1) 0 line = ts at *
  have hok : TimesOK ts := hts ▸ v.timesOK
  rw [if_pos (by omega), if_pos (by omega)]
  obtain ⟨m, rfl⟩ : ∃ m, k = m + ((ts.length - 1 + 1) + (ts.length - 1 + 2)) := ⟨k - ((ts.length - 1 + 1) + (ts.length - 1 + 2)), by omega⟩
  have a0 := specDown0 (m + (ts.length - 1 + 1)) ts hok (by omega) (by omega) (ts.length - 1) (List.replicate (ts.length : Int).toNat 0) (by omega) ⟨by simp, fun j hj t ht h3 => by
    rw [show ts.length - 1 - (ts.length - 1) = 0 by omega]
    have hjl : j < ts.length := by omega
    have hb := (hok.sign ht).1
    rw [rd_nat (by simpa using hjl), rd_nat (by simpa [readyTo] using hjl)]
    simp only [readyTo, List.getElem_map, List.getElem_replicate]
    rw [List.getElem?_eq_getElem hjl] at ht
    cases ht
    unfold mx
    split <;> omega⟩
  have a1 := specDown1 m ts (mx (rd (readyTo ts (ts.length - 1)) 0) ((ts.getD 0 z69).f3)) hok (by omega) (ts.length - 1) 1 (by omega) (by omega)
  rw [w64 (by omega) (by omega), show (ts.length : Int) - 1 = ((ts.length - 1 : Nat) : Int) by omega]
  rw [show m + ((ts.length - 1 + 1) + (ts.length - 1 + 2)) = m + (ts.length - 1 + 1) + (ts.length - 1) + 2 by omega, a0]
  have hd1 : downTo ts (mx (rd (readyTo ts (ts.length - 1)) 0) ((ts.getD 0 z69).f3)) 1 = [mx (rd (readyTo ts (ts.length - 1)) 0) ((ts.getD 0 z69).f3)] := by
    simp only [downTo, List.getElem?_eq_getElem (show 0 < ts.length by omega)]
    rfl
  rw [hd1] at a1
  exact a1

end Go.Proofs.Ytclmedjighnkjaa.G.Pure
end

section
namespace Go.Proofs.Ytclmedjighnkjaa.G.Pure
open Go.RowKit Go.Proofs.Ytclmedjighnkjaa.G Go.Proofs.YtclmedjighnkjaaW.PrintWords Go.Proofs.YtclmedjighnkjaaW.PrintLast Go.Proofs.YtclmedjighnkjaaW.PrintMore
set_option linter.unusedVariables false
set_option linter.unusedSimpArgs false
/-! What all laws over lines begin with. -/
theorem szShipS_big {l : List (S62)} (hl : l.length ≤ 9223372036854775807) (h : ¬ l.length ≤ 1048576) : laws_szShipS.f l 1048576 = some (-1) := by
  rw [szShipS_eq _ _ (by omega) (by omega) hl, if_pos (by omega)]
theorem szShipS_small {l : List (S62)} (h : l.length ≤ 1048576) : ∃ n, laws_szShipS.f l 1048576 = some n ∧ ¬ n < 0 ∧ n = 1048576 - (l.length : Int) := by
  refine ⟨1048576 - l.length, ?_, by omega, rfl⟩
  rw [szShipS_eq _ _ (by omega) (by omega) (by omega), if_neg (by omega)]

end Go.Proofs.Ytclmedjighnkjaa.G.Pure
end

section
namespace Go.Proofs.Ytclmedjighnkjaa.G.Pure
open Go.RowKit Go.Proofs.Ytclmedjighnkjaa.G Go.Proofs.YtclmedjighnkjaaW.PrintWords Go.Proofs.YtclmedjighnkjaaW.PrintLast Go.Proofs.YtclmedjighnkjaaW.PrintMore
set_option linter.unusedVariables false
set_option linter.unusedSimpArgs false
theorem specMax (k : Nat) (l : List Int) (h0 : 1 ≤ l.length) (hl : l.length ≤ 1048576) (hk : l.length < k) : spec_LastDown.l0 k l (rd l 0) 1 = some (gmax l, 0) := by
  obtain ⟨r, hr, h⟩ := loop_inv (fun k (s : Int × Int) => spec_LastDown.l0 k l s.1 s.2) (l.length - 1) (fun i s => s.2 = ((i + 1 : Nat) : Int) ∧ s.1 = gmax (l.take (i + 1))) (fun r => r = (gmax l, 0))
    (fun k i s hi ⟨h1, h2⟩ => by
      obtain ⟨c, x⟩ := s
      simp only at h1 h2
      subst h1 h2
      refine .inl ⟨(gmax (l.take (i + 1 + 1)), ((i + 1 + 1 : Nat) : Int)), ⟨rfl, rfl⟩, ?_⟩
      have hg := gmax_snoc (l := l) (k := i + 1) (by omega) (by omega)
      simp only [hg, spec_LastDown.l0]
      rw [if_pos (by omega), if_pos (by omega), l00Max_eq, w64 (by omega) (by omega)]
      rfl)
    (fun k s ⟨h1, h2⟩ => by
      obtain ⟨c, x⟩ := s
      simp only at h1 h2
      subst h1 h2
      refine ⟨_, rfl, ?_⟩
      simp only [spec_LastDown.l0]
      rw [if_neg (by omega), List.take_of_length_le (by omega)]) k (rd l 0, 1) ⟨rfl, by
        rcases l with _ | ⟨x, xs⟩
        · simp at h0
        · simp [gmax, rd]⟩ (by omega)
  subst hr
  exact h
def resLastDown (line : List Sp) : Int × Int := if validB line = true then (gmax (downL (timesL (-1) 0 line)), 0) else (0, 1)
theorem specLastDown_eq {k : Nat} {line : List Sp} (hw : ∀ x ∈ line, wfShip x) (hl : line.length ≤ 1048576) (hk : 1099000 < k) : spec_LastDown.f k line = some (resLastDown line) := by
  unfold spec_LastDown.f resLastDown
  rw [specOk_eq k line hw hl (by omega)]
  simp only [Option.bind_some]
  split
  · rename_i h
    have v := (validB_iff hw).1 h
    have h1 := v.pos
    have h2 := v.most
    rw [specDown_eq k line v (by omega)]
    simp only [Option.bind_some]
    have hlen : (downL (timesL (-1) 0 line)).length = line.length := by rw [downL_len, timesL_len]
    rw [if_pos (by omega), specMax k _ (by omega) (by omega) (by omega)]
  · rfl
theorem implLastDown_eq {k : Nat} {line : List Sp} (hw : ∀ x ∈ line, wfShip x) (hk : 1099000 < k) : impl_LastDown.f k line = some (resLastDown line) := by
  unfold impl_LastDown.f resLastDown
  rw [implValid_eq]
  simp only [Option.bind_some]
  split
  · rename_i h
    have v := (validB_iff hw).1 h
    have h1 := v.pos
    have hlen : (downL (timesL (-1) 0 line)).length = line.length := by rw [downL_len, timesL_len]
    rw [implHauled_eq k line v (by omega)]
    simp only [Option.bind_some]
    unfold slices_Max_int64_int64.f
    rw [if_pos (by omega)]
    rfl
  · rfl
theorem FnExactLastDown (l0 : List (S62)) (h00 : l0.length ≤ 9223372036854775807) (h01 : (∀ x ∈ l0, (Lit.int .i8 x.f0).wf = true ∧ (Lit.int .i8 x.f1).wf = true ∧ (Lit.int .i8 x.f2).wf = true)) : ∃ k, laws_FnExactLastDown.f k l0 = some true := by
  by_cases hL : l0.length ≤ 1048576
  · obtain ⟨n, hn, hn0, hn1⟩ := szShipS_small hL
    obtain ⟨k, hk⟩ : ∃ k, 1100000 < k := ⟨_, Nat.lt_succ_self _⟩
    refine ⟨k + 3, ?_⟩
    have hw := wf_map h01
    have hL' : (l0.map shipOf).length ≤ 1048576 := by simpa using hL
    have e1 := fun j => toShipS_eq (k + j) l0 hL (by omega)
    have q1 := fun j => eqShipS_self (k + j) (l0.map shipOf) hL' (by omega)
    have s1 := fun j => specLastDown_eq (k := k + j) hw hL' (by omega)
    have i1 := fun j => implLastDown_eq (k := k + j) hw (by omega)
    unfold laws_FnExactLastDown.f
    rw [hn]
    simp only [Option.bind_some]
    rw [if_neg hn0]
    simp [laws_FnExactLastDown.j0, e1, q1, s1, i1]
  · refine ⟨0, ?_⟩
    unfold laws_FnExactLastDown.f
    rw [szShipS_big h00 hL]
    rfl

end Go.Proofs.Ytclmedjighnkjaa.G.Pure
end

section

end
