/- FnNoted: for every input the law returns true, and what came in reads as it did. No condition. -/
import Derived.Test.YtmcfbnglocojkabGreatDoorCards
import Derived.Test.YtmcfbnglocojkabGreatDoorTie
import Derived.WalkKit
import Derived.ProofKit
import Derived.OpenShut
import Derived.ShutString
import Derived.ChangeOld
import Derived.Below
import Derived.SizedLaws
import Derived.LaidMore
import Derived.SevenTiedAt
import Derived.Handed
import Derived.LaidLaws
import Derived.Lay
import Derived.Lib.LaidTab
import Derived.Stop.LaidErr
import Derived.Stop.Joined
import Derived.Test.YtmcfbnglocojkabGreatDoorMFnNoted0
import Derived.Test.YtmcfbnglocojkabGreatDoorMFnNoted1
import Derived.Test.YtmcfbnglocojkabGreatDoorMFnNoted2
import Derived.Test.YtmcfbnglocojkabGreatDoorMFnNoted3
import Derived.Test.YtmcfbnglocojkabGreatDoorMFnNoted4
namespace Go.Proofs.YtmcfbnglocojkabGreatDoor.fnNoted
open Go.ChangeShapes Go.WideShapes Go.ChangeAt Go.RowKit Go.Proofs.YtmcfbnglocojkabGreatDoorW.PrintWords
open Go.ChangeMaps (open_string shut_string)
set_option linter.unusedVariables false
theorem own : ownKnob Tryz.prog.godebug = none := by kernel_rfl
theorem laidOut : laidOutB Tryz.prog = true := by kernel_rfl
abbrev laidL : List (String × DataW Unit) := [("math/bits.deBruijn32tab", Rows.laid_math_bits_deBruijn32tab), ("math/bits.deBruijn64tab", Rows.laid_math_bits_deBruijn64tab), ("internal/strconv.uint64pow10", Rows.laid_internal_strconv_uint64pow10), ("unicode/utf8.acceptRanges", Rows.laid_unicode_utf8_acceptRanges), ("strconv.ErrRange", Rows.laid_strconv_ErrRange), ("strconv.ErrSyntax", Rows.laid_strconv_ErrSyntax), ("unicode/utf8.first", Rows.laid_unicode_utf8_first)]
theorem err_star : "*" ++ "errors.errorString" = "*errors.errorString" := by decide
theorem row_err (u : TypeId) (h : Tryz.prog.typeName? 3 u = some "*errors.errorString") : u = 139 :=
  typeName_ptr_named (nm := "errors.errorString") (by rw [err_star]; kernel_rfl) (by kernel_rfl) (by decide) u (by rw [err_star]; exact h)
theorem env_of {W : World} (h : laidMetH Tryz.prog laidL W) (hs : W.ShapedOpen Tryz.prog) : G.Env W := by
  rw [MakeChecks.laidMetH_plain _ _ _ (by kernel_rfl)] at h
  have hL := h
  have e0 : ∀ w', Below W.heap.size W w' → (Lib.TabIs Tryz.prog w' "internal/strconv.uint64pow10" .u64 Lib.pow10Tab) := fun w' hb => Lib.tabBelow_of_tabIs (Lib.tabIs_of_head (g := 3) (t := 129) (e := 85) (n := 20) (by kernel_rfl) (by kernel_rfl) Tryz.underlying129 Tryz.underlying85 (by kernel_rfl) (by kernel_rfl) hL.tail.tail) w' hb
  have e1 : ∀ w', Below W.heap.size W w' → (∃ tp p, w'.var? Tryz.prog "strconv.ErrSyntax" = some #[.iface tp p]) := fun w' hb => by obtain ⟨a, s, hv, _⟩ := laid_sentinel (g := 1) (ti := 61) (tp := 139) (te := 141) (ts := 9) hL.tail.tail.tail.tail.tail (by kernel_rfl) (by kernel_rfl) Tryz.underlying61 (row_err) Tryz.underlying139 Tryz.underlying141 rfl rfl Tryz.underlying9 (by kernel_rfl) (by kernel_rfl); exact ⟨_, _, G.var_below hv hb⟩
  have e2 : ∀ w', Below W.heap.size W w' → (∃ tp p, w'.var? Tryz.prog "strconv.ErrRange" = some #[.iface tp p]) := fun w' hb => by obtain ⟨a, s, hv, _⟩ := laid_sentinel (g := 2) (ti := 61) (tp := 139) (te := 141) (ts := 9) hL.tail.tail.tail.tail (by kernel_rfl) (by kernel_rfl) Tryz.underlying61 (row_err) Tryz.underlying139 Tryz.underlying141 rfl rfl Tryz.underlying9 (by kernel_rfl) (by kernel_rfl); exact ⟨_, _, G.var_below hv hb⟩
  have e3 : ∀ w', Below W.heap.size W w' → (∃ m, w'.cell? ⟨0, 0, none⟩ = some (.int .i64 m)) := fun w' hb => by obtain ⟨m, hm⟩ := (Tryz.laysM146.s1_3 W hs); exact ⟨m, (hb.cell (World.block_lt_of_cell? _ _ hm)).trans hm⟩
  exact fun w' hb => ⟨e0 w' hb, e1 w' hb, e2 w' hb, e3 w' hb⟩
set_option maxRecDepth 100000 in
theorem lifted (os : Os) (started : os.Started) (H : Type) (enc : TypeId × Value → H) :
    ReturnsInHanded {} Tryz.checked os 3 .any (fun w args => (Rows.fnNotedSpec.pre enc Tryz.prog Tryz.f3 Rows.fnNotedRow.domain false w args ∧ laidMetH Tryz.prog laidL w) ∧ sizedMet enc Tryz.prog Tryz.f3 (OpenSpec.ofChange Rows.fnNotedSpec) false w args) (Rows.fnNotedSpec.post enc Tryz.prog Tryz.f3 false true false false) := by
  have contract : ∀ (W : World) (base : Nat) (args : Array Value) (ds gs : List (DataW H)) (before : List MemPlace), (∀ (j : Nat) t v, Tryz.f3.params[j]? = some t → args[j]? = some v → Value.okWide Tryz.prog W .any base t v) → DataW.Whole enc Tryz.prog Tryz.f3.params.toList Rows.fnNotedSpec.vars false W args.toList ds gs before → (DataW.weightsEach Tryz.prog (Tryz.f3.params.toList ++ Rows.fnNotedSpec.plain.varTypes Tryz.prog) (ds ++ gs)).all (· ≤ reachBytes) = true → laidMetH Tryz.prog laidL W → W.ShapedOpen Tryz.prog →
      Calls Tryz.prog 3 args W fun e W' => ∃ v, e = .returned v ∧ Rows.fnNotedSpec.post enc Tryz.prog Tryz.f3 false true false false W args v W' := by
    intro W base args ds gs before hval0 hW hsz0 hL0 hshp
    have henv := env_of hL0 hshp
    have hsz : (DataW.weightsEach Tryz.prog (Tryz.f3.params.toList ++ Rows.fnNotedSpec.plain.varTypes Tryz.prog) (ds ++ gs)).all (· ≤ reachBytes) = true := hsz0
    have hval : ∀ (j : Nat) t v, Tryz.f3.params[j]? = some t → args[j]? = some v → Value.okWide Tryz.prog W .any base t v := hval0
    have hW' := hW
    obtain ⟨p, q, hA0, hV, rfl, hfz, hnd⟩ := hW
    have hA : DataW.TrodAll enc Tryz.prog W 0 (fun _ => true) true Tryz.f3.params.toList args.toList ds p := hA0
    rw [Tryz.params3] at hA hval hsz
    obtain ⟨v0, vs0, d0, ds0, p0, q0, hargs, rfl, rfl, h0, r0⟩ := trodAll_cons hA
    obtain ⟨v1, vs1, d1, ds1, p1, q1, rfl, rfl, rfl, h1, r1⟩ := trodAll_cons r0
    obtain ⟨rfl, rfl, rfl⟩ := trodAll_nil r1
    obtain rfl : args = #[v0, v1] := by cases args; simp_all
    obtain ⟨rfl, rfl⟩ := trodVars_none hV
    obtain ⟨a0, len0, cap0, rfl⟩ := okWide_slice Tryz.underlying22 (hval 0 22 v0 rfl rfl)
    have k0 := h0
    have lt0 : ∀ x ∈ p0, x.block < W.heap.size := by obtain ⟨m, hm⟩ := k0; exact DataW.trod_lt m _ _ _ hm
    obtain ⟨l0, e0, hc0, hr0, hw0⟩ : ∃ l : List Int, len0 = l.length ∧ l.length ≤ cap0 ∧ Kd.C (Kd.int .u8) W a0 l.length l ∧ (∀ x ∈ l, (Lit.int .u8 x).wf = true) := by
      obtain ⟨m, hm⟩ := h0
      obtain ⟨l, ⟨A', c', e, hl, hC⟩, hw⟩ := G.op22.op hm
      simp [Value.cells] at e
      obtain ⟨rfl, rfl, rfl⟩ := e
      exact ⟨l, rfl, hl, hC, hw.2⟩
    subst e0
    obtain ⟨a1, len1, cap1, rfl⟩ := okWide_slice Tryz.underlying22 (hval 1 22 v1 rfl rfl)
    have k1 := h1
    have lt1 : ∀ x ∈ p1, x.block < W.heap.size := by obtain ⟨m, hm⟩ := k1; exact DataW.trod_lt m _ _ _ hm
    obtain ⟨l1, e1, hc1, hr1, hw1⟩ : ∃ l : List Int, len1 = l.length ∧ l.length ≤ cap1 ∧ Kd.C (Kd.int .u8) W a1 l.length l ∧ (∀ x ∈ l, (Lit.int .u8 x).wf = true) := by
      obtain ⟨m, hm⟩ := h1
      obtain ⟨l, ⟨A', c', e, hl, hC⟩, hw⟩ := G.op22.op hm
      simp [Value.cells] at e
      obtain ⟨rfl, rfl, rfl⟩ := e
      exact ⟨l, rfl, hl, hC, hw.2⟩
    subst e1
    clear hA0 hval0 hsz0 hsz
    obtain ⟨k, hk⟩ := G.Pure.FnNoted l0 l1 hr0.2.1 hw0 hr1.2.1 hw1
    refine (G.laws_FnNoted.callsT k _ _ l0 _ _ l1 W hr0 hc0 hr1 hc1 henv hk).mono fun e W' ⟨he, bel0⟩ => ?_
    have bel : Below W.heap.size W W' := bel0
    subst he
    exact ⟨_, rfl, _, _, _, [], _, [], hW', trodAll_mk1 (shut_bool Tryz.underlying4 _), (trodAll_cons_mk (Below.trod laidOut (by kernel_rfl) (of_decide_eq_true (by kernel_rfl)) k0 bel lt0) (trodAll_cons_mk (Below.trod laidOut (by kernel_rfl) (of_decide_eq_true (by kernel_rfl)) k1 bel lt1) trodAll_mk0)), rfl, bel.frame _, fun h => by cases h⟩
  refine returnsInHanded_of_calls own started (by kernel_rfl) (ChangeSpec.witness_shaped (enc := enc) (C := Tryz.checked) (os := os) (X := fun w _ => laidMetH Tryz.prog laidL w) false (World.laidAll Tryz.prog os laidL) #[.slice none 0 0, .slice none 0 0] 8 (World.laidAll_os _ _ _) (World.shaped_of_ZipB (by kernel_rfl) (by kernel_rfl)) (by kernel_rfl) (by kernel_rfl) (by kernel_rfl) (by rw [MakeChecks.laidMetH_plain _ _ _ (by kernel_rfl)]; exact laidMet_laidAll _ (by kernel_rfl) (by kernel_rfl))) ?_
  intro w tape i _ hsh _ hok hpre hholds
  obtain ⟨_, _, _, fn', hfn', _, _, _, _, hval⟩ := hok
  obtain rfl : fn' = Tryz.f3 := Option.some.inj (hfn'.symm.trans Tryz.func3)
  obtain ⟨⟨⟨ds, gs, before, hw, hc⟩, hx⟩, hz⟩ := hpre
  refine (contract (w.forCall tape i) w.heap.size i.args ds gs before hval (DataW.Whole.of_heap (w' := w.forCall tape i) (by rfl) hw) (hz.weights hw) (hx.of_heap (by rfl)) hsh).mono fun e W' ⟨v, he, hp⟩ => ?_
  subst he
  exact ChangeSpec.post_blind hp
set_option maxHeartbeats 4000000 in
theorem joined : joinedFacts Tryz.pinned.checked.prog 3 Tryz.f3 Rows.fnNotedSpec Rows.fnNotedRow = true := by
  unfold joinedFacts
  simp only [Bool.and_eq_true]
  refine ⟨⟨⟨⟨⟨⟨⟨⟨⟨⟨⟨⟨⟨⟨⟨⟨⟨⟨⟨⟨⟨⟨⟨⟨⟨⟨⟨⟨⟨⟨⟨?_, ?_⟩, ?_⟩, ?_⟩, ?_⟩, ?_⟩, ?_⟩, ?_⟩, ?_⟩, ?_⟩, ?_⟩, ?_⟩, ?_⟩, ?_⟩, ?_⟩, ?_⟩, ?_⟩, ?_⟩, ?_⟩, ?_⟩, ?_⟩, ?_⟩, ?_⟩, ?_⟩, ?_⟩, ?_⟩, ?_⟩, ?_⟩, ?_⟩, ?_⟩, ?_⟩, ?_⟩
  all_goals (as_aux_lemma => kernel_rfl)
theorem over : Rows.fnNotedRow.holds Tryz.pinned (OpenSpec.ofChange Rows.fnNotedSpec) :=
  OpenClaim.holds_of_wide 3 Tryz.f3 rfl rfl rfl rfl rfl rfl rfl ⟨rfl, rfl, rfl, rfl, rfl⟩ rfl rfl rfl rfl rfl (by kernel_rfl) Tryz.func3 joined
    (of_decide_eq_true (by kernel_rfl)) (by unfold Func.isWrapper; first | (rw [if_pos (by decide +kernel)]; kernel_rfl) | (rw [if_neg (by decide +kernel)]; exact ⟨rfl, rfl⟩))
    (fun os started H enc _ => lifted os started H enc)
theorem proved : Rows.FnNotedSaid := over
end Go.Proofs.YtmcfbnglocojkabGreatDoor.fnNoted
namespace Go.Proofs.YtmcfbnglocojkabGreatDoor
theorem fnNoted_holds : Rows.FnNotedCardSaid :=
  Claim7.holds_tied_plain_at .later [] [.data, .data, .data, .data, .sentinel, .sentinel, .pinned] true (true, "b87b1eabe0ca70ffedb273b09cc5a0d17332086edc84fbdf78894b3d369c903b") true fnNoted.proved (fun _ h => by cases h) (by kernel_rfl) (fun _ h => by cases h) fnNoted_row_tie rfl ⟨rfl, rfl⟩ (by kernel_rfl) rfl
    (fun f fn hf hfn => by
      obtain rfl : f = 3 := Option.some.inj ((show Tryz.prog.funcNamed Rows.fnNotedRow.func = some 3 by kernel_rfl).symm.trans hf) |>.symm
      obtain rfl : fn = Tryz.f3 := (Option.some.inj (Tryz.func3.symm.trans hfn)).symm
      exact ⟨by kernel_rfl, fun j t ht => by
        rw [Tryz.params3] at ht
        have hm : t ∈ [22, 22] := by simpa using Array.mem_of_getElem? ht
        have hall : ([22, 22].all fun u => !Tryz.prog.wantsStandIn u) = true := by kernel_rfl
        exact (show Tryz.prog.wantsStandIn t = false by simpa using List.all_eq_true.1 hall t hm)⟩)
    (by kernel_rfl)
#print axioms fnNoted_holds
end Go.Proofs.YtmcfbnglocojkabGreatDoor
