/- Plain lemmas over lists and numbers. -/
import Derived.Test.YtclmedjighnkjaaPBase
import Derived.Test.YtclmedjighnkjaaG0base
import Derived.Test.YtclmedjighnkjaaGlawseqShip
import Derived.Test.YtclmedjighnkjaaGlawseqShipS
import Derived.Test.YtclmedjighnkjaaGlawsmarkShipS
import Derived.Test.YtclmedjighnkjaaGlawsszShipS
import Derived.Test.YtclmedjighnkjaaGlawstoShip
import Derived.Test.YtclmedjighnkjaaGlawstoShipS
namespace Go.Proofs.Ytclmedjighnkjaa.G.Pure
open Go.RowKit Go.Proofs.Ytclmedjighnkjaa.G Go.Proofs.YtclmedjighnkjaaW.PrintWords Go.Proofs.YtclmedjighnkjaaW.PrintLast Go.Proofs.YtclmedjighnkjaaW.PrintMore
set_option linter.unusedVariables false
set_option linter.unusedSimpArgs false
/-! What the laws' own helpers come to over ships. -/
def shipOf (x : S62) : S60 := ⟨x.f0, x.f1, x.f2⟩
theorem szShipS_eq (l : List (S62)) (a : Int) (h0 : 0 ≤ a) (h1 : a ≤ 1048576) (hl : l.length ≤ 9223372036854775807) : laws_szShipS.f l a = some (if a - l.length < 0 then -1 else a - l.length) := by
  unfold laws_szShipS.f
  rw [w64 (by omega) (by omega)]
  split <;> rfl
theorem rd_laws_Ship {l : List (S62)} {i : Nat} (h : i < l.length) : rd_T62 l (i : Int) = l[i] := by
  simp [rd_T62, List.getD_eq_getElem?_getD, List.getElem?_eq_getElem h]
theorem rd_impl_Ship {l : List (S60)} {i : Nat} (h : i < l.length) : rd_T60 l (i : Int) = l[i] := by
  simp [rd_T60, List.getD_eq_getElem?_getD, List.getElem?_eq_getElem h]
theorem toShipS_eq (k : Nat) (l : List (S62)) (hl : l.length ≤ 1048576) (hk : l.length < k) : laws_toShipS.f k l = some (l.map shipOf) := by
  unfold laws_toShipS.f
  rw [if_pos (by omega), if_pos (by omega)]
  obtain ⟨r, hr, h⟩ := loop_inv (fun k (s : List (S60) × Int) => laws_toShipS.l0 k l s.1 s.2) l.length (fun i s => s.2 = (i : Int) ∧ s.1.length = l.length ∧ s.1.take i = (l.map shipOf).take i) (fun r => r = l.map shipOf)
    (fun k i s hi ⟨h1, h2, h3⟩ => by
      obtain ⟨acc, x⟩ := s
      simp only at h1 h2 h3
      subst h1
      refine .inl ⟨(acc.set i (shipOf l[i]), ((i + 1 : Nat) : Int)), ⟨rfl, by simpa using h2, ?_⟩, ?_⟩
      · rw [take_set_succ (by omega), h3, List.take_succ_eq_append_getElem (by simpa using hi)]
        simp
      · simp only [laws_toShipS.l0]
        rw [if_pos (by omega), if_pos (by omega), rd_laws_Ship hi]
        simp only [laws_toShip.f, Option.bind_some]
        rw [if_pos (by omega), w64 (by omega) (by omega)]
        rfl)
    (fun k s ⟨h1, h2, h3⟩ => by
      obtain ⟨acc, x⟩ := s
      simp only at h1 h2 h3
      subst h1
      refine ⟨acc, ?_, ?_⟩
      · rw [List.take_of_length_le (by omega), List.take_of_length_le (by simp)] at h3
        exact h3
      · simp only [laws_toShipS.l0]
        rw [if_neg (by omega)]) k (List.replicate l.length z60, 0) ⟨rfl, by simp, by simp⟩ hk
  subst hr
  simpa using h
theorem eqShip_self (a : S60) : laws_eqShip.f a.f0 a.f1 a.f2 a.f0 a.f1 a.f2 = some true := by
  simp [laws_eqShip.f]
theorem eqShipS_self (k : Nat) (a : List (S60)) (hl : a.length ≤ 1048576) (hk : a.length < k) : laws_eqShipS.f k a a = some true := by
  unfold laws_eqShipS.f
  rw [if_pos rfl]
  obtain ⟨r, hr, h⟩ := loop_inv (fun k (s : Int) => laws_eqShipS.l0 k a a s) a.length (fun i s => s = (i : Int)) (fun r => r = true)
    (fun k i s hi h1 => by
      subst h1
      refine .inl ⟨((i + 1 : Nat) : Int), rfl, ?_⟩
      simp only [laws_eqShipS.l0]
      rw [if_pos (by omega), if_pos (by omega), if_pos (by omega), eqShip_self]
      simp only [Option.bind_some, if_true]
      rw [w64 (by omega) (by omega)]
      rfl)
    (fun k s h1 => by
      subst h1
      refine ⟨true, rfl, ?_⟩
      simp only [laws_eqShipS.l0]
      rw [if_neg (by omega)]) k 0 rfl hk
  subst hr
  exact h
/-- Writing over what came in: the number behind it is positive. -/
theorem markShipS_pos (k : Nat) (a : List (S60)) (hl : a.length ≤ 1048576) (hk : a.length < k) : ∃ r, laws_markShipS.f k a 1 = some r ∧ 0 ≤ r.1 := by
  unfold laws_markShipS.f
  obtain ⟨r, hr, h⟩ := loop_inv (fun k (s : List (S60) × Int × Int) => laws_markShipS.l0 k s.1 s.2.1 s.2.2) a.length (fun i s => s.2.2 = (i : Int) ∧ s.2.1 = 1 + 3 * (i : Int) ∧ s.1.length = a.length) (fun r => 0 ≤ r.1)
    (fun k i s hi ⟨h1, h2, h3⟩ => by
      obtain ⟨acc, m, x⟩ := s
      simp only at h1 h2 h3
      subst h1 h2
      refine .inl ⟨(?acc, 1 + 3 * ((i + 1 : Nat) : Int), ((i + 1 : Nat) : Int)), ⟨rfl, rfl, ?len⟩, ?eq⟩
      case eq =>
        simp only [laws_markShipS.l0]
        rw [if_pos (by omega), if_pos (by omega)]
        simp only [Option.bind_some]
        rw [w64 (n := (i : Int) + 1) (by omega) (by omega), w64 (n := 1 + 3 * (i : Int) + 1) (by omega) (by omega), w64 (n := 1 + 3 * (i : Int) + 1 + 1) (by omega) (by omega), w64 (n := 1 + 3 * (i : Int) + 1 + 1 + 1) (by omega) (by omega)]
        rw [show 1 + 3 * (i : Int) + 1 + 1 + 1 = 1 + 3 * ((i + 1 : Nat) : Int) by omega]
        rfl
      case len => simp [h3])
    (fun k s ⟨h1, h2, h3⟩ => by
      obtain ⟨acc, m, x⟩ := s
      simp only at h1 h2 h3
      subst h1 h2
      refine ⟨(1 + 3 * (a.length : Int), acc), by show 0 ≤ 1 + 3 * (a.length : Int); omega, ?_⟩
      simp only [laws_markShipS.l0]
      rw [if_neg (by omega)]) k (a, 1, 0) ⟨rfl, rfl, rfl⟩ hk
  exact ⟨r, h, hr⟩

end Go.Proofs.Ytclmedjighnkjaa.G.Pure
