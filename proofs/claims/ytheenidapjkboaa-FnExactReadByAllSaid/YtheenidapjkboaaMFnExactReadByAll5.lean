/- The law's functions, their contracts, and the plain lemmas: texts of this claim, laid together. -/
import Derived.Test.YtheenidapjkboaaMFnExactReadByAll0
import Derived.Test.YtheenidapjkboaaMFnExactReadByAll1
import Derived.Test.YtheenidapjkboaaMFnExactReadByAll2
import Derived.Test.YtheenidapjkboaaMFnExactReadByAll3
import Derived.Test.YtheenidapjkboaaMFnExactReadByAll4
section
namespace Go.Proofs.Ytheenidapjkboaa.G.Pure
open Go.RowKit Go.Proofs.Ytheenidapjkboaa.G Go.Proofs.YtheenidapjkboaaW.PrintWords Go.Proofs.YtheenidapjkboaaW.PrintLast Go.Proofs.YtheenidapjkboaaW.PrintMore
set_option linter.unusedVariables false
set_option linter.unusedSimpArgs false
def wfF (l : List Ft) : Prop := ∀ x ∈ l,(Lit.int .i8 x.f0).wf = true ∧ (Lit.int .i8 x.f1).wf = true ∧ (Lit.int .i8 x.f2).wf = true
def faultOk (n : Nat) (h : List Int) (f : Ft) : Bool := decide (1 ≤ f.f0 ∧ f.f0 ≤ (n : Int) - 1) && (decide (0 ≤ f.f1 ∧ f.f1 ≤ (h.length : Int) - 1) && (decide (0 ≤ f.f2 ∧ f.f2 ≤ 39) && decide (0 ≤ rd h f.f1)))
def dupF (l : List Ft) (i : Nat) : Bool := (l.take i).any fun g => g.f0 == (rd_T144 l (i : Int)).f0
def badF (n : Nat) (h : List Int) (l : List Ft) (i : Nat) : Bool := dupF l i || !faultOk n h (rd_T144 l (i : Int))
def faultsOk (n : Nat) (h : List Int) (l : List Ft) : Bool := decide (l.length ≤ 20) && (List.range l.length).all fun i => !badF n h l i
theorem wfF_at {l : List Ft} (hw : wfF l) {i : Nat} (hi : i < l.length) : -128 ≤ (rd_T144 l (i : Int)).f0 ∧ (rd_T144 l (i : Int)).f0 ≤ 127 ∧ -128 ≤ (rd_T144 l (i : Int)).f1 ∧ (rd_T144 l (i : Int)).f1 ≤ 127 ∧ -128 ≤ (rd_T144 l (i : Int)).f2 ∧ (rd_T144 l (i : Int)).f2 ≤ 127 := by
 rw [rd_impl_Fault hi]
 have := hw _ (List.getElem_mem hi)
 have a := i8b this.1
 have b := i8b this.2.1
 have c := i8b this.2.2
 omega
theorem faultsOk_false {n : Nat} {h : List Int} {l : List Ft} {i : Nat} (hi : i < l.length) (hb : badF n h l i = true) : faultsOk n h l = false := by
 unfold faultsOk
 rw [Bool.and_eq_false_iff]
 right
 rw [List.all_eq_false]
 exact ⟨i,List.mem_range.2 hi,by simp [hb]⟩
theorem faultsOk_end {n : Nat} {h : List Int} {l : List Ft} (hb : ∀ j,j < l.length → badF n h l j = false) : faultsOk n h l = decide (l.length ≤ 20) := by
 unfold faultsOk
 rw [List.all_eq_true.2 fun j hj => by rw [hb j (List.mem_range.1 hj)];rfl,Bool.and_true]
set_option maxHeartbeats 1000000 in
theorem implAre {k : Nat} {line : List Sp} {h : List Int} {l : List Ft} (hw : wfF l) (hn : line.length ≤ 1048576) (hh : h.length ≤ 1048576) (hl : l.length ≤ 1048576) (hk : l.length < k) : impl_areFaults.f k line h l = some (faultsOk line.length h l) := by
 unfold impl_areFaults.f
 obtain ⟨r,hr,h'⟩ := loop_inv (fun k (s : Int) => impl_areFaults.l0 k line h l l (l.length : Int) s) l.length (fun i s => s = (i : Int) ∧ ∀ j,j < i → badF line.length h l j = false) (fun r => r = faultsOk line.length h l)
  (fun k i s hi ⟨h1,h2⟩ => by
   subst h1
   have hb := wfF_at hw hi
   simp only [impl_areFaults.l0]
   rw [if_pos (by omega),if_pos (by omega),if_pos (by omega),if_pos (by omega),Int.toNat_natCast]
   rw [slices_ContainsFunc_Fault_Fault__impl_areFaults_1.f,anyO_eq (p := fun x : Ft => impl_areFaults_1.f x.f0 x.f1 x.f2 (rd_T144 l (i : Int)).f0 (rd_T144 l (i : Int)).f1 (rd_T144 l (i : Int)).f2) (q := fun x : Ft => x.f0 == (rd_T144 l (i : Int)).f0) (fun x _ => rfl)]
   simp only [Option.bind_some]
   have hst : badF line.length h l i = true → false = faultsOk line.length h l := fun hb => (faultsOk_false hi hb).symm
   have hgo : badF line.length h l i = false → ∃ s' : Int,(s' = ((i + 1 : Nat) : Int) ∧ ∀ j,j < i + 1 → badF line.length h l j = false) ∧ impl_areFaults.l0 k line h l l (l.length : Int) ((i : Int) + 1) = impl_areFaults.l0 k line h l l (l.length : Int) s' := fun hb => ⟨_,⟨rfl,fun j hj => by
    rcases Nat.lt_succ_iff_lt_or_eq.1 hj with e | e
    ·exact h2 j e
    ·subst e;exact hb⟩,by rw [show ((i + 1 : Nat) : Int) = (i : Int) + 1 by omega]⟩
   have hd : ((l.take i).any fun g => g.f0 == (rd_T144 l (i : Int)).f0) = dupF l i := rfl
   rw [hd]
   unfold badF at hst hgo
   cases hdu : dupF l i with
   | true =>
    rw [if_pos rfl]
    exact .inr ⟨false,hst (by rw [hdu];rfl),rfl⟩
   | false =>
    rw [hdu,Bool.false_or] at hst hgo
    rw [if_neg (by simp)]
    generalize rd_T144 l (i : Int) = f at *
    simp only [impl_size_Ship.f,impl_size_int8.f,Option.bind_some,within8]
    rw [w64 (n := f.f0) (by omega) (by omega),w64 (n := f.f1) (by omega) (by omega),w64 (n := (line.length : Int) - 1) (by omega) (by omega),w64 (n := (h.length : Int) - 1) (by omega) (by omega),kind_eq _ (by omega) (by omega),w64 (n := (i : Int) + 1) (by omega) (by omega)]
    simp only [Option.bind_some]
    unfold faultOk at hst hgo
    by_cases c1 : 1 ≤ f.f0 ∧ f.f0 ≤ (line.length : Int) - 1
    ·rw [decide_eq_true c1,Bool.true_and] at hst hgo
     rw [if_pos (by simp [c1])]
     by_cases c2 : 0 ≤ f.f1 ∧ f.f1 ≤ (h.length : Int) - 1
     ·rw [decide_eq_true c2,Bool.true_and] at hst hgo
      rw [if_pos (by simp [c2]),if_pos c2.1,if_pos (by omega)]
      by_cases c4 : rd h f.f1 < 0
      ·rw [if_pos c4]
       exact .inr ⟨false,hst (by rw [decide_eq_false (p := 0 ≤ rd h f.f1) (by omega),Bool.and_false];rfl),rfl⟩
      ·rw [if_neg c4]
       rw [decide_eq_true (p := 0 ≤ rd h f.f1) (by omega),Bool.and_true] at hst hgo
       by_cases c3 : 0 ≤ f.f2 ∧ f.f2 ≤ 39
       ·rw [if_pos (by simp [c3])]
        exact .inl (hgo (by simp [c3]))
       ·rw [if_neg (by simpa using c3)]
        exact .inr ⟨false,hst (by rw [decide_eq_false c3];rfl),rfl⟩
     ·rw [if_neg (by simpa using c2)]
      exact .inr ⟨false,hst (by rw [decide_eq_false c2];rfl),rfl⟩
    ·rw [if_neg (by simpa using c1)]
     exact .inr ⟨false,hst (by rw [decide_eq_false c1];rfl),rfl⟩)
  (fun k s ⟨h1,h2⟩ => by
   subst h1
   refine ⟨_,rfl,?_⟩
   simp only [impl_areFaults.l0]
   rw [if_neg (by omega),faultsOk_end h2]
   congr 1
   rw [decide_eq_decide]
   omega) k 0 ⟨rfl,fun j h => absurd h (Nat.not_lt_zero _)⟩ hk
 subst hr
 exact h'
theorem specDup {line : List Sp} {h : List Int} {l : List Ft} {i : Nat} (hi : i < l.length) (hl : l.length ≤ 20) (K : Nat) (b c : Int) : ∀ d j,j + d = i → ((∀ x,x < j → (rd_T144 l (x : Int)).f0 ≠ (rd_T144 l (i : Int)).f0) → spec_l06Faults.l1 (K + d + 1) line h l (i : Int) (j : Int) (rd_T144 l (i : Int)).f0 b c = if dupF l i = true then some false else spec_l06Faults.l0 K line h l ((i : Int) + 1)) := by
 intro d
 induction d with
 | zero =>
  intro j hj hx
  obtain rfl : j = i := by omega
  simp only [spec_l06Faults.l1,Nat.add_zero]
  rw [if_neg (by omega),w64 (by omega) (by omega),if_neg]
  intro hd
  unfold dupF at hd
  obtain ⟨g,hg,he⟩ := List.any_eq_true.1 hd
  obtain ⟨x,hx1,rfl⟩ := List.mem_iff_getElem.1 hg
  rw [List.length_take] at hx1
  rw [List.getElem_take] at he
  have := hx x (by omega)
  rw [rd_impl_Fault (by omega : x < l.length)] at this
  exact this (by simpa using he)
 | succ d ih =>
  intro j hj hx
  have hjl : j < l.length := by omega
  rw [show K + (d + 1) + 1 = (K + d + 1) + 1 by omega]
  generalize hK : K + d + 1 = K1
  simp only [spec_l06Faults.l1]
  rw [if_pos (by omega),if_pos (by omega),if_pos (by omega),w64 (by omega) (by omega)]
  by_cases he : (rd_T144 l (j : Int)).f0 = (rd_T144 l (i : Int)).f0
  ·rw [if_pos he,if_pos]
   unfold dupF
   rw [List.any_eq_true]
   refine ⟨l[j],?_,?_⟩
   ·rw [List.mem_iff_getElem]
    exact ⟨j,by rw [List.length_take];omega,by rw [List.getElem_take]⟩
   ·rw [rd_impl_Fault hjl] at he
    simpa using he
  ·rw [if_neg he,← hK]
   have e := ih (j + 1) (by omega) (fun x hx' => by
    rcases Nat.lt_succ_iff_lt_or_eq.1 hx' with e | e
    ·exact hx x e
    ·subst e;exact he)
   rw [show ((j + 1 : Nat) : Int) = (j : Int) + 1 by omega] at e
   exact e
set_option maxHeartbeats 1000000 in
theorem specAre_all {line : List Sp} {h : List Int} {l : List Ft} (hw : wfF l) (hn : line.length ≤ 1048576) (hh : h.length ≤ 1048576) (hl : l.length ≤ 20) : ∀ d i K,i + d = l.length → (∀ j,j < i → badF line.length h l j = false) → d * 30 + 1 ≤ K → spec_l06Faults.l0 K line h l (i : Int) = some (faultsOk line.length h l) := by
 intro d
 induction d with
 | zero =>
  intro i K hi hb hK
  obtain ⟨K,rfl⟩ : ∃ m,K = m + 1 := ⟨K - 1,by omega⟩
  obtain rfl : i = l.length := by omega
  simp only [spec_l06Faults.l0]
  rw [if_neg (by omega),faultsOk_end hb,decide_eq_true hl]
 | succ d ih =>
  intro i K hi hb hK
  have hil : i < l.length := by omega
  have hwb := wfF_at hw hil
  simp only [Nat.succ_mul] at hK
  obtain ⟨K,rfl⟩ : ∃ m,K = (m + i + 1) + 1 + 1 := ⟨K - i - 3,by omega⟩
  have hgo := fun (hbad : badF line.length h l i = false) => ih (i + 1) K (by omega) (fun j hj => by
   rcases Nat.lt_succ_iff_lt_or_eq.1 hj with e | e
   ·exact hb j e
   ·subst e;exact hbad) (by omega)
  rw [show ((i + 1 : Nat) : Int) = (i : Int) + 1 by omega] at hgo
  have hst : badF line.length h l i = true → faultsOk line.length h l = false := fun hbad => faultsOk_false hil hbad
  have hd := fun b c => specDup (line := line) (h := h) (l := l) hil hl K b c i 0 (by omega) (fun x hx => absurd hx (Nat.not_lt_zero _))
  rw [show ((0 : Nat) : Int) = 0 from rfl] at hd
  generalize hK2 : K + i + 1 = K2 at *
  simp only [spec_l06Faults.l0]
  rw [if_pos (by omega),if_pos (by omega),in_eq,in_eq,in_eq]
  simp only [Option.bind_some,spec_l06Faults.j1]
  unfold badF at hst hgo
  generalize hf : rd_T144 l (i : Int) = f at *
  rw [w64 (n := f.f0) (by omega) (by omega),w64 (n := f.f1) (by omega) (by omega),w64 (n := f.f2) (by omega) (by omega),w64 (n := (line.length : Int) - 1) (by omega) (by omega),w64 (n := (h.length : Int) - 1) (by omega) (by omega)]
  unfold faultOk at hst hgo
  by_cases c1 : 1 ≤ f.f0 ∧ f.f0 ≤ (line.length : Int) - 1
  ·rw [decide_eq_true c1,Bool.true_and] at hst hgo
   rw [if_pos (by simp [c1])]
   by_cases c2 : 0 ≤ f.f1 ∧ f.f1 ≤ (h.length : Int) - 1
   ·rw [decide_eq_true c2,Bool.true_and] at hst hgo
    rw [if_pos (by simp [c2])]
    by_cases c3 : 0 ≤ f.f2 ∧ f.f2 ≤ 39
    ·rw [decide_eq_true c3,Bool.true_and] at hst hgo
     rw [if_pos (by simp [c3]),if_pos c2.1,if_pos (by omega)]
     by_cases c4 : rd h f.f1 < 0
     ·rw [decide_eq_true c4,if_pos rfl,hst (by rw [decide_eq_false (p := 0 ≤ rd h f.f1) (by omega),Bool.not_false,Bool.or_true])]
     ·rw [decide_eq_true (p := 0 ≤ rd h f.f1) (by omega),Bool.not_true,Bool.or_false] at hst hgo
      rw [decide_eq_false c4,if_neg (by simp),hd]
      cases hdu : dupF l i with
      | true =>
       rw [if_pos rfl,hst hdu]
      | false =>
       rw [if_neg (by simp)]
       exact hgo hdu
    ·rw [if_neg (by simpa using c3),if_pos trivial,hst (by rw [decide_eq_false c3,Bool.false_and,Bool.not_false,Bool.or_true])]
   ·rw [if_neg (by simpa using c2),if_pos trivial,hst (by rw [decide_eq_false c2,Bool.false_and,Bool.not_false,Bool.or_true])]
  ·rw [if_neg (by simpa using c1),if_pos trivial,hst (by rw [decide_eq_false c1,Bool.false_and,Bool.not_false,Bool.or_true])]
theorem specAre {k : Nat} {line : List Sp} {h : List Int} {l : List Ft} (hw : wfF l) (hn : line.length ≤ 1048576) (hh : h.length ≤ 1048576) (hk : 1000 < k) : spec_l06Faults.f k line h l = some (faultsOk line.length h l) := by
 unfold spec_l06Faults.f
 by_cases hl : l.length ≤ 20
 ·rw [if_neg (by omega)]
  exact specAre_all hw hn hh hl l.length 0 k (by omega) (fun j hj => absurd hj (Nat.not_lt_zero _)) (by omega)
 ·rw [if_pos (by omega)]
  unfold faultsOk
  rw [decide_eq_false hl]
  rfl
def codeF (line : List Sp) (h : List Int) (l : List Ft) : Int := if validB line = true ∧ (meanO h).isSome = true ∧ faultsOk line.length h l = true then 0 else 1
theorem implCodeF {k : Nat} {line : List Sp} {h : List Int} {l : List Ft} (hwh : wfH h) (hw : wfF l) (hn : line.length ≤ 1048576) (hh : h.length ≤ 1048576) (hl : l.length ≤ 1048576) (hk : 2200001 < k) : impl_lineCode.f k line h l = some (codeF line h l) := by
 unfold impl_lineCode.f codeF
 rw [implValid_eq,implValidH hwh hh (by omega),implAre hw hn hh hl (by omega)]
 simp only [Option.bind_some]
 cases validB line <;> cases (meanO h).isSome <;> cases faultsOk line.length h l <;> simp [impl_unless.f]
theorem specCodeF {k : Nat} {line : List Sp} {h : List Int} {l : List Ft} (hws : ∀ x ∈ line,wfShip x) (hwh : wfH h) (hw : wfF l) (hn : line.length ≤ 1048576) (hh : h.length ≤ 1048576) (hk : 2200001 < k) : spec_l06Given.f k line h l = some (codeF line h l) := by
 unfold spec_l06Given.f codeF
 rw [specOk_eq k line hws hn (by omega),specOkH hwh (by omega),specAre hw hn hh (by omega)]
 simp only [Option.bind_some]
 cases validB line <;> cases (meanO h).isSome <;> cases faultsOk line.length h l <;> simp
def layF (i : Nat) (own : List Int) (f : Ft) : List Int := if f.f0 = (i : Int) then own.set f.f1.toNat f.f2 else own
def rbGo (h : List Int) (l : List Ft) (ts : List Tm) : Nat → Hs
 | 0 => []
 | n + 1 => rbGo h l ts n ++ [if n = 0 then h else if 0 ≤ (rd_T106 ts (n : Int)).f0 then l.foldl (layF n) (rd_L2 (rbGo h l ts n) (rd_T106 ts (n : Int)).f0) else []]
theorem rbGo_len (h : List Int) (l : List Ft) (ts : List Tm) : ∀ n,(rbGo h l ts n).length = n := by
 intro n
 induction n with
 | zero => rfl
 | succ n ih => rw [rbGo,List.length_append,ih];rfl
theorem layF_len (i : Nat) (l : List Ft) : ∀ own : List Int,(l.foldl (layF i) own).length = own.length := by
 induction l with
 | nil => intro own;rfl
 | cons f l ih =>
  intro own
  rw [List.foldl_cons,ih]
  unfold layF
  split <;> simp
def reachT (ts : List Tm) (j : Nat) : Prop := j = 0 ∨ 0 ≤ (rd_T106 ts (j : Int)).f0
theorem reach_from {ts : List Tm} (hok : TimesOK ts) {n : Nat} (hn : n < ts.length) (h0 : 0 ≤ (rd_T106 ts (n : Int)).f0) : ∃ m : Nat,(rd_T106 ts (n : Int)).f0 = (m : Int) ∧ m < n ∧ reachT ts m := by
 rw [rd_impl_Times hn] at h0 ⊢
 have hnp : 0 < n := by
  rcases Nat.eq_zero_or_pos n with e | e
  ·subst e
   have := hok.first _ (List.getElem?_eq_getElem hn)
   omega
  ·exact e
 rcases hok.later n _ (List.getElem?_eq_getElem hn) hnp with e | ⟨h1,h2,h3,u,hu,hu2⟩
 ·rw [e] at h0
  simp only at h0
  omega
 ·refine ⟨ts[n].f0.toNat,by omega,by omega,?_⟩
  have hlt := (List.getElem?_eq_some_iff.1 hu).1
  rcases Nat.eq_zero_or_pos ts[n].f0.toNat with e | e
  ·exact .inl e
  ·right
   rw [rd_impl_Times hlt]
   rcases hok.later _ u hu e with e2 | e2
   ·rw [e2] at hu2
    simp only at hu2
    omega
   ·rw [(List.getElem?_eq_some_iff.1 hu).2]
    exact e2.1
theorem rbGo_get {h : List Int} {l : List Ft} {ts : List Tm} {j : Nat} : ∀ n,j < n → rd_L2 (rbGo h l ts n) (j : Int) = rd_L2 (rbGo h l ts (j + 1)) (j : Int) := by
 intro n
 induction n with
 | zero => intro h;omega
 | succ n ih =>
  intro hj
  rcases Nat.lt_succ_iff_lt_or_eq.1 hj with e | e
  ·rw [← ih e]
   rw [rdH (by rw [rbGo_len];omega),rdH (by rw [rbGo_len];omega)]
   simp only [rbGo]
   rw [List.getElem_append_left]
  ·subst e
   rfl
theorem rb_ok {h : List Int} {l : List Ft} {ts : List Tm} (hok : TimesOK ts) (hwh : wfH h) (hwf : wfF l) : ∀ n,n ≤ ts.length → ∀ j,j < n → wfH (rd_L2 (rbGo h l ts n) (j : Int)) ∧ (rd_L2 (rbGo h l ts n) (j : Int)).length ≤ h.length ∧ (reachT ts j → (rd_L2 (rbGo h l ts n) (j : Int)).length = h.length) := by
 intro n
 induction n with
 | zero => intro _ j hj;omega
 | succ n ih =>
  intro hn j hj
  rcases Nat.lt_succ_iff_lt_or_eq.1 hj with e | e
  ·have := ih (by omega) j e
   rw [rbGo_get n e] at this
   rw [rbGo_get (n + 1) hj]
   exact this
  ·subst e
   rw [rdH (by rw [rbGo_len];omega)]
   simp only [rbGo]
   rw [List.getElem_append_right (by rw [rbGo_len];omega)]
   simp only [rbGo_len,Nat.sub_self,List.getElem_cons_zero]
   by_cases h0 : j = 0
   ·rw [if_pos h0]
    exact ⟨hwh,Nat.le_refl _,fun _ => rfl⟩
   ·rw [if_neg h0]
    by_cases h1 : 0 ≤ (rd_T106 ts (j : Int)).f0
    ·rw [if_pos h1,layF_len]
     obtain ⟨m,hm,hmj,hr⟩ := reach_from hok (by omega : j < ts.length) h1
     rw [hm]
     obtain ⟨w,le,eq⟩ := ih (by omega) m hmj
     refine ⟨?_,le,fun _ => eq hr⟩
     generalize rd_L2 (rbGo h l ts j) (m : Int) = own at w
     clear hm hr le eq ih h0 h1 hj hn
     induction l generalizing own with
     | nil => exact w
     | cons f l ih2 =>
      rw [List.foldl_cons]
      refine ih2 (fun x hx => hwf x (by simp [hx])) _ ?_
      unfold layF
      split
      ·intro x hx
       rcases List.mem_or_eq_of_mem_set hx with h | h
       ·exact w x h
       ·rw [h]
        exact (hwf f (by simp)).2.2
      ·exact w
    ·rw [if_neg h1]
     exact ⟨fun x hx => by simp at hx,by simp,fun hr => hr.elim (fun e => absurd e h0) (fun e => absurd e h1)⟩
def fitF (h : List Int) (l : List Ft) : Prop := ∀ f ∈ l,0 ≤ f.f1 ∧ f.f1 < (h.length : Int)
theorem fit_of {n : Nat} {h : List Int} {l : List Ft} (hf : faultsOk n h l = true) : fitF h l ∧ l.length ≤ 20 := by
 unfold faultsOk at hf
 simp only [Bool.and_eq_true,decide_eq_true_eq] at hf
 refine ⟨fun f hfm => ?_,hf.1⟩
 obtain ⟨i,hi,rfl⟩ := List.mem_iff_getElem.1 hfm
 have := List.all_eq_true.1 hf.2 i (List.mem_range.2 hi)
 unfold badF at this
 rw [rd_impl_Fault hi] at this
 simp only [faultOk,Bool.not_or,Bool.not_not,Bool.and_eq_true,decide_eq_true_eq] at this
 omega
theorem implLay {h : List Int} {l : List Ft} {ts : List Tm} {out : Hs} (hwf : wfF l) (hfit : fitF h l) (hl : l.length ≤ 20) (hout : out.length ≤ 20) {i : Nat} (hi20 : i ≤ 20) (K : Nat) : ∀ d j (own : List Int),j + d = l.length → own.length = h.length →
  impl_readBy.l1 (K + d + 1) h l out (i : Int) own ts (ts.length : Int) (i : Int) l (l.length : Int) (j : Int) = impl_readBy.l0 K h l (out ++ [(l.drop j).foldl (layF i) own]) ts (ts.length : Int) ((i : Int) + 1) := by
 intro d
 induction d with
 | zero =>
  intro j own hj ho
  obtain rfl : j = l.length := by omega
  simp only [impl_readBy.l1,Nat.add_zero]
  rw [if_neg (by omega),if_pos (by omega),List.drop_of_length_le (Nat.le_refl _),w64 (by omega) (by omega)]
  rfl
 | succ d ih =>
  intro j own hj ho
  have hjl : j < l.length := by omega
  have hwb := wfF_at hwf hjl
  have hfb := hfit _ (List.getElem_mem hjl)
  rw [show K + (d + 1) + 1 = (K + d + 1) + 1 by omega,List.drop_eq_getElem_cons hjl,List.foldl_cons]
  have e := ih (j + 1) (layF i own l[j]) (by omega) (by unfold layF;split <;> simp [ho])
  rw [← e]
  generalize K + d + 1 = K1
  simp only [impl_readBy.l1]
  rw [if_pos (by omega),if_pos (by omega),if_pos (by omega),w64 (by omega) (by omega),w64 (by omega) (by omega)]
  rw [rd_impl_Fault hjl] at hwb ⊢
  rw [show ((j + 1 : Nat) : Int) = (j : Int) + 1 by omega]
  unfold layF
  by_cases hs : l[j].f0 = (i : Int)
  ·rw [if_pos hs,if_pos hfb.1,if_pos (by omega),if_pos hs]
  ·rw [if_neg hs,if_neg hs]
theorem specLay {h : List Int} {l : List Ft} {ts : List Tm} {out : Hs} (hwf : wfF l) (hfit : fitF h l) (hl : l.length ≤ 20) (hout : out.length ≤ 20) {i : Nat} (hi20 : i ≤ 20) (K : Nat) : ∀ d j (own : List Int),j + d = l.length → own.length = h.length →
  spec_l06Read.l1 (K + d + 1) l ts out (i : Int) own (j : Int) = spec_l06Read.l0 K l ts (out ++ [(l.drop j).foldl (layF i) own]) ((i : Int) + 1) := by
 intro d
 induction d with
 | zero =>
  intro j own hj ho
  obtain rfl : j = l.length := by omega
  simp only [spec_l06Read.l1,Nat.add_zero]
  rw [if_neg (by omega),if_pos (by omega),List.drop_of_length_le (Nat.le_refl _),w64 (by omega) (by omega)]
  rfl
 | succ d ih =>
  intro j own hj ho
  have hjl : j < l.length := by omega
  have hwb := wfF_at hwf hjl
  have hfb := hfit _ (List.getElem_mem hjl)
  rw [show K + (d + 1) + 1 = (K + d + 1) + 1 by omega,List.drop_eq_getElem_cons hjl,List.foldl_cons]
  have e := ih (j + 1) (layF i own l[j]) (by omega) (by unfold layF;split <;> simp [ho])
  rw [← e]
  generalize K + d + 1 = K1
  simp only [spec_l06Read.l1]
  rw [if_pos (by omega),if_pos (by omega),w64 (by omega) (by omega),w64 (by omega) (by omega)]
  rw [rd_impl_Fault hjl] at hwb ⊢
  rw [show ((j + 1 : Nat) : Int) = (j : Int) + 1 by omega]
  unfold layF
  by_cases hs : l[j].f0 = (i : Int)
  ·rw [if_pos hs,if_pos hfb.1,if_pos (by omega),if_pos hs]
  ·rw [if_neg hs,if_neg hs]
theorem implRead_all {h : List Int} {l : List Ft} {ts : List Tm} (hok : TimesOK ts) (hwh : wfH h) (hwf : wfF l) (hfit : fitF h l) (hl : l.length ≤ 20) (hts : ts.length ≤ 20) (hh : h.length ≤ 1048576) : ∀ d i K,i + d = ts.length → d * 22 + 1 ≤ K → impl_readBy.l0 K h l (rbGo h l ts i) ts (ts.length : Int) (i : Int) = some (rbGo h l ts ts.length) := by
 intro d
 induction d with
 | zero =>
  intro i K hi hK
  obtain ⟨K,rfl⟩ : ∃ m,K = m + 1 := ⟨K - 1,by omega⟩
  obtain rfl : i = ts.length := by omega
  simp only [impl_readBy.l0]
  rw [if_neg (by omega)]
 | succ d ih =>
  intro i K hi hK
  have hil : i < ts.length := by omega
  have hlen := rbGo_len h l ts i
  simp only [Nat.succ_mul] at hK
  by_cases h0 : i = 0
  ·subst h0
   obtain ⟨K,rfl⟩ : ∃ m,K = m + 1 := ⟨K - 1,by omega⟩
   have e := ih 1 K (by omega) (by omega)
   rw [rbGo,if_pos rfl,show ((1 : Nat) : Int) = 0 + 1 from rfl] at e
   rw [show ((0 : Nat) : Int) = 0 from rfl]
   simp only [impl_readBy.l0]
   rw [if_pos (by omega),if_pos (by omega),if_pos (by omega),if_pos trivial,slices_Clone_Hoist_int8.f,if_pos (by omega)]
   simp only [Option.bind_some]
   rw [if_pos (by omega),w64 (by omega) (by omega)]
   exact e
  ·by_cases h1 : 0 ≤ (rd_T106 ts (i : Int)).f0
   ·obtain ⟨m,hm,hmi,hr⟩ := reach_from hok hil h1
    obtain ⟨w,le,eq⟩ := rb_ok hok hwh hwf i (by omega) m hmi
    obtain ⟨K,rfl⟩ : ∃ q,K = (q + l.length + 1) + 1 := ⟨K - l.length - 2,by omega⟩
    have e := ih (i + 1) K (by omega) (by omega)
    rw [rbGo,if_neg h0,if_pos h1,hm,show ((i + 1 : Nat) : Int) = (i : Int) + 1 by omega] at e
    have e2 := implLay (ts := ts) (out := rbGo h l ts i) (h := h) hwf hfit hl (by omega) (by omega : i ≤ 20) K l.length 0 (rd_L2 (rbGo h l ts i) (m : Int)) (by omega) (eq hr)
    rw [List.drop_zero] at e2
    rw [← e,← e2,show ((0 : Nat) : Int) = 0 from rfl]
    generalize K + l.length + 1 = K1
    simp only [impl_readBy.l0]
    rw [if_pos (by omega),if_pos (by omega),if_pos (by omega),if_neg (by omega),if_pos h1,if_pos h1,if_pos (by omega),hm,slices_Clone_Hoist_int8.f,if_pos (by omega)]
    rfl
   ·obtain ⟨K,rfl⟩ : ∃ m,K = m + 1 := ⟨K - 1,by omega⟩
    have e := ih (i + 1) K (by omega) (by omega)
    rw [rbGo,if_neg h0,if_neg h1,show ((i + 1 : Nat) : Int) = (i : Int) + 1 by omega] at e
    simp only [impl_readBy.l0]
    rw [if_pos (by omega),if_pos (by omega),if_pos (by omega),if_neg (by omega),if_neg h1,if_pos (by omega),w64 (by omega) (by omega)]
    exact e
theorem specRead_all {h : List Int} {l : List Ft} {ts : List Tm} (hok : TimesOK ts) (hwh : wfH h) (hwf : wfF l) (hfit : fitF h l) (hl : l.length ≤ 20) (hts : ts.length ≤ 20) (hh : h.length ≤ 1048576) : ∀ d i K,0 < i → i + d = ts.length → d * 22 + 1 ≤ K → spec_l06Read.l0 K l ts (rbGo h l ts i) (i : Int) = some (rbGo h l ts ts.length) := by
 intro d
 induction d with
 | zero =>
  intro i K hp hi hK
  obtain ⟨K,rfl⟩ : ∃ m,K = m + 1 := ⟨K - 1,by omega⟩
  obtain rfl : i = ts.length := by omega
  simp only [spec_l06Read.l0]
  rw [if_neg (by omega)]
 | succ d ih =>
  intro i K hp hi hK
  have hil : i < ts.length := by omega
  have hlen := rbGo_len h l ts i
  have h0 : i ≠ 0 := by omega
  simp only [Nat.succ_mul] at hK
  by_cases h1 : 0 ≤ (rd_T106 ts (i : Int)).f0
  ·obtain ⟨m,hm,hmi,hr⟩ := reach_from hok hil h1
   obtain ⟨w,le,eq⟩ := rb_ok hok hwh hwf i (by omega) m hmi
   obtain ⟨K,rfl⟩ : ∃ q,K = (q + l.length + 1) + 1 := ⟨K - l.length - 2,by omega⟩
   have e := ih (i + 1) K (by omega) (by omega) (by omega)
   rw [rbGo,if_neg h0,if_pos h1,hm,show ((i + 1 : Nat) : Int) = (i : Int) + 1 by omega] at e
   have e2 := specLay (ts := ts) (out := rbGo h l ts i) (h := h) hwf hfit hl (by omega) (by omega : i ≤ 20) K l.length 0 (rd_L2 (rbGo h l ts i) (m : Int)) (by omega) (eq hr)
   rw [List.drop_zero] at e2
   rw [← e,← e2,show ((0 : Nat) : Int) = 0 from rfl]
   generalize K + l.length + 1 = K1
   simp only [spec_l06Read.l0]
   rw [if_pos (by omega)]
   simp only [Option.bind_some]
   rw [if_pos (by omega),if_pos h1,if_pos h1,if_pos (by omega),hm,if_pos (by simp only [List.length_nil];omega),List.nil_append]
  ·obtain ⟨K,rfl⟩ : ∃ m,K = m + 1 := ⟨K - 1,by omega⟩
   have e := ih (i + 1) K (by omega) (by omega) (by omega)
   rw [rbGo,if_neg h0,if_neg h1,show ((i + 1 : Nat) : Int) = (i : Int) + 1 by omega] at e
   simp only [spec_l06Read.l0]
   rw [if_pos (by omega)]
   simp only [Option.bind_some]
   rw [if_pos (by omega),if_neg h1,if_pos (by omega),w64 (by omega) (by omega)]
   exact e
def readL (line : List Sp) (h : List Int) (l : List Ft) : Hs := rbGo h l (timesL (-1) 0 line) line.length
theorem implReadL {k : Nat} {line : List Sp} {h : List Int} {l : List Ft} (v : ValidL line) (hwh : wfH h) (hwf : wfF l) (hf : faultsOk line.length h l = true) (hh : h.length ≤ 1048576) (hk : 1000 < k) : impl_readBy.f k line h l = some (readL line h l) := by
 obtain ⟨hfit,hl⟩ := fit_of hf
 unfold impl_readBy.f
 rw [v.implTimes (by omega)]
 simp only [Option.bind_some]
 have ht := timesL_len (-1) 0 line
 have := v.most
 have e := implRead_all v.timesOK hwh hwf hfit hl (by omega) hh line.length 0 k (by omega) (by omega)
 rw [ht] at e ⊢
 exact e
theorem specReadL {k : Nat} {line : List Sp} {h : List Int} {l : List Ft} (v : ValidL line) (hwh : wfH h) (hwf : wfF l) (hf : faultsOk line.length h l = true) (hh : h.length ≤ 1048576) (hk : 1000 < k) : spec_l06Read.f k line h l = some (readL line h l) := by
 obtain ⟨hfit,hl⟩ := fit_of hf
 unfold spec_l06Read.f
 rw [v.specTimes (by omega)]
 simp only [Option.bind_some]
 have ht := timesL_len (-1) 0 line
 have := v.most
 have := v.pos
 rw [if_pos (by simp only [List.length_nil];omega),List.nil_append]
 have e := specRead_all v.timesOK hwh hwf hfit hl (by omega) hh (line.length - 1) 1 k (by omega) (by omega) (by omega)
 rw [ht] at e
 exact e
theorem readL_len {line : List Sp} {h : List Int} {l : List Ft} : (readL line h l).length = line.length := rbGo_len _ _ _ _
theorem readL_at {line : List Sp} {h : List Int} {l : List Ft} (v : ValidL line) (hwh : wfH h) (hwf : wfF l) {j : Nat} (hj : j < line.length) : wfH (rd_L2 (readL line h l) (j : Int)) ∧ (rd_L2 (readL line h l) (j : Int)).length ≤ h.length := by
 have := rb_ok v.timesOK hwh hwf line.length (by rw [timesL_len];exact Nat.le_refl _) j hj
 exact ⟨this.1,this.2.1⟩
end Go.Proofs.Ytheenidapjkboaa.G.Pure
end

section
namespace Go.Proofs.Ytheenidapjkboaa.G.Pure
open Go.RowKit Go.Proofs.Ytheenidapjkboaa.G Go.Proofs.YtheenidapjkboaaW.PrintWords Go.Proofs.YtheenidapjkboaaW.PrintLast Go.Proofs.YtheenidapjkboaaW.PrintMore
set_option linter.unusedVariables false
set_option linter.unusedSimpArgs false
theorem readL_small {line : List Sp} {h : List Int} {l : List Ft} (v : ValidL line) (hwh : wfH h) (hwf : wfF l) (hh : h.length ≤ 1048576) : ∀ x ∈ readL line h l,x.length ≤ 1048576 := by
 intro x hx
 obtain ⟨j,hj,rfl⟩ := List.mem_iff_getElem.1 hx
 rw [readL_len] at hj
 have := (readL_at v hwh hwf hj).2
 rw [rdH (by rw [readL_len];exact hj)] at this
 omega
theorem code_ok {line : List Sp} {h : List Int} {l : List Ft} : codeF line h l = 0 ↔ validB line = true ∧ (meanO h).isSome = true ∧ faultsOk line.length h l = true := by
 unfold codeF
 split
 ·rename_i hh
  exact ⟨fun _ => hh,fun _ => rfl⟩
 ·rename_i hh
  exact ⟨fun he => by omega,fun he => absurd he hh⟩
end Go.Proofs.Ytheenidapjkboaa.G.Pure
end

section
namespace Go.Proofs.Ytheenidapjkboaa.G.Pure
open Go.RowKit Go.Proofs.Ytheenidapjkboaa.G Go.Proofs.YtheenidapjkboaaW.PrintWords Go.Proofs.YtheenidapjkboaaW.PrintLast Go.Proofs.YtheenidapjkboaaW.PrintMore
set_option linter.unusedVariables false
set_option linter.unusedSimpArgs false
theorem markHoist_held (k : Nat) (a : List Int) (m0 : Int) (hl : a.length ≤ 1048576) (hk : a.length < k) (h0 : 0 ≤ m0) (h1 : m0 ≤ 4000000000000000000) : ∃ l,laws_markHoist.f k a m0 = some (m0 + (a.length : Int),l) ∧ l.length = a.length ∧ ∀ k',a.length < k' → laws_heldHoist.f k' l m0 = some (m0 + (a.length : Int)) := by
 obtain ⟨r,⟨g1,g2,g3⟩,h⟩ := loop_inv (fun k (s : List Int × Int × Int) => laws_markHoist.l0 k s.1 s.2.1 s.2.2) a.length
  (fun i s => s.2.2 = (i : Int) ∧ s.2.1 = m0 + (i : Int) ∧ s.1.length = a.length ∧ ∀ j (h : j < s.1.length),j < i → s.1[j] = IntKind.i8.wrap (m0 + (j : Int)))
  (fun r => r.1 = m0 + (a.length : Int) ∧ r.2.length = a.length ∧ ∀ j (h : j < r.2.length),r.2[j] = IntKind.i8.wrap (m0 + (j : Int)))
  (fun k i s hi ⟨h1,h2,h3,h4⟩ => by
   obtain ⟨acc,m,x⟩ := s
   simp only at h1 h2 h3 h4
   subst h1 h2
   refine .inl ⟨(acc.set i (IntKind.i8.wrap (m0 + (i : Int))),m0 + ((i + 1 : Nat) : Int),((i + 1 : Nat) : Int)),⟨rfl,rfl,by simpa using h3,fun j hj hji => ?_⟩,?_⟩
   ·simp only [List.getElem_set]
    split
    ·rename_i e;subst e;rfl
    ·simp only [List.length_set] at hj
     exact h4 j hj (by omega)
   ·simp only [laws_markHoist.l0]
    rw [if_pos (by omega),if_pos (by omega),w64 (n := m0 + (i : Int) + 1) (by omega) (by omega),w64 (n := (i : Int) + 1) (by omega) (by omega),Int.toNat_natCast]
    rw [show m0 + (i : Int) + 1 = m0 + ((i + 1 : Nat) : Int) by omega,show ((i + 1 : Nat) : Int) = (i : Int) + 1 by omega])
  (fun k s ⟨h1,h2,h3,h4⟩ => by
   obtain ⟨acc,m,x⟩ := s
   simp only at h1 h2 h3 h4
   subst h1 h2
   refine ⟨(m0 + (a.length : Int),acc),⟨rfl,h3,fun j hj => h4 j hj (by rw [← h3];exact hj)⟩,?_⟩
   simp only [laws_markHoist.l0]
   rw [if_neg (by omega)]) k (a,m0,0) ⟨rfl,by simp,rfl,fun j _ h => absurd h (Nat.not_lt_zero _)⟩ hk
 obtain ⟨m,l⟩ := r
 simp only at g1 g2 g3
 subst g1
 refine ⟨l,h,g2,fun k' hk' => ?_⟩
 obtain ⟨r,hr,h'⟩ := loop_inv (fun k (s : Int × Int) => laws_heldHoist.l0 k l s.1 s.2) l.length (fun i s => s.2 = (i : Int) ∧ s.1 = m0 + (i : Int)) (fun r => r = m0 + (a.length : Int))
  (fun k i s hi ⟨e1,e2⟩ => by
   obtain ⟨m',x⟩ := s
   simp only at e1 e2
   subst e1 e2
   refine .inl ⟨(m0 + ((i + 1 : Nat) : Int),((i + 1 : Nat) : Int)),⟨rfl,rfl⟩,?_⟩
   simp only [laws_heldHoist.l0]
   rw [if_pos (by omega),if_pos (by omega),rd_nat hi,g3 i hi,if_pos rfl,w64 (n := m0 + (i : Int) + 1) (by omega) (by omega),w64 (n := (i : Int) + 1) (by omega) (by omega)]
   rw [show m0 + (i : Int) + 1 = m0 + ((i + 1 : Nat) : Int) by omega,show ((i + 1 : Nat) : Int) = (i : Int) + 1 by omega])
  (fun k s ⟨e1,e2⟩ => by
   obtain ⟨m',x⟩ := s
   simp only at e1 e2
   subst e1 e2
   refine ⟨_,rfl,?_⟩
   simp only [laws_heldHoist.l0]
   rw [if_neg (by omega),g2]) k' (m0,0) ⟨rfl,by simp⟩ (by omega)
 subst hr
 exact h'
def mAt (a : Hs) : Nat → Int
 | 0 => 1
 | n + 1 => mAt a n + ((rd_L2 a (n : Int)).length : Int)
theorem mAt_bound {a : Hs} (hi : ∀ x ∈ a,x.length ≤ 1048576) : ∀ n,0 ≤ mAt a n ∧ mAt a n ≤ 1 + 1048576 * (n : Int) := by
 intro n
 induction n with
 | zero => exact ⟨by simp [mAt],by simp [mAt]⟩
 | succ n ih =>
  have := rdH_len hi (n : Int)
  rw [mAt]
  omega
theorem markHoistS_held {k : Nat} {a : Hs} (hl : a.length ≤ 1048576) (hi : ∀ x ∈ a,x.length ≤ 1048576) (hk : 2200000 < k) : ∃ l m,laws_markHoistS.f k a 1 = some (m,l) ∧ (∀ k',2200000 < k' → laws_heldHoistS.f k' l 1 = some m) ∧ 0 ≤ m := by
 obtain ⟨r,⟨g1,g2,g3⟩,h⟩ := loop_inv2 (fun k (s : Hs × Int × Int) => laws_markHoistS.l0 k s.1 s.2.1 s.2.2) a.length 1048577
  (fun i s => s.2.2 = (i : Int) ∧ s.2.1 = mAt a i ∧ s.1.length = a.length ∧ (∀ j,i ≤ j → s.1[j]? = a[j]?) ∧ ∀ j x,j < i → s.1[j]? = some x → ∀ k',1048577 ≤ k' → laws_heldHoist.f k' x (mAt a j) = some (mAt a (j + 1)))
  (fun r => r.1 = mAt a a.length ∧ r.2.length = a.length ∧ ∀ j x,j < a.length → r.2[j]? = some x → ∀ k',1048577 ≤ k' → laws_heldHoist.f k' x (mAt a j) = some (mAt a (j + 1)))
  (fun k i s hil hk ⟨h1,h2,h3,h4,h5⟩ => by
   obtain ⟨acc,m,x⟩ := s
   simp only at h1 h2 h3 h4 h5
   subst h1 h2
   have hg : acc.getD (i : Int).toNat [] = a[i] := by
    rw [Int.toNat_natCast,List.getD_eq_getElem?_getD,h4 i (Nat.le_refl _),List.getElem?_eq_getElem hil]
    rfl
   have hai := hi _ (List.getElem_mem hil)
   have hmb := mAt_bound hi i
   have hms : mAt a (i + 1) = mAt a i + (a[i].length : Int) := by rw [mAt,rdH hil]
   obtain ⟨y,hm,hyl,hyh⟩ := markHoist_held k a[i] (mAt a i) hai (by omega) hmb.1 (by omega)
   refine .inl ⟨(acc.set i y,mAt a (i + 1),((i + 1 : Nat) : Int)),⟨rfl,rfl,by simpa using h3,fun j hj => ?_,fun j x hj hx k' hk' => ?_⟩,?_⟩
   ·simp only
    rw [List.getElem?_set_ne (by omega)]
    exact h4 j (by omega)
   ·simp only at hx
    rcases Nat.lt_succ_iff_lt_or_eq.1 hj with e | e
    ·rw [List.getElem?_set_ne (by omega)] at hx
     exact h5 j x e hx k' hk'
    ·subst e
     rw [List.getElem?_set_self (by omega)] at hx
     cases hx
     rw [hms]
     exact hyh k' (by omega)
   ·simp only [laws_markHoistS.l0]
    rw [if_pos (by omega),if_pos (by omega),hg,hm,w64 (by omega) (by omega)]
    simp only [Option.bind_some,Int.toNat_natCast]
    rw [← hms,show ((i + 1 : Nat) : Int) = (i : Int) + 1 by omega])
  (fun k s hk ⟨h1,h2,h3,h4,h5⟩ => by
   obtain ⟨acc,m,x⟩ := s
   simp only at h1 h2 h3 h4 h5
   subst h1 h2
   refine ⟨(mAt a a.length,acc),⟨rfl,h3,h5⟩,?_⟩
   simp only [laws_markHoistS.l0]
   rw [if_neg (by omega)]) k (a,1,0) ⟨rfl,rfl,rfl,fun _ _ => rfl,fun j _ hj => absurd hj (Nat.not_lt_zero _)⟩ (by omega)
 obtain ⟨m,l⟩ := r
 simp only at g1 g2 g3
 subst g1
 refine ⟨l,_,h,fun k' hk' => ?_,(mAt_bound hi _).1⟩
 obtain ⟨r,hr,h'⟩ := loop_inv2 (fun k (s : Int × Int) => laws_heldHoistS.l0 k l s.1 s.2) l.length 1048577 (fun i s => s.2 = (i : Int) ∧ s.1 = mAt a i) (fun r => r = mAt a a.length)
  (fun k i s hil hk ⟨e1,e2⟩ => by
   obtain ⟨m',x⟩ := s
   simp only at e1 e2
   subst e1 e2
   have hmb := mAt_bound hi (i + 1)
   refine .inl ⟨(mAt a (i + 1),((i + 1 : Nat) : Int)),⟨rfl,rfl⟩,?_⟩
   simp only [laws_heldHoistS.l0]
   rw [if_pos (by omega),if_pos (by omega),rdH hil,g3 i _ (by omega) (List.getElem?_eq_getElem hil) k hk,w64 (by omega) (by omega)]
   simp only [Option.bind_some]
   rw [if_neg (by omega),show ((i + 1 : Nat) : Int) = (i : Int) + 1 by omega])
  (fun k s hk ⟨e1,e2⟩ => by
   obtain ⟨m',x⟩ := s
   simp only at e1 e2
   subst e1 e2
   refine ⟨_,rfl,?_⟩
   simp only [laws_heldHoistS.l0]
   rw [if_neg (by omega),g2]) k' (1,0) ⟨rfl,rfl⟩ (by omega)
 subst hr
 exact h'
def resRead (line : List Sp) (h : List Int) (l : List Ft) : Hs × Int := if codeF line h l = 0 then (readL line h l,0) else ([],codeF line h l)
theorem resRead_small {line : List Sp} {h : List Int} {l : List Ft} (hws : ∀ x ∈ line,wfShip x) (hwh : wfH h) (hw : wfF l) (hn : line.length ≤ 1048576) (hh : h.length ≤ 1048576) : (resRead line h l).1.length ≤ 1048576 ∧ ∀ x ∈ (resRead line h l).1,x.length ≤ 1048576 := by
 unfold resRead
 by_cases hc : codeF line h l = 0
 ·rw [if_pos hc]
  obtain ⟨hv,hm,hf⟩ := code_ok.1 hc
  have v := (validB_iff hws).1 hv
  exact ⟨by rw [readL_len];exact hn,readL_small v hwh hw hh⟩
 ·rw [if_neg hc]
  exact ⟨by simp,fun x hx => by simp at hx⟩
theorem implRead_eq {k : Nat} {line : List Sp} {h : List Int} {l : List Ft} (hws : ∀ x ∈ line,wfShip x) (hwh : wfH h) (hw : wfF l) (hn : line.length ≤ 1048576) (hh : h.length ≤ 1048576) (hl : l.length ≤ 1048576) (hk : 2200001 < k) : impl_ReadByAll.f k line h l = some (resRead line h l) := by
 unfold impl_ReadByAll.f resRead
 rw [implCodeF hwh hw hn hh hl hk]
 simp only [Option.bind_some]
 by_cases hc : codeF line h l = 0
 ·rw [if_pos hc,if_pos hc]
  obtain ⟨hv,hm,hf⟩ := code_ok.1 hc
  have v := (validB_iff hws).1 hv
  rw [implReadL v hwh hw hf hh (by omega)]
  simp only [Option.bind_some]
 ·rw [if_neg hc,if_neg hc]
theorem specRead_eq {k : Nat} {line : List Sp} {h : List Int} {l : List Ft} (hws : ∀ x ∈ line,wfShip x) (hwh : wfH h) (hw : wfF l) (hn : line.length ≤ 1048576) (hh : h.length ≤ 1048576) (hk : 2200001 < k) : spec_ReadByAll.f k line h l = some (resRead line h l) := by
 unfold spec_ReadByAll.f resRead
 rw [specCodeF hws hwh hw hn hh hk]
 simp only [Option.bind_some]
 by_cases hc : codeF line h l = 0
 ·rw [if_pos hc,if_pos hc]
  obtain ⟨hv,hm,hf⟩ := code_ok.1 hc
  have v := (validB_iff hws).1 hv
  rw [specReadL v hwh hw hf hh (by omega)]
  simp only [Option.bind_some]
 ·rw [if_neg hc,if_neg hc]
end Go.Proofs.Ytheenidapjkboaa.G.Pure
end

section
namespace Go.Proofs.Ytheenidapjkboaa.G.Pure
open Go.RowKit Go.Proofs.Ytheenidapjkboaa.G Go.Proofs.YtheenidapjkboaaW.PrintWords Go.Proofs.YtheenidapjkboaaW.PrintLast Go.Proofs.YtheenidapjkboaaW.PrintMore
set_option linter.unusedVariables false
set_option linter.unusedSimpArgs false
theorem markShipS_from (k : Nat) (a : List Sp) (m0 : Int) (hl : a.length ≤ 1048576) (hk : a.length < k) (h0 : 0 ≤ m0) (h1 : m0 ≤ 100000000000) : ∃ l m,laws_markShipS.f k a m0 = some (m,l) ∧ 0 ≤ m ∧ m ≤ m0 + 4000000 := by
 obtain ⟨r,⟨h1,h2⟩,h⟩ := loop_inv (fun k (s : List Sp × Int × Int) => laws_markShipS.l0 k s.1 s.2.1 s.2.2) a.length
  (fun i s => s.2.2 = (i : Int) ∧ s.2.1 = m0 + 3 * (i : Int) ∧ s.1.length = a.length)
  (fun r => r.1 = m0 + 3 * (a.length : Int) ∧ True)
  (fun k i s hi ⟨h1,h2,h3⟩ => by
   obtain ⟨acc,m,x⟩ := s
   simp only at h1 h2 h3
   subst h1 h2
   have hia : i < acc.length := by omega
   refine .inl ⟨(acc.set i ⟨IntKind.i8.wrap (m0 + 3 * (i : Int)),IntKind.i8.wrap (m0 + 3 * (i : Int) + 1),IntKind.i8.wrap (m0 + 3 * (i : Int) + 1 + 1)⟩,m0 + 3 * ((i + 1 : Nat) : Int),((i + 1 : Nat) : Int)),⟨rfl,rfl,by simpa using h3⟩,?_⟩
   simp only [laws_markShipS.l0]
   rw [if_pos (by omega),if_pos (by omega)]
   simp only [Option.bind_some,Int.toNat_natCast]
   rw [w64 (n := m0 + 3 * (i : Int) + 1) (by omega) (by omega),w64 (n := m0 + 3 * (i : Int) + 1 + 1) (by omega) (by omega),w64 (n := m0 + 3 * (i : Int) + 1 + 1 + 1) (by omega) (by omega),w64 (n := (i : Int) + 1) (by omega) (by omega)]
   simp only [rd_set_Ship,hia,List.set_set,List.length_set]
   rw [show m0 + 3 * (i : Int) + 1 + 1 + 1 = m0 + 3 * ((i + 1 : Nat) : Int) by omega]
   rfl)
  (fun k s ⟨h1,h2,h3⟩ => by
   obtain ⟨acc,m,x⟩ := s
   simp only at h1 h2 h3
   subst h1 h2
   refine ⟨(m0 + 3 * (a.length : Int),acc),⟨rfl,trivial⟩,?_⟩
   simp only [laws_markShipS.l0]
   rw [if_neg (by omega)]) k (a,m0,0) ⟨rfl,by simp,rfl⟩ hk
 obtain ⟨m,l⟩ := r
 simp only at h1
 exact ⟨l,m,h,by omega,by omega⟩
theorem markFaultS_from (k : Nat) (a : List Ft) (m0 : Int) (hl : a.length ≤ 1048576) (hk : a.length < k) (h0 : 0 ≤ m0) (h1 : m0 ≤ 100000000000) : ∃ l m,laws_markFaultS.f k a m0 = some (m,l) ∧ 0 ≤ m ∧ m ≤ m0 + 4000000 := by
 obtain ⟨r,⟨h1,h2⟩,h⟩ := loop_inv (fun k (s : List Ft × Int × Int) => laws_markFaultS.l0 k s.1 s.2.1 s.2.2) a.length
  (fun i s => s.2.2 = (i : Int) ∧ s.2.1 = m0 + 3 * (i : Int) ∧ s.1.length = a.length)
  (fun r => r.1 = m0 + 3 * (a.length : Int) ∧ True)
  (fun k i s hi ⟨h1,h2,h3⟩ => by
   obtain ⟨acc,m,x⟩ := s
   simp only at h1 h2 h3
   subst h1 h2
   have hia : i < acc.length := by omega
   refine .inl ⟨(acc.set i ⟨IntKind.i8.wrap (m0 + 3 * (i : Int)),IntKind.i8.wrap (m0 + 3 * (i : Int) + 1),IntKind.i8.wrap (m0 + 3 * (i : Int) + 1 + 1)⟩,m0 + 3 * ((i + 1 : Nat) : Int),((i + 1 : Nat) : Int)),⟨rfl,rfl,by simpa using h3⟩,?_⟩
   simp only [laws_markFaultS.l0]
   rw [if_pos (by omega),if_pos (by omega)]
   simp only [Option.bind_some,Int.toNat_natCast]
   rw [w64 (n := m0 + 3 * (i : Int) + 1) (by omega) (by omega),w64 (n := m0 + 3 * (i : Int) + 1 + 1) (by omega) (by omega),w64 (n := m0 + 3 * (i : Int) + 1 + 1 + 1) (by omega) (by omega),w64 (n := (i : Int) + 1) (by omega) (by omega)]
   simp only [rd_set_Fault,hia,List.set_set,List.length_set]
   rw [show m0 + 3 * (i : Int) + 1 + 1 + 1 = m0 + 3 * ((i + 1 : Nat) : Int) by omega]
   rfl)
  (fun k s ⟨h1,h2,h3⟩ => by
   obtain ⟨acc,m,x⟩ := s
   simp only at h1 h2 h3
   subst h1 h2
   refine ⟨(m0 + 3 * (a.length : Int),acc),⟨rfl,trivial⟩,?_⟩
   simp only [laws_markFaultS.l0]
   rw [if_neg (by omega)]) k (a,m0,0) ⟨rfl,by simp,rfl⟩ hk
 obtain ⟨m,l⟩ := r
 simp only at h1
 exact ⟨l,m,h,by omega,by omega⟩
theorem markHoist_from (k : Nat) (a : List Int) (m0 : Int) (hl : a.length ≤ 1048576) (hk : a.length < k) (h0 : 0 ≤ m0) (h1 : m0 ≤ 100000000000) : ∃ l m,laws_markHoist.f k a m0 = some (m,l) ∧ 0 ≤ m ∧ m ≤ m0 + 4000000 := by
 obtain ⟨r,⟨h1,h2⟩,h⟩ := loop_inv (fun k (s : List Int × Int × Int) => laws_markHoist.l0 k s.1 s.2.1 s.2.2) a.length
  (fun i s => s.2.2 = (i : Int) ∧ s.2.1 = m0 + (i : Int) ∧ s.1.length = a.length)
  (fun r => r.1 = m0 + (a.length : Int) ∧ True)
  (fun k i s hi ⟨h1,h2,h3⟩ => by
   obtain ⟨acc,m,x⟩ := s
   simp only at h1 h2 h3
   subst h1 h2
   have hia : i < acc.length := by omega
   refine .inl ⟨(acc.set i (IntKind.i8.wrap (m0 + (i : Int))),m0 + ((i + 1 : Nat) : Int),((i + 1 : Nat) : Int)),⟨rfl,rfl,by simpa using h3⟩,?_⟩
   simp only [laws_markHoist.l0]
   rw [if_pos (by omega),if_pos (by omega)]
   simp only [Int.toNat_natCast]
   rw [w64 (n := m0 + (i : Int) + 1) (by omega) (by omega),w64 (n := (i : Int) + 1) (by omega) (by omega)]
   rw [show m0 + (i : Int) + 1 = m0 + ((i + 1 : Nat) : Int) by omega]
   rfl)
  (fun k s ⟨h1,h2,h3⟩ => by
   obtain ⟨acc,m,x⟩ := s
   simp only at h1 h2 h3
   subst h1 h2
   refine ⟨(m0 + (a.length : Int),acc),⟨rfl,trivial⟩,?_⟩
   simp only [laws_markHoist.l0]
   rw [if_neg (by omega)]) k (a,m0,0) ⟨rfl,by simp,rfl⟩ hk
 obtain ⟨m,l⟩ := r
 simp only at h1
 exact ⟨l,m,h,by omega,by omega⟩
end Go.Proofs.Ytheenidapjkboaa.G.Pure
end

section
namespace Go.Proofs.Ytheenidapjkboaa.G.Pure
open Go.RowKit Go.Proofs.Ytheenidapjkboaa.G Go.Proofs.YtheenidapjkboaaW.PrintWords Go.Proofs.YtheenidapjkboaaW.PrintLast Go.Proofs.YtheenidapjkboaaW.PrintMore
set_option linter.unusedVariables false
set_option linter.unusedSimpArgs false
theorem szShipS_big {l : List (S111)} (hl : l.length ≤ 9223372036854775807) (h : ¬ l.length ≤ 1048576) : laws_szShipS.f l 1048576 = some (-1) := by
 rw [szShipS_eq _ _ (by omega) (by omega) hl,if_pos (by omega)]
theorem szShipS_small {l : List (S111)} (h : l.length ≤ 1048576) : ∃ n,laws_szShipS.f l 1048576 = some n ∧ ¬ n < 0 ∧ n = 1048576 - (l.length : Int) := by
 refine ⟨1048576 - l.length,?_,by omega,rfl⟩
 rw [szShipS_eq _ _ (by omega) (by omega) (by omega),if_neg (by omega)]
end Go.Proofs.Ytheenidapjkboaa.G.Pure
end

section
namespace Go.Proofs.Ytheenidapjkboaa.G.Pure
open Go.RowKit Go.Proofs.Ytheenidapjkboaa.G Go.Proofs.YtheenidapjkboaaW.PrintWords Go.Proofs.YtheenidapjkboaaW.PrintLast Go.Proofs.YtheenidapjkboaaW.PrintMore
set_option linter.unusedVariables false
set_option linter.unusedSimpArgs false
theorem FnExactReadByAll (l0 : List (S111)) (l1 : List Int) (l2 : List (S146)) (h00 : l0.length ≤ 9223372036854775807) (h01 : (∀ x ∈ l0,(Lit.int .i8 x.f0).wf = true ∧ (Lit.int .i8 x.f1).wf = true ∧ (Lit.int .i8 x.f2).wf = true)) (h10 : l1.length ≤ 9223372036854775807) (h11 : (∀ x ∈ l1,(Lit.int .i8 x).wf = true)) (h20 : l2.length ≤ 9223372036854775807) (h21 : (∀ x ∈ l2,(Lit.int .i8 x.f0).wf = true ∧ (Lit.int .i8 x.f1).wf = true ∧ (Lit.int .i8 x.f2).wf = true)) : ∃ k,laws_FnExactReadByAll.f k l0 l1 l2 = some true := by
 obtain ⟨k,hk⟩ : ∃ k,3000000 < k := ⟨_,Nat.lt_succ_self _⟩
 refine ⟨k + 4,?_⟩
 unfold laws_FnExactReadByAll.f
 by_cases hH : (l1.length : Int) > 1048576
 ·rw [if_pos hH]
 ·rw [if_neg hH]
  by_cases hL : l0.length ≤ 1048576
  ·obtain ⟨n,hn,hn0,hn1⟩ := szShipS_small hL
   rw [hn]
   simp only [Option.bind_some]
   rw [if_neg hn0,szFaultS_eq _ _ (by omega) (by omega) h20]
   simp only [Option.bind_some]
   by_cases hF : n - l2.length < 0
   ·rw [if_pos hF,if_pos (by omega)]
   ·rw [if_neg hF,if_neg hF]
    have hw := wf_map h01
    have hwf : wfF (l2.map faultOf) := wf_faults h21
    have hL' : (l0.map shipOf).length ≤ 1048576 := by simpa using hL
    have hF' : (l2.map faultOf).length ≤ 1048576 := by rw [List.length_map];omega
    have hH' : l1.length ≤ 1048576 := by omega
    have e1 := fun j => toShipS_eq (k + j) l0 hL (by omega)
    have e2 := fun j => toHoist_eq (k + j) l1 hH' (by omega)
    have e3 := fun j => toFaultS_eq (k + j) l2 (by omega) (by omega)
    have q1 := fun j => eqShipS_self (k + j) (l0.map shipOf) hL' (by omega)
    have q2 := fun j => eqHoist_self (k + j) l1 hH' (by omega)
    have q3 := fun j => eqFaultS_self (k + j) (l2.map faultOf) hF' (by omega)
    have s1 := fun j => specRead_eq (k := k + j) hw h11 hwf hL' hH' (by omega)
    have i1 := fun j => implRead_eq (k := k + j) hw h11 hwf hL' hH' hF' (by omega)
    obtain ⟨hlen,hin⟩ := resRead_small hw h11 hwf hL' hH'
    have t1 := fun j => eqHoistS_self (k := k + j) hlen hin (by omega)
    obtain ⟨x1,m1,hm1,hm10,hm11⟩ := markShipS_from (k + 3) (l0.map shipOf) 1 hL' (by omega) (by omega) (by omega)
    obtain ⟨x2,m2,hm2,hm20,hm21⟩ := markHoist_from (k + 3) l1 m1 hH' (by omega) hm10 (by omega)
    obtain ⟨x3,m3,hm3,hm30,_⟩ := markFaultS_from (k + 3) (l2.map faultOf) m2 hF' (by omega) hm20 (by omega)
    obtain ⟨l,m',ha,hb,hm5⟩ := markHoistS_held (k := k + 2) hlen hin (by omega)
    have hb0 := hb (k + 1) (by omega)
    have hb1 := hb (k + 2) (by omega)
    generalize resRead (l0.map shipOf) l1 (l2.map faultOf) = res at *
    simp [laws_FnExactReadByAll.j0,laws_FnExactReadByAll.j1,laws_FnExactReadByAll.j2,e1,e2,e3,q1,q2,q3,s1,i1,t1,hm1,hm2,hm3,ha,hb0,hb1,Int.not_lt.2 hm30,Int.not_lt.2 hm5]
  ·rw [szShipS_big h00 hL]
   rfl
end Go.Proofs.Ytheenidapjkboaa.G.Pure
end
