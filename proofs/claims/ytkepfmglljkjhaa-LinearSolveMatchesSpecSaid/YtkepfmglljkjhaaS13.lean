/-
  A region that draws its order, by ONE invariant over what has come up so far: each operation is stepped once, not once an order.
-/
import Derived.Deep.RegionHeld3
import Derived.Lib.Hide
namespace Go.Proofs.Ytkepfmglljkjhaa
open Go.RowKit
set_option linter.unusedVariables false
set_option linter.unusedSimpArgs false

/-- A frame in which some slots hold given values. -/
def puts : Act → List Nat → List Value → Act
  | a, d :: ds, v :: vs => puts (a.put (some d) v) ds vs
  | a, _, _ => a
/-- Does o wait for number k? -/
def waits (md : Region.Mode) (o : Oper) (k : Nat) : Bool := o.after.toList.any fun e => Region.binds md e && e.on == k
/-- All edges that bind lead to lower numbers. -/
def downward (md : Region.Mode) (ops : Array Oper) : Bool := (List.range ops.size).all fun i => ((ops[i]?).map fun o => o.after.all fun e => !Region.binds md e || decide (e.on < i)).getD true
theorem downward_spec {md : Region.Mode} {ops : Array Oper} (h : downward md ops = true) {i : Nat} {o : Oper} (ho : ops[i]? = some o) : ∀ e ∈ o.after, Region.binds md e = true → e.on < i := by
  have hi : i < ops.size := (Array.getElem?_eq_some_iff.1 ho).1
  have h1 := List.all_eq_true.1 h i (List.mem_range.2 hi)
  simp only [ho, Option.map_some, Option.getD_some, Array.all_eq_true_iff_forall_mem, Bool.or_eq_true, decide_eq_true_eq] at h1
  exact fun e he hb => (h1 e he).resolve_left (by simp [hb])
theorem waits_spec {md : Region.Mode} {o : Oper} {L : Nat → Bool} (h : ∀ e ∈ o.after, Region.binds md e = true → L e.on = true) {k : Nat} (hk : waits md o k = true) : L k = true := by
  unfold waits at hk
  obtain ⟨e, he, hb⟩ := List.any_eq_true.1 hk
  have he := Array.mem_toList_iff.1 he
  simp only [Bool.and_eq_true, beq_iff_eq] at hb
  rw [← hb.2]
  exact h e he hb.1
def upL (L : Nat → Bool) (i : Nat) : Nat → Bool := fun k => if k = i then true else L k
def lsd (listed : Array Bool) : Nat → Bool := fun k => listed.getD k false
theorem lsd_set {listed : Array Bool} {i : Nat} (hi : i < listed.size) : lsd (listed.setIfInBounds i true) = upL (lsd listed) i := by
  funext k
  unfold lsd upL
  by_cases e : k = i
  · subst e
    rw [if_pos rfl]
    simp [hi]
  · rw [if_neg e]
    exact getD_set_ne false (fun h => e h.symm)
def left (listed : Array Bool) : Nat := listed.toList.countP (fun b => !b)
theorem countP_set : ∀ (l : List Bool) (i : Nat), l[i]? = some false → (l.set i true).countP (fun b => !b) + 1 = l.countP (fun b => !b)
  | [], i, h => by simp at h
  | b :: l, 0, h => by
    obtain rfl : b = false := by simpa using h
    simp
  | b :: l, i + 1, h => by
    have ih := countP_set l i (by simpa using h)
    rw [List.set_cons_succ, List.countP_cons, List.countP_cons, ← ih]
    omega
theorem left_set {listed : Array Bool} {i : Nat} (h : listed[i]? = some false) : left (listed.setIfInBounds i true) + 1 = left listed := by
  unfold left
  rw [Array.toList_setIfInBounds]
  exact countP_set _ _ (by simpa using h)
theorem left_zero {listed : Array Bool} (h : left listed = 0) {i : Nat} (hi : i < listed.size) : listed.getD i true = true := by
  unfold left at h
  rw [List.countP_eq_zero] at h
  have := h listed[i] (by simp)
  simp only [Array.getD_eq_getD_getElem?, Array.getElem?_eq_getElem hi, Option.getD_some]
  simpa using this

section
variable {P : Program} {ops : Array Oper} {Q : Exit → Act → World → Prop} {md : Region.Mode} {S : World → Prop} {a0 : Act} {ds : List Nat} {I : (Nat → Bool) → List Value → World → Prop}

/-- Each of the operations keeps the invariant. -/
def StepsI (P : Program) (md : Region.Mode) (ops : Array Oper) (Q : Exit → Act → World → Prop) (S : World → Prop) (a0 : Act) (ds : List Nat) (I : (Nat → Bool) → List Value → World → Prop) (rs : List Nat) : Prop :=
  ∀ i ∈ rs, ∀ (o : Oper), ops[i]? = some o → ∀ (L : Nat → Bool) (vs : List Value) (w : World), L i = false → (∀ k, waits md o k = true → L k = true) → I L vs w → S w →
    wpOp P ops Q i (fun a' w' => S w' ∧ ∃ vs', a' = puts a0 ds vs' ∧ I (upL L i) vs' w') (puts a0 ds vs) w
theorem StepsI.nil : StepsI P md ops Q S a0 ds I [] := fun _ h => by cases h
theorem StepsI.cons {i : Nat} {o : Oper} {rs : List Nat} (ho : ops[i]? = some o)
    (h : ∀ (L : Nat → Bool) (vs : List Value) (w : World), Hid (L i = false) → Hid (∀ k, waits md o k = true → L k = true) → Hid (I L vs w) → S w → ∀ a : Act, a = puts a0 ds vs → ∀ K' : Act → World → Prop, Shut (∀ vs' a' w', S w' → I (upL L i) vs' w' → a' = puts a0 ds vs' → K' a' w') →
      if Region.wanted o (yielded ops a.tmps) = true then Oper.wp P o a w K' Q else K' (a.put o.dst undef) w)
    (hs : StepsI P md ops Q S a0 ds I rs) : StepsI P md ops Q S a0 ds I (i :: rs) := fun j hj o' ho' L vs w hL hd hI hS => by
  rcases List.mem_cons.1 hj with rfl | hj
  · rw [ho] at ho'
    injection ho' with ho'
    subst ho'
    exact wpOp_step ho fun K' hK => h L vs w (Lib.hid hL) (Lib.hid hd) (Lib.hid hI) hS _ rfl K' (fun vs' a' w' hS' hI' e => hK a' w' ⟨hS', vs', e, hI'⟩)
  · exact hs j hj o' ho' L vs w hL hd hI hS
theorem wpAnyH_inv (rs : List Nat) (hdown : downward md ops = true) (hst : StepsI P md ops Q S a0 ds I rs)
    (hdone : ∀ (L : Nat → Bool) (vs : List Value) (w : World), (∀ i, i < ops.size → L i = true) → I L vs w → S w → Q .normal (puts a0 ds vs) w) :
    ∀ (fuel : Nat) (listed : Array Bool) (vs : List Value) (w : World), left listed = fuel → listed.size = ops.size → (∀ i, i ∉ rs → i < ops.size → lsd listed i = true) → I (lsd listed) vs w → S w →
      wpAnyH P md ops Q S fuel listed (puts a0 ds vs) w := by
  intro fuel
  induction fuel with
  | zero =>
    intro listed vs w hf hsz hin hI hS
    have hall : ∀ i, i < ops.size → lsd listed i = true := fun i hi => by
      have := left_zero hf (i := i) (by omega)
      unfold lsd
      simp only [Array.getD_eq_getD_getElem?, Array.getElem?_eq_getElem (show i < listed.size by omega), Option.getD_some] at this ⊢
      exact this
    refine ⟨?_, hdone _ _ _ hall hI hS⟩
    rw [List.eq_nil_iff_forall_not_mem]
    intro i hi
    obtain ⟨h0, o, ho, _⟩ := mem_ready.1 hi
    have hlt : i < ops.size := (Array.getElem?_eq_some_iff.1 ho).1
    have := left_zero hf (i := i) (by omega)
    rw [this] at h0
    cases h0
  | succ fuel ih =>
    intro listed vs w hf hsz hin hI hS
    refine ⟨fun hr => ?_, fun i hi => ?_⟩
    · refine hdone _ _ _ (fun i hi => ?_) hI hS
      induction i using Nat.strongRecOn with
      | ind i ihs =>
        have hnr : i ∉ Region.ready md ops listed := by rw [hr]; simp
        rw [mem_ready] at hnr
        cases hc : lsd listed i with
        | true => rfl
        | false =>
          exfalso
          refine hnr ⟨?_, ops[i], Array.getElem?_eq_getElem hi, fun e he hb => ?_⟩
          · unfold lsd at hc
            simp only [Array.getD_eq_getD_getElem?, Array.getElem?_eq_getElem (show i < listed.size by omega), Option.getD_some] at hc ⊢
            exact hc
          · have hlt := downward_spec hdown (Array.getElem?_eq_getElem hi) e he hb
            exact ihs e.on hlt (by omega)
    · obtain ⟨h0, o, ho, hdeps⟩ := mem_ready.1 hi
      have hlt : i < ops.size := (Array.getElem?_eq_some_iff.1 ho).1
      have hli : listed[i]? = some false := by
        simp only [Array.getD_eq_getD_getElem?, Array.getElem?_eq_getElem (show i < listed.size by omega), Option.getD_some] at h0
        rw [Array.getElem?_eq_getElem (show i < listed.size by omega), h0]
      have hL : lsd listed i = false := by unfold lsd; simp [hli]
      have hirs : i ∈ rs := by
        by_cases h : i ∈ rs
        · exact h
        · have := hin i h hlt; rw [hL] at this; cases this
      refine wpOp_mono ?_ (hst i hirs o ho (lsd listed) vs w hL (fun k hk => waits_spec (L := lsd listed) hdeps hk) hI hS)
      rintro a' w' ⟨hS', vs', rfl, hI'⟩
      refine ⟨hS', ih _ vs' w' ?_ ?_ ?_ ?_ hS'⟩
      · have := left_set hli; omega
      · simp [hsz]
      · intro k hk hkl
        rw [lsd_set (by omega)]
        unfold upL
        split
        · rfl
        · exact hin k hk hkl
      · rw [lsd_set (by omega)]; exact hI'
def gets (a : Act) (ds : List Nat) : List Value := ds.map fun d => a.tmps.getD d undef
theorem put_get (a : Act) (d : Nat) : a.put (some d) (a.tmps.getD d undef) = a := by
  unfold Act.put
  cases a with
  | mk t f =>
    simp only [Array.getD_eq_getD_getElem?]
    congr 1
    by_cases h : d < t.size
    · simp only [Array.getElem?_eq_getElem h, Option.getD_some]
      unfold Array.setIfInBounds
      rw [dif_pos h]
      exact Array.set_getElem_self h
    · simp [Array.setIfInBounds, h]
theorem puts_gets (a : Act) (ds : List Nat) : puts a ds (gets a ds) = a := by
  induction ds with
  | nil => rfl
  | cons d ds ih =>
    show puts (a.put (some d) (a.tmps.getD d undef)) ds (gets a ds) = a
    rw [put_get]
    exact ih
/-- From the walk's own goal on. -/
theorem wpAnyH_start {fuel : Nat} {listed : Array Bool} {a : Act} {w : World} (ds : List Nat) (I : (Nat → Bool) → List Value → World → Prop) (rs : List Nat) (hdown : downward md ops = true) (hf : left listed = fuel) (hsz : listed.size = ops.size)
    (hl : ((List.range ops.size).all fun i => rs.contains i || lsd listed i) = true) (hI : I (lsd listed) (gets a ds) w) (hS : S w)
    (hst : StepsI P md ops Q S a ds I rs)
    (hdone : ∀ (L : Nat → Bool) (vs : List Value) (w : World), (∀ i, i < ops.size → L i = true) → I L vs w → S w → Q .normal (puts a ds vs) w) : wpAnyH P md ops Q S fuel listed a w := by
  have h := wpAnyH_inv (I := I) rs hdown hst hdone fuel listed (gets a ds) w hf hsz (fun i hi hlt => by
    have := List.all_eq_true.1 hl i (List.mem_range.2 hlt)
    simp only [Bool.or_eq_true, List.contains_iff_mem] at this
    exact this.resolve_left hi) hI hS
  rw [puts_gets] at h
  exact h
end
end Go.Proofs.Ytkepfmglljkjhaa
