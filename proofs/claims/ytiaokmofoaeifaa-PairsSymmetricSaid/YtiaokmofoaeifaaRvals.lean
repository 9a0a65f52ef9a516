/-
  The greatest values of facts that no operator can lower: a plain law: they are one, and both programs come to them.
-/
import Derived.Test.YtiaokmofoaeifaaTask
import Derived.Test.YtiaokmofoaeifaaRplain
namespace Go.Proofs.Ytiaokmofoaeifaa
set_option linter.unusedVariables false
set_option linter.unusedSimpArgs false

theorem stepV_mono {s : Bool} {o v o' v' : Int} (ho : InV o) (hv : InV v) (ho' : InV o') (hv' : InV v') (h : o ≤ o') (k : v ≤ v') : stepV s o v ≤ stepV s o' v' := by
  cases s
  · unfold stepV; dsimp only; (repeat split) <;> omega
  · exact plusV_mono ho hv ho' hv' h k
/-- No value of U is greater than that of V. -/
def LeV (U V : List Int) : Prop := ∀ p, valAt U p ≤ valAt V p
theorem foldV_mono {s : Bool} {U V : List Int} (hU : AllV U) (hV : AllV V) (h : LeV U V) : ∀ (xs : List Int) (o o' : Int), InV o → InV o' → o ≤ o' →
    xs.foldl (fun o p => stepV s o (valAt U p)) o ≤ xs.foldl (fun o p => stepV s o (valAt V p)) o' := by
  intro xs
  induction xs with
  | nil => intro o o' _ _ h; exact h
  | cons x xs ih =>
    intro o o' ho ho' hle
    exact ih _ _ (stepV_in ho (valAt_in hU x)) (stepV_in ho' (valAt_in hV x)) (stepV_mono ho (valAt_in hU x) ho' (valAt_in hV x) hle (h x))
theorem combV_mono {s : Bool} {U V : List Int} (hU : AllV U) (hV : AllV V) (h : LeV U V) (xs : List Int) : combV s U xs ≤ combV s V xs := foldV_mono hU hV h xs 0 0 InV.zero InV.zero (Int.le_refl _)

/-- The value of a fact by an operator. -/
def opV (s : Bool) (V : List Int) (o : OpV) (c : Int) : Int := plusV (combV s V o.pre) c
theorem opV_in {s : Bool} {V : List Int} (h : AllV V) (o : OpV) {c : Int} (hc : InV c) : InV (opV s V o c) := plusV_in (combV_in h _) hc
theorem opV_mono {s : Bool} {U V : List Int} (hU : AllV U) (hV : AllV V) (h : LeV U V) (o : OpV) {c : Int} (hc : InV c) : opV s U o c ≤ opV s V o c :=
  plusV_mono (combV_in hU _) hc (combV_in hV _) hc (combV_mono hU hV h _) (Int.le_refl _)

/-- No operator lowers a value, among the first k operators. -/
def ClosedTo (s : Bool) (ops : List OpV) (cs : List Int) (k : Nat) (U : List Int) : Prop :=
  ∀ (i : Nat) (o : OpV) (c : Int), i < k → ops[i]? = some o → cs[i]? = some c → ∀ p ∈ o.add, valAt U p ≤ opV s U o c
structure Shape (n : Nat) (st : List Int) (U : List Int) : Prop where
  len : U.length = n
  all : AllV U
  zero : ∀ p ∈ st, valAt U p = 0
structure Fix (s : Bool) (n : Nat) (st : List Int) (ops : List OpV) (cs : List Int) (U : List Int) : Prop where
  shape : Shape n st U
  closed : ClosedTo s ops cs ops.length U
structure Above (s : Bool) (n : Nat) (st : List Int) (ops : List OpV) (cs : List Int) (V : List Int) : Prop where
  shape : Shape n st V
  great : ∀ U, Fix s n st ops cs U → LeV U V
structure Best (s : Bool) (n : Nat) (st : List Int) (ops : List OpV) (cs : List Int) (V : List Int) : Prop where
  fix : Fix s n st ops cs V
  great : ∀ U, Fix s n st ops cs U → LeV U V
/-- The values. -/
noncomputable def valuesV (s : Bool) (n : Nat) (st : List Int) (ops : List OpV) (cs : List Int) : List Int := @Classical.epsilon _ ⟨[]⟩ (Best s n st ops cs)

theorem valAt_getElem {U : List Int} {i : Nat} (h : i < U.length) : valAt U (i : Int) = U[i] := by
  unfold valAt; simp [h]
theorem eq_of_LeV {U V : List Int} (h : U.length = V.length) (h1 : LeV U V) (h2 : LeV V U) : U = V := by
  apply List.ext_getElem h
  intro i hi hj
  rw [← valAt_getElem hi, ← valAt_getElem hj]
  exact Int.le_antisymm (h1 _) (h2 _)
theorem best_eq {s : Bool} {n : Nat} {st : List Int} {ops : List OpV} {cs : List Int} {V : List Int} (h : Best s n st ops cs V) : V = valuesV s n st ops cs := by
  have h2 : Best s n st ops cs (valuesV s n st ops cs) := @Classical.epsilon_spec _ (Best s n st ops cs) ⟨V, h⟩
  exact eq_of_LeV (h.fix.shape.len.trans h2.fix.shape.len.symm) (h2.great _ h.fix) (h.great _ h2.fix)
theorem best_of {s : Bool} {n : Nat} {st : List Int} {ops : List OpV} {cs : List Int} {V : List Int} (h : Above s n st ops cs V) (hc : ClosedTo s ops cs ops.length V) : Best s n st ops cs V := ⟨⟨h.shape, hc⟩, h.great⟩
theorem values_best {s : Bool} {n : Nat} {st : List Int} {ops : List OpV} {cs : List Int} {V : List Int} (h : Best s n st ops cs V) : Best s n st ops cs (valuesV s n st ops cs) := by rw [← best_eq h]; exact h

theorem valAt_set {V : List Int} {i : Nat} {x p : Int} (h : i < V.length) : valAt (V.set i x) p = if p.toNat = i then x else valAt V p := by
  unfold valAt
  rw [List.getElem?_set]
  by_cases e : i = p.toNat
  · rw [if_pos e, if_pos h, if_pos e.symm]; rfl
  · rw [if_neg e, if_neg (fun k => e k.symm)]
theorem allV_set {V : List Int} (h : AllV V) (i : Nat) {x : Int} (hx : InV x) : AllV (V.set i x) := fun v hv => by
  rcases List.mem_or_eq_of_mem_set hv with h1 | h1
  · exact h v h1
  · subst h1; exact hx
def sumV (V : List Int) : Nat := (V.map Int.toNat).sum
theorem sum_set {V : List Int} : ∀ {i : Nat} {x y : Int}, V[i]? = some y → 0 ≤ x → x < y → sumV (V.set i x) < sumV V := by
  induction V with
  | nil => intro i x y h; simp at h
  | cons a V ih =>
    intro i x y h h0 hlt
    cases i with
    | zero => simp at h; subst h; simp [sumV]; omega
    | succ i => have := ih (by simpa using h) h0 hlt; simp only [sumV, List.set_cons_succ, List.map_cons, List.sum_cons] at *; omega
theorem LeV.trans {U V W : List Int} (h : LeV U V) (k : LeV V W) : LeV U W := fun p => Int.le_trans (h p) (k p)
theorem LeV.refl (U : List Int) : LeV U U := fun _ => Int.le_refl _
theorem LeV.set_ {V : List Int} {i : Nat} {x y : Int} (h : V[i]? = some y) (hx : x ≤ y) : LeV (V.set i x) V := fun p => by
  rw [valAt_set (List.getElem?_eq_some_iff.1 h).1]
  split
  · rename_i e; subst e; rw [valAt_of h]; exact hx
  · exact Int.le_refl _

/-- No post-fixed point is above v at the facts that an operator adds. -/
def Bound (s : Bool) (n : Nat) (st : List Int) (ops : List OpV) (cs : List Int) (o : OpV) (v : Int) : Prop := ∀ U, Fix s n st ops cs U → ∀ p ∈ o.add, valAt U p ≤ v
section
variable {s : Bool} {n : Nat} {st : List Int} {ops : List OpV} {cs V : List Int}
theorem bound_of (h : Above s n st ops cs V) {i : Nat} {o : OpV} {c : Int} (ho : ops[i]? = some o) (hc : cs[i]? = some c) (hcv : InV c) : Bound s n st ops cs o (opV s V o c) :=
  fun U hU p hp => Int.le_trans (hU.closed i o c (List.getElem?_eq_some_iff.1 ho).1 ho hc p hp) (opV_mono hU.shape.all h.shape.all (h.great U hU) o hcv)
theorem above_set (h : Above s n st ops cs V) {o : OpV} {v p y : Int} (hb : Bound s n st ops cs o v) (hp : p ∈ o.add) (hv : InV v) (hy : V[p.toNat]? = some y) (hlt : v < y) : Above s n st ops cs (V.set p.toNat v) := by
  have hl := (List.getElem?_eq_some_iff.1 hy).1
  refine ⟨⟨by rw [List.length_set]; exact h.shape.len, allV_set h.shape.all _ hv, fun q hq => ?_⟩, fun U hU q => ?_⟩
  · rw [valAt_set hl]
    split
    · rename_i e
      have h1 := h.shape.zero q hq
      rw [valAt_of (v := y) (by rw [e]; exact hy)] at h1
      unfold InV at hv
      omega
    · exact h.shape.zero q hq
  · rw [valAt_set hl]
    split
    · rename_i e
      have h1 := hb U hU p hp
      unfold valAt at h1 ⊢
      rw [e]; exact h1
    · exact h.great U hU q
end

/-- The values at the start. -/
def initV (n : Nat) (st : List Int) : List Int := (List.range n).map fun (p : Nat) => if (p : Int) ∈ st then (0 : Int) else 1000000000
theorem initV_len (n : Nat) (st : List Int) : (initV n st).length = n := by simp [initV]
theorem initV_get {n p : Nat} {st : List Int} (h : p < n) : (initV n st)[p]? = some (if (p : Int) ∈ st then 0 else 1000000000) := by simp [initV, h]
theorem initV_all (n : Nat) (st : List Int) : AllV (initV n st) := fun v hv => by
  obtain ⟨p, _, rfl⟩ := List.mem_map.1 hv
  split
  · exact InV.zero
  · exact InV.inf
theorem initV_above {s : Bool} {n : Nat} {st : List Int} {ops : List OpV} {cs : List Int} (hst : ∀ p ∈ st, 0 ≤ p ∧ p < (n : Int)) : Above s n st ops cs (initV n st) := by
  refine ⟨⟨initV_len n st, initV_all n st, fun p hp => ?_⟩, fun U hU p => ?_⟩
  · have h1 := hst p hp
    rw [valAt_of (initV_get (p := p.toNat) (by omega)), if_pos (by rw [Int.toNat_of_nonneg h1.1]; exact hp)]
  · have hU1 := valAt_in hU.shape.all p
    unfold InV at hU1
    rcases Nat.lt_or_ge p.toNat n with h | h
    · rw [valAt_of (initV_get h)]
      split
      · rename_i hm
        have h2 := hU.shape.zero _ hm
        unfold valAt at h2 ⊢
        simp only [Int.toNat_natCast] at h2
        omega
      · exact hU1.2
    · unfold valAt
      rw [List.getElem?_eq_none (by rw [hU.shape.len]; exact h), List.getElem?_eq_none (by rw [initV_len]; exact h)]
      exact Int.le_refl _

def init2 (n : Nat) (l : List Int) : List Int := l.foldl (fun vs p => vs.set p.toNat 0) (List.replicate n 1000000000)
theorem init2_nil (n : Nat) : init2 n [] = List.replicate n 1000000000 := rfl
theorem init2_succ {n k : Nat} {l : List Int} {x : Int} (h : l[k]? = some x) : init2 n (l.take (k + 1)) = (init2 n (l.take k)).set x.toNat 0 := by
  unfold init2
  rw [List.take_add_one, h]
  simp only [Option.toList, List.foldl_append, List.foldl_cons, List.foldl_nil]
theorem init2_len (n : Nat) (l : List Int) : (init2 n l).length = n := by
  have : ∀ (l : List Int) (vs : List Int), (l.foldl (fun vs p => vs.set p.toNat 0) vs).length = vs.length := by
    intro l
    induction l with
    | nil => intro vs; rfl
    | cons x l ih => intro vs; rw [List.foldl_cons, ih, List.length_set]
  unfold init2
  rw [this, List.length_replicate]
theorem init2_get : ∀ (l : List Int) (vs : List Int) (p : Nat), (∀ x ∈ l, 0 ≤ x) → p < vs.length → (l.foldl (fun vs p => vs.set p.toNat (0 : Int)) vs)[p]? = if (p : Int) ∈ l then some 0 else vs[p]? := by
  intro l
  induction l with
  | nil => intro vs p _ _; rfl
  | cons x l ih =>
    intro vs p h hp
    rw [List.foldl_cons, ih _ _ (fun y hy => h y (List.mem_cons_of_mem _ hy)) (by rw [List.length_set]; exact hp)]
    have hx := h x (List.mem_cons_self ..)
    by_cases e : (p : Int) ∈ l
    · rw [if_pos e, if_pos (List.mem_cons_of_mem _ e)]
    · rw [if_neg e, List.getElem?_set]
      by_cases e2 : x.toNat = p
      · rw [if_pos e2, if_pos (by omega), if_pos (by have : (p : Int) = x := by omega
                                                     rw [this]; exact List.mem_cons_self ..)]
      · rw [if_neg e2, if_neg (fun k => by
          rcases List.mem_cons.1 k with k | k
          · omega
          · exact e k)]
theorem init2_eq {n : Nat} {l : List Int} (h : ∀ p ∈ l, 0 ≤ p ∧ p < (n : Int)) : init2 n l = initV n l := by
  apply List.ext_getElem?
  intro p
  rcases Nat.lt_or_ge p n with hp | hp
  · rw [initV_get hp]
    unfold init2
    rw [init2_get l _ p (fun x hx => (h x hx).1) (by simpa using hp)]
    split
    · rfl
    · simp [hp]
  · rw [List.getElem?_eq_none (by rw [init2_len]; exact hp), List.getElem?_eq_none (by rw [initV_len]; exact hp)]
theorem fill_zero (n : Nat) (x y : Int) : List.replicate 0 x ++ List.replicate (n - 0) y = List.replicate n y := by simp
theorem fill_succ {n k : Nat} (h : k < n) (x y : Int) : (List.replicate k x ++ List.replicate (n - k) y).set k x = List.replicate (k + 1) x ++ List.replicate (n - (k + 1)) y := by
  apply List.ext_getElem?
  intro p
  simp only [List.getElem?_set, List.getElem?_append, List.getElem?_replicate, List.length_append, List.length_replicate]
  by_cases e : k = p
  · subst e; simp; omega
  · simp only [e, if_false]
    by_cases e1 : p < k
    · rw [if_pos e1, if_pos e1, if_pos (by omega), if_pos (by omega)]
    · rw [if_neg e1, if_neg (by omega : ¬ p < k + 1)]
      by_cases e2 : p < n
      · rw [if_pos (by omega), if_pos (by omega)]
      · rw [if_neg (by omega), if_neg (by omega)]
theorem fill_all {n k : Nat} (h : ¬ k < n) (hk : k ≤ n) (x y : Int) : List.replicate k x ++ List.replicate (n - k) y = List.replicate n x := by
  have : k = n := by omega
  subst this; simp
theorem fill_len {n k : Nat} (hk : k ≤ n) (x y : Int) : (List.replicate k x ++ List.replicate (n - k) y).length = n := by simp; omega
section
variable {s : Bool} {n : Nat} {st : List Int} {ops : List OpV} {cs V : List Int}
theorem closedTo_succ {k : Nat} {o : OpV} {c : Int} (h : ClosedTo s ops cs k V) (ho : ops[k]? = some o) (hc : cs[k]? = some c) (h2 : ∀ p ∈ o.add, valAt V p ≤ opV s V o c) : ClosedTo s ops cs (k + 1) V := by
  intro i o' c' hi ho' hc' p hp
  by_cases e : i = k
  · subst e
    rw [ho] at ho'; injection ho' with ho'; subst ho'
    rw [hc] at hc'; injection hc' with hc'; subst hc'
    exact h2 p hp
  · exact h i o' c' (by omega) ho' hc' p hp
theorem closedTo_zero : ClosedTo s ops cs 0 V := fun i o c hi => absurd hi (by omega)
end

end Go.Proofs.Ytiaokmofoaeifaa
