/-
  Values of facts without deletions: plain words, no program in sight.
  The greatest values of facts that no operator can lower: a plain law: they are one, and both programs come to them.
  What can be reached without deletions: a plain law.
  A set with a number added; what is reached, as a list: plain laws.
  Plain laws of the values: greatest values are at most the sums; both are infinite for the same facts.
  The states of a plan: a plain law.
-/
import Init
import Derived.Test.YtkepfmglljkjhaaMA
import Derived.Test.YtkepfmglljkjhaaMB
namespace Go.Proofs.Ytkepfmglljkjhaa
set_option linter.unusedVariables false

/-- A sum of two values. -/
def plusV (a b : Int) : Int := if a = 1000000000 ∨ b = 1000000000 then 1000000000 else if a + b ≥ 1000000000 then 999999999 else a + b
theorem plusV_inf {a b : Int} (h : a = 1000000000 ∨ b = 1000000000) : plusV a b = 1000000000 := by unfold plusV; rw [if_pos h]
theorem plusV_big {a b : Int} (h : ¬ (a = 1000000000 ∨ b = 1000000000)) (h2 : a + b ≥ 1000000000) : plusV a b = 999999999 := by unfold plusV; rw [if_neg h, if_pos h2]
theorem plusV_sum {a b : Int} (h : ¬ (a = 1000000000 ∨ b = 1000000000)) (h2 : ¬ a + b ≥ 1000000000) : plusV a b = a + b := by unfold plusV; rw [if_neg h, if_neg h2]
/-- A value: from 0 to infinite. -/
def InV (v : Int) : Prop := 0 ≤ v ∧ v ≤ 1000000000
theorem InV.zero : InV 0 := by unfold InV; omega
theorem InV.inf : InV 1000000000 := by unfold InV; omega
theorem plusV_in {a b : Int} (ha : InV a) (hb : InV b) : InV (plusV a b) := by unfold InV at *; unfold plusV; split <;> (try split) <;> omega
theorem plusV_mono {a b c d : Int} (ha : InV a) (hb : InV b) (hc : InV c) (hd : InV d) (h : a ≤ c) (k : b ≤ d) : plusV a b ≤ plusV c d := by unfold InV at *; unfold plusV; (repeat split) <;> omega
theorem plusV_ge_left {a b : Int} (ha : InV a) (hb : InV b) : a ≤ plusV a b := by unfold InV at *; unfold plusV; split <;> (try split) <;> omega
theorem plusV_ge_right {a b : Int} (ha : InV a) (hb : InV b) : b ≤ plusV a b := by unfold InV at *; unfold plusV; split <;> (try split) <;> omega

/-- The value of a fact in a list of values. -/
def valAt (vs : List Int) (p : Int) : Int := (vs[p.toNat]?).getD 0
def stepV (sum : Bool) (o v : Int) : Int := match sum with | true => plusV o v | false => if v > o then v else o
/-- The combination of the values of facts. -/
def combV (sum : Bool) (vs : List Int) (xs : List Int) : Int := xs.foldl (fun o p => stepV sum o (valAt vs p)) 0
def AllV (vs : List Int) : Prop := ∀ v ∈ vs, InV v
theorem stepV_in {s : Bool} {o v : Int} (ho : InV o) (hv : InV v) : InV (stepV s o v) := by
  cases s
  · unfold stepV InV at *; dsimp only; split <;> omega
  · exact plusV_in ho hv
theorem valAt_in {vs : List Int} (h : AllV vs) (p : Int) : InV (valAt vs p) := by
  unfold valAt
  cases e : vs[p.toNat]? with
  | none => exact InV.zero
  | some v => exact h v (List.mem_of_getElem? e)
theorem valAt_of {vs : List Int} {p v : Int} (h : vs[p.toNat]? = some v) : valAt vs p = v := by unfold valAt; rw [h]; rfl
theorem foldV_in {s : Bool} {vs : List Int} (h : AllV vs) : ∀ (xs : List Int) (o : Int), InV o → InV (xs.foldl (fun o p => stepV s o (valAt vs p)) o) := by
  intro xs
  induction xs with
  | nil => intro o ho; exact ho
  | cons x xs ih => intro o ho; exact ih _ (stepV_in ho (valAt_in h x))
theorem combV_in {s : Bool} {vs : List Int} (h : AllV vs) (xs : List Int) : InV (combV s vs xs) := foldV_in h xs 0 InV.zero
theorem combV_nil {s : Bool} {vs : List Int} : combV s vs [] = 0 := rfl
theorem combV_take_succ {s : Bool} {vs xs : List Int} {k : Nat} {x v : Int} (hx : xs[k]? = some x) (hv : vs[x.toNat]? = some v) : combV s vs (xs.take (k + 1)) = stepV s (combV s vs (xs.take k)) v := by
  unfold combV
  rw [List.take_add_one, hx]
  simp only [Option.toList, List.foldl_append, List.foldl_cons, List.foldl_nil]
  rw [valAt_of hv]
theorem combV_take_all {s : Bool} {vs xs : List Int} {k : Nat} (h : ¬ k < xs.length) : combV s vs (xs.take k) = combV s vs xs := by rw [List.take_of_length_le (by omega)]

end Go.Proofs.Ytkepfmglljkjhaa

namespace Go.Proofs.Ytkepfmglljkjhaa
set_option linter.unusedVariables false
set_option linter.unusedSimpArgs false

theorem stepV_mono {s : Bool} {o v o' v' : Int} (ho : InV o) (hv : InV v) (ho' : InV o') (hv' : InV v') (h : o ≤ o') (k : v ≤ v') : stepV s o v ≤ stepV s o' v' := by
  cases s
  · unfold stepV; dsimp only; (repeat split) <;> omega
  · exact plusV_mono ho hv ho' hv' h k
/-- No value of U is greater than that of V. -/
def LeV (U V : List Int) : Prop := ∀ p, valAt U p ≤ valAt V p
theorem foldV_mono {s : Bool} {U V : List Int} (hU : AllV U) (hV : AllV V) (h : LeV U V) : ∀ (xs : List Int) (o o' : Int), InV o → InV o' → o ≤ o' →
    xs.foldl (fun o p => stepV s o (valAt U p)) o ≤ xs.foldl (fun o p => stepV s o (valAt V p)) o' := by
  intro xs
  induction xs with
  | nil => intro o o' _ _ h; exact h
  | cons x xs ih =>
    intro o o' ho ho' hle
    exact ih _ _ (stepV_in ho (valAt_in hU x)) (stepV_in ho' (valAt_in hV x)) (stepV_mono ho (valAt_in hU x) ho' (valAt_in hV x) hle (h x))
theorem combV_mono {s : Bool} {U V : List Int} (hU : AllV U) (hV : AllV V) (h : LeV U V) (xs : List Int) : combV s U xs ≤ combV s V xs := foldV_mono hU hV h xs 0 0 InV.zero InV.zero (Int.le_refl _)

/-- The value of a fact by an operator. -/
def opV (s : Bool) (V : List Int) (o : OpV) (c : Int) : Int := plusV (combV s V o.pre) c
theorem opV_in {s : Bool} {V : List Int} (h : AllV V) (o : OpV) {c : Int} (hc : InV c) : InV (opV s V o c) := plusV_in (combV_in h _) hc
theorem opV_mono {s : Bool} {U V : List Int} (hU : AllV U) (hV : AllV V) (h : LeV U V) (o : OpV) {c : Int} (hc : InV c) : opV s U o c ≤ opV s V o c :=
  plusV_mono (combV_in hU _) hc (combV_in hV _) hc (combV_mono hU hV h _) (Int.le_refl _)

/-- No operator lowers a value, among the first k operators. -/
def ClosedTo (s : Bool) (ops : List OpV) (cs : List Int) (k : Nat) (U : List Int) : Prop :=
  ∀ (i : Nat) (o : OpV) (c : Int), i < k → ops[i]? = some o → cs[i]? = some c → ∀ p ∈ o.add, valAt U p ≤ opV s U o c
structure Shape (n : Nat) (st : List Int) (U : List Int) : Prop where
  len : U.length = n
  all : AllV U
  zero : ∀ p ∈ st, valAt U p = 0
structure Fix (s : Bool) (n : Nat) (st : List Int) (ops : List OpV) (cs : List Int) (U : List Int) : Prop where
  shape : Shape n st U
  closed : ClosedTo s ops cs ops.length U
structure Above (s : Bool) (n : Nat) (st : List Int) (ops : List OpV) (cs : List Int) (V : List Int) : Prop where
  shape : Shape n st V
  great : ∀ U, Fix s n st ops cs U → LeV U V
structure Best (s : Bool) (n : Nat) (st : List Int) (ops : List OpV) (cs : List Int) (V : List Int) : Prop where
  fix : Fix s n st ops cs V
  great : ∀ U, Fix s n st ops cs U → LeV U V
/-- The values. -/
noncomputable def valuesV (s : Bool) (n : Nat) (st : List Int) (ops : List OpV) (cs : List Int) : List Int := @Classical.epsilon _ ⟨[]⟩ (Best s n st ops cs)

theorem valAt_getElem {U : List Int} {i : Nat} (h : i < U.length) : valAt U (i : Int) = U[i] := by
  unfold valAt; simp [h]
theorem eq_of_LeV {U V : List Int} (h : U.length = V.length) (h1 : LeV U V) (h2 : LeV V U) : U = V := by
  apply List.ext_getElem h
  intro i hi hj
  rw [← valAt_getElem hi, ← valAt_getElem hj]
  exact Int.le_antisymm (h1 _) (h2 _)
theorem best_eq {s : Bool} {n : Nat} {st : List Int} {ops : List OpV} {cs : List Int} {V : List Int} (h : Best s n st ops cs V) : V = valuesV s n st ops cs := by
  have h2 : Best s n st ops cs (valuesV s n st ops cs) := @Classical.epsilon_spec _ (Best s n st ops cs) ⟨V, h⟩
  exact eq_of_LeV (h.fix.shape.len.trans h2.fix.shape.len.symm) (h2.great _ h.fix) (h.great _ h2.fix)
theorem best_of {s : Bool} {n : Nat} {st : List Int} {ops : List OpV} {cs : List Int} {V : List Int} (h : Above s n st ops cs V) (hc : ClosedTo s ops cs ops.length V) : Best s n st ops cs V := ⟨⟨h.shape, hc⟩, h.great⟩
theorem values_best {s : Bool} {n : Nat} {st : List Int} {ops : List OpV} {cs : List Int} {V : List Int} (h : Best s n st ops cs V) : Best s n st ops cs (valuesV s n st ops cs) := by rw [← best_eq h]; exact h

theorem valAt_set {V : List Int} {i : Nat} {x p : Int} (h : i < V.length) : valAt (V.set i x) p = if p.toNat = i then x else valAt V p := by
  unfold valAt
  rw [List.getElem?_set]
  by_cases e : i = p.toNat
  · rw [if_pos e, if_pos h, if_pos e.symm]; rfl
  · rw [if_neg e, if_neg (fun k => e k.symm)]
theorem allV_set {V : List Int} (h : AllV V) (i : Nat) {x : Int} (hx : InV x) : AllV (V.set i x) := fun v hv => by
  rcases List.mem_or_eq_of_mem_set hv with h1 | h1
  · exact h v h1
  · subst h1; exact hx
def sumV (V : List Int) : Nat := (V.map Int.toNat).sum
theorem sum_set {V : List Int} : ∀ {i : Nat} {x y : Int}, V[i]? = some y → 0 ≤ x → x < y → sumV (V.set i x) < sumV V := by
  induction V with
  | nil => intro i x y h; simp at h
  | cons a V ih =>
    intro i x y h h0 hlt
    cases i with
    | zero => simp at h; subst h; simp [sumV]; omega
    | succ i => have := ih (by simpa using h) h0 hlt; simp only [sumV, List.set_cons_succ, List.map_cons, List.sum_cons] at *; omega
theorem LeV.trans {U V W : List Int} (h : LeV U V) (k : LeV V W) : LeV U W := fun p => Int.le_trans (h p) (k p)
theorem LeV.refl (U : List Int) : LeV U U := fun _ => Int.le_refl _
theorem LeV.set_ {V : List Int} {i : Nat} {x y : Int} (h : V[i]? = some y) (hx : x ≤ y) : LeV (V.set i x) V := fun p => by
  rw [valAt_set (List.getElem?_eq_some_iff.1 h).1]
  split
  · rename_i e; subst e; rw [valAt_of h]; exact hx
  · exact Int.le_refl _

/-- No post-fixed point is above v at the facts that an operator adds. -/
def Bound (s : Bool) (n : Nat) (st : List Int) (ops : List OpV) (cs : List Int) (o : OpV) (v : Int) : Prop := ∀ U, Fix s n st ops cs U → ∀ p ∈ o.add, valAt U p ≤ v
section
variable {s : Bool} {n : Nat} {st : List Int} {ops : List OpV} {cs V : List Int}
theorem bound_of (h : Above s n st ops cs V) {i : Nat} {o : OpV} {c : Int} (ho : ops[i]? = some o) (hc : cs[i]? = some c) (hcv : InV c) : Bound s n st ops cs o (opV s V o c) :=
  fun U hU p hp => Int.le_trans (hU.closed i o c (List.getElem?_eq_some_iff.1 ho).1 ho hc p hp) (opV_mono hU.shape.all h.shape.all (h.great U hU) o hcv)
theorem above_set (h : Above s n st ops cs V) {o : OpV} {v p y : Int} (hb : Bound s n st ops cs o v) (hp : p ∈ o.add) (hv : InV v) (hy : V[p.toNat]? = some y) (hlt : v < y) : Above s n st ops cs (V.set p.toNat v) := by
  have hl := (List.getElem?_eq_some_iff.1 hy).1
  refine ⟨⟨by rw [List.length_set]; exact h.shape.len, allV_set h.shape.all _ hv, fun q hq => ?_⟩, fun U hU q => ?_⟩
  · rw [valAt_set hl]
    split
    · rename_i e
      have h1 := h.shape.zero q hq
      rw [valAt_of (v := y) (by rw [e]; exact hy)] at h1
      unfold InV at hv
      omega
    · exact h.shape.zero q hq
  · rw [valAt_set hl]
    split
    · rename_i e
      have h1 := hb U hU p hp
      unfold valAt at h1 ⊢
      rw [e]; exact h1
    · exact h.great U hU q
end

/-- The values at the start. -/
def initV (n : Nat) (st : List Int) : List Int := (List.range n).map fun (p : Nat) => if (p : Int) ∈ st then (0 : Int) else 1000000000
theorem initV_len (n : Nat) (st : List Int) : (initV n st).length = n := by simp [initV]
theorem initV_get {n p : Nat} {st : List Int} (h : p < n) : (initV n st)[p]? = some (if (p : Int) ∈ st then 0 else 1000000000) := by simp [initV, h]
theorem initV_all (n : Nat) (st : List Int) : AllV (initV n st) := fun v hv => by
  obtain ⟨p, _, rfl⟩ := List.mem_map.1 hv
  split
  · exact InV.zero
  · exact InV.inf
theorem initV_above {s : Bool} {n : Nat} {st : List Int} {ops : List OpV} {cs : List Int} (hst : ∀ p ∈ st, 0 ≤ p ∧ p < (n : Int)) : Above s n st ops cs (initV n st) := by
  refine ⟨⟨initV_len n st, initV_all n st, fun p hp => ?_⟩, fun U hU p => ?_⟩
  · have h1 := hst p hp
    rw [valAt_of (initV_get (p := p.toNat) (by omega)), if_pos (by rw [Int.toNat_of_nonneg h1.1]; exact hp)]
  · have hU1 := valAt_in hU.shape.all p
    unfold InV at hU1
    rcases Nat.lt_or_ge p.toNat n with h | h
    · rw [valAt_of (initV_get h)]
      split
      · rename_i hm
        have h2 := hU.shape.zero _ hm
        unfold valAt at h2 ⊢
        simp only [Int.toNat_natCast] at h2
        omega
      · exact hU1.2
    · unfold valAt
      rw [List.getElem?_eq_none (by rw [hU.shape.len]; exact h), List.getElem?_eq_none (by rw [initV_len]; exact h)]
      exact Int.le_refl _

def init2 (n : Nat) (l : List Int) : List Int := l.foldl (fun vs p => vs.set p.toNat 0) (List.replicate n 1000000000)
theorem init2_nil (n : Nat) : init2 n [] = List.replicate n 1000000000 := rfl
theorem init2_succ {n k : Nat} {l : List Int} {x : Int} (h : l[k]? = some x) : init2 n (l.take (k + 1)) = (init2 n (l.take k)).set x.toNat 0 := by
  unfold init2
  rw [List.take_add_one, h]
  simp only [Option.toList, List.foldl_append, List.foldl_cons, List.foldl_nil]
theorem init2_len (n : Nat) (l : List Int) : (init2 n l).length = n := by
  have : ∀ (l : List Int) (vs : List Int), (l.foldl (fun vs p => vs.set p.toNat 0) vs).length = vs.length := by
    intro l
    induction l with
    | nil => intro vs; rfl
    | cons x l ih => intro vs; rw [List.foldl_cons, ih, List.length_set]
  unfold init2
  rw [this, List.length_replicate]
theorem init2_get : ∀ (l : List Int) (vs : List Int) (p : Nat), (∀ x ∈ l, 0 ≤ x) → p < vs.length → (l.foldl (fun vs p => vs.set p.toNat (0 : Int)) vs)[p]? = if (p : Int) ∈ l then some 0 else vs[p]? := by
  intro l
  induction l with
  | nil => intro vs p _ _; rfl
  | cons x l ih =>
    intro vs p h hp
    rw [List.foldl_cons, ih _ _ (fun y hy => h y (List.mem_cons_of_mem _ hy)) (by rw [List.length_set]; exact hp)]
    have hx := h x (List.mem_cons_self ..)
    by_cases e : (p : Int) ∈ l
    · rw [if_pos e, if_pos (List.mem_cons_of_mem _ e)]
    · rw [if_neg e, List.getElem?_set]
      by_cases e2 : x.toNat = p
      · rw [if_pos e2, if_pos (by omega), if_pos (by have : (p : Int) = x := by omega
                                                     rw [this]; exact List.mem_cons_self ..)]
      · rw [if_neg e2, if_neg (fun k => by
          rcases List.mem_cons.1 k with k | k
          · omega
          · exact e k)]
theorem init2_eq {n : Nat} {l : List Int} (h : ∀ p ∈ l, 0 ≤ p ∧ p < (n : Int)) : init2 n l = initV n l := by
  apply List.ext_getElem?
  intro p
  rcases Nat.lt_or_ge p n with hp | hp
  · rw [initV_get hp]
    unfold init2
    rw [init2_get l _ p (fun x hx => (h x hx).1) (by simpa using hp)]
    split
    · rfl
    · simp [hp]
  · rw [List.getElem?_eq_none (by rw [init2_len]; exact hp), List.getElem?_eq_none (by rw [initV_len]; exact hp)]
theorem fill_zero (n : Nat) (x y : Int) : List.replicate 0 x ++ List.replicate (n - 0) y = List.replicate n y := by simp
theorem fill_succ {n k : Nat} (h : k < n) (x y : Int) : (List.replicate k x ++ List.replicate (n - k) y).set k x = List.replicate (k + 1) x ++ List.replicate (n - (k + 1)) y := by
  apply List.ext_getElem?
  intro p
  simp only [List.getElem?_set, List.getElem?_append, List.getElem?_replicate, List.length_append, List.length_replicate]
  by_cases e : k = p
  · subst e; simp; omega
  · simp only [e, if_false]
    by_cases e1 : p < k
    · rw [if_pos e1, if_pos e1, if_pos (by omega), if_pos (by omega)]
    · rw [if_neg e1, if_neg (by omega : ¬ p < k + 1)]
      by_cases e2 : p < n
      · rw [if_pos (by omega), if_pos (by omega)]
      · rw [if_neg (by omega), if_neg (by omega)]
theorem fill_all {n k : Nat} (h : ¬ k < n) (hk : k ≤ n) (x y : Int) : List.replicate k x ++ List.replicate (n - k) y = List.replicate n x := by
  have : k = n := by omega
  subst this; simp
theorem fill_len {n k : Nat} (hk : k ≤ n) (x y : Int) : (List.replicate k x ++ List.replicate (n - k) y).length = n := by simp; omega
section
variable {s : Bool} {n : Nat} {st : List Int} {ops : List OpV} {cs V : List Int}
theorem closedTo_succ {k : Nat} {o : OpV} {c : Int} (h : ClosedTo s ops cs k V) (ho : ops[k]? = some o) (hc : cs[k]? = some c) (h2 : ∀ p ∈ o.add, valAt V p ≤ opV s V o c) : ClosedTo s ops cs (k + 1) V := by
  intro i o' c' hi ho' hc' p hp
  by_cases e : i = k
  · subst e
    rw [ho] at ho'; injection ho' with ho'; subst ho'
    rw [hc] at hc'; injection hc' with hc'; subst hc'
    exact h2 p hp
  · exact h i o' c' (by omega) ho' hc' p hp
theorem closedTo_zero : ClosedTo s ops cs 0 V := fun i o c hi => absurd hi (by omega)
end

end Go.Proofs.Ytkepfmglljkjhaa

namespace Go.Proofs.Ytkepfmglljkjhaa
set_option linter.unusedVariables false
set_option linter.unusedSimpArgs false

/-- The facts that operators, for which use holds, reach without deletions. -/
inductive Reach (st : List Int) (ops : List OpV) (use : Nat → Bool) : Int → Prop
  | init {p : Int} : p ∈ st → Reach st ops use p
  | step {p : Int} {i : Nat} {o : OpV} : ops[i]? = some o → use i = true → (∀ q ∈ o.pre, Reach st ops use q) → p ∈ o.add → Reach st ops use p
theorem Reach.mono {st st' : List Int} {ops : List OpV} {use use' : Nat → Bool} (h1 : ∀ p ∈ st, p ∈ st') (h2 : ∀ i, use i = true → use' i = true) {p : Int} (h : Reach st ops use p) : Reach st' ops use' p := by
  induction h with
  | init h => exact .init (h1 _ h)
  | step h1 h3 _ h4 ih => exact .step h1 (h2 _ h3) ih h4
open Classical in
noncomputable def closeV (n : Nat) (st : List Int) (ops : List OpV) (use : Nat → Bool) : List Bool := (List.range n).map fun (p : Nat) => decide (Reach st ops use (p : Int))
theorem closeV_len (n : Nat) (st : List Int) (ops : List OpV) (use : Nat → Bool) : (closeV n st ops use).length = n := by simp [closeV]
theorem closeV_get {n p : Nat} {st : List Int} {ops : List OpV} {use : Nat → Bool} (h : p < n) : (closeV n st ops use)[p]? = some true ↔ Reach st ops use (p : Int) := by simp [closeV, h]

def falses (bs : List Bool) : Nat := (bs.map fun b => if b then 0 else 1).sum
theorem falses_set {bs : List Bool} : ∀ {i : Nat}, bs[i]? = some false → falses (bs.set i true) < falses bs := by
  induction bs with
  | nil => intro i h; simp at h
  | cons b bs ih =>
    intro i h
    cases i with
    | zero => simp at h; subst h; simp [falses]
    | succ i => have := ih (by simpa using h); simp only [falses, List.set_cons_succ, List.map_cons, List.sum_cons] at *; omega
/-- What is true so far can be reached; the state is true. -/
structure Sound (n : Nat) (st : List Int) (ops : List OpV) (use : Nat → Bool) (bs : List Bool) : Prop where
  len : bs.length = n
  init : ∀ p ∈ st, bs[p.toNat]? = some true
  sound : ∀ p : Nat, bs[p]? = some true → Reach st ops use (p : Int)
def ClosedB (ops : List OpV) (use : Nat → Bool) (k : Nat) (bs : List Bool) : Prop :=
  ∀ (i : Nat) (o : OpV), i < k → ops[i]? = some o → use i = true → (∀ q ∈ o.pre, bs[q.toNat]? = some true) → ∀ p ∈ o.add, bs[p.toNat]? = some true
section
variable {n : Nat} {st : List Int} {ops : List OpV} {use : Nat → Bool} {bs : List Bool}
theorem closedB_zero : ClosedB ops use 0 bs := fun i o hi => absurd hi (by omega)
theorem closedB_succ {k : Nat} {o : OpV} (h : ClosedB ops use k bs) (ho : ops[k]? = some o) (h2 : use k = true → (∀ q ∈ o.pre, bs[q.toNat]? = some true) → ∀ p ∈ o.add, bs[p.toNat]? = some true) : ClosedB ops use (k + 1) bs := by
  intro i o' hi ho' hu hq p hp
  by_cases e : i = k
  · subst e
    rw [ho] at ho'; injection ho' with ho'; subst ho'
    exact h2 hu hq p hp
  · exact h i o' (by omega) ho' hu hq p hp
theorem Sound.set_ (h : Sound n st ops use bs) {i : Nat} {o : OpV} (ho : ops[i]? = some o) (hu : use i = true) (hpre : ∀ q ∈ o.pre, Reach st ops use q) {p : Int} (hp : p ∈ o.add) (p0 : 0 ≤ p) : Sound n st ops use (bs.set p.toNat true) := by
  refine ⟨by rw [List.length_set]; exact h.len, fun q hq => ?_, fun q hq => ?_⟩
  · have := h.init q hq
    rw [List.getElem?_set]
    split
    · rename_i e
      rw [if_pos (by rw [e]; exact (List.getElem?_eq_some_iff.1 this).1)]
    · exact this
  · rw [List.getElem?_set] at hq
    split at hq
    · rename_i e
      subst e
      rw [Int.toNat_of_nonneg p0]
      exact .step ho hu hpre hp
    · exact h.sound q hq
theorem Sound.pre (h : Sound n st ops use bs) {xs : List Int} (hx : ∀ q ∈ xs, bs[q.toNat]? = some true) (h0 : ∀ q ∈ xs, 0 ≤ q) : ∀ q ∈ xs, Reach st ops use q := fun q hq => by
  have := h.sound _ (hx q hq)
  rwa [Int.toNat_of_nonneg (h0 q hq)] at this
theorem Sound.all (h : Sound n st ops use bs) (hc : ClosedB ops use ops.length bs) {p : Int} (hr : Reach st ops use p) : bs[p.toNat]? = some true := by
  induction hr with
  | init hp => exact h.init _ hp
  | step ho hu _ hp ih => exact hc _ _ (List.getElem?_eq_some_iff.1 ho).1 ho hu ih _ hp
theorem Sound.eq (h : Sound n st ops use bs) (hc : ClosedB ops use ops.length bs) : bs = closeV n st ops use := by
  apply List.ext_getElem?
  intro p
  rcases Nat.lt_or_ge p n with hp | hp
  · have h1 : bs[p]? = some true ↔ (closeV n st ops use)[p]? = some true := by
      rw [closeV_get hp]
      exact ⟨h.sound p, fun hr => by have := h.all hc hr; simpa using this⟩
    obtain ⟨a, ha⟩ : ∃ a, bs[p]? = some a := ⟨_, List.getElem?_eq_getElem (by rw [h.len]; exact hp)⟩
    obtain ⟨b, hb⟩ : ∃ b, (closeV n st ops use)[p]? = some b := ⟨_, List.getElem?_eq_getElem (by rw [closeV_len]; exact hp)⟩
    rw [ha, hb] at h1 ⊢
    cases a <;> cases b <;> simp_all
  · rw [List.getElem?_eq_none (by rw [h.len]; exact hp), List.getElem?_eq_none (by rw [closeV_len]; exact hp)]
/-- The bools at the start. -/
def init3 (n : Nat) (l : List Int) : List Bool := l.foldl (fun bs p => bs.set p.toNat true) (List.replicate n false)
theorem init3_nil (n : Nat) : init3 n [] = List.replicate n false := rfl
theorem init3_succ {n k : Nat} {l : List Int} {x : Int} (h : l[k]? = some x) : init3 n (l.take (k + 1)) = (init3 n (l.take k)).set x.toNat true := by
  unfold init3
  rw [List.take_add_one, h]
  simp only [Option.toList, List.foldl_append, List.foldl_cons, List.foldl_nil]
theorem init3_len (n : Nat) (l : List Int) : (init3 n l).length = n := by
  have : ∀ (l : List Int) (vs : List Bool), (l.foldl (fun bs p => bs.set p.toNat true) vs).length = vs.length := by
    intro l
    induction l with
    | nil => intro vs; rfl
    | cons x l ih => intro vs; rw [List.foldl_cons, ih, List.length_set]
  unfold init3
  rw [this, List.length_replicate]
theorem init3_get : ∀ (l : List Int) (vs : List Bool) (p : Nat), (∀ x ∈ l, 0 ≤ x) → p < vs.length → (l.foldl (fun bs p => bs.set p.toNat true) vs)[p]? = if (p : Int) ∈ l then some true else vs[p]? := by
  intro l
  induction l with
  | nil => intro vs p _ _; rfl
  | cons x l ih =>
    intro vs p h hp
    rw [List.foldl_cons, ih _ _ (fun y hy => h y (List.mem_cons_of_mem _ hy)) (by rw [List.length_set]; exact hp)]
    have hx := h x (List.mem_cons_self ..)
    by_cases e : (p : Int) ∈ l
    · rw [if_pos e, if_pos (List.mem_cons_of_mem _ e)]
    · rw [if_neg e, List.getElem?_set]
      by_cases e2 : x.toNat = p
      · have e3 : (p : Int) = x := by omega
        rw [if_pos e2, if_pos (by omega), if_pos (by rw [e3]; exact List.mem_cons_self ..)]
      · rw [if_neg e2, if_neg (fun k => by
          rcases List.mem_cons.1 k with k | k
          · omega
          · exact e k)]
theorem init3_sound (h : ∀ p ∈ st, 0 ≤ p ∧ p < (n : Int)) : Sound n st ops use (init3 n st) := by
  refine ⟨init3_len n st, fun p hp => ?_, fun p hp => ?_⟩
  · have := h p hp
    unfold init3
    rw [init3_get st _ p.toNat (fun x hx => (h x hx).1) (by simp; omega), Int.toNat_of_nonneg this.1, if_pos hp]
  · have hl := (List.getElem?_eq_some_iff.1 hp).1
    rw [init3_len] at hl
    unfold init3 at hp
    rw [init3_get st _ p (fun x hx => (h x hx).1) (by simpa using hl)] at hp
    split at hp
    · rename_i hm; exact .init hm
    · simp [hl] at hp
end

end Go.Proofs.Ytkepfmglljkjhaa

namespace Go.Proofs.Ytkepfmglljkjhaa
set_option linter.unusedVariables false
set_option linter.unusedSimpArgs false

/-- A set with a number added. -/
def withV (l : List Int) (n : Int) : List Int := l.takeWhile (fun x => decide (x < n)) ++ n :: (l.dropWhile (fun x => decide (x < n))).filter (fun x => decide (x ≠ n))
/-- The first j elements are less than n. -/
theorem takeWhile_at {l : List Int} {n : Int} : ∀ {j : Nat}, (∀ x ∈ l.take j, x < n) → (∀ x, l[j]? = some x → ¬ x < n) → l.takeWhile (fun x => decide (x < n)) = l.take j ∧ l.dropWhile (fun x => decide (x < n)) = l.drop j := by
  induction l with
  | nil => intro j _ _; simp
  | cons a l ih =>
    intro j h1 h2
    cases j with
    | zero =>
      have := h2 a (by simp)
      simp [List.takeWhile_cons, List.dropWhile_cons, this]
    | succ j =>
      have ha := h1 a (by simp)
      have := ih (j := j) (fun x hx => h1 x (by simp [hx])) (fun x hx => h2 x (by simpa using hx))
      simp [List.takeWhile_cons, List.dropWhile_cons, ha, this.1, this.2]
theorem mem_takeWhile_lt {l : List Int} {n x : Int} (h : x ∈ l.takeWhile (fun x => decide (x < n))) : x < n := by
  induction l with
  | nil => simp at h
  | cons a l ih =>
    rw [List.takeWhile_cons] at h
    split at h
    · rename_i ha
      rcases List.mem_cons.1 h with e | e
      · subst e; simpa using ha
      · exact ih e
    · simp at h
theorem mem_dropWhile_ge {l : List Int} {n x : Int} (hs : l.Pairwise (· < ·)) (h : x ∈ l.dropWhile (fun x => decide (x < n))) : n ≤ x := by
  induction l with
  | nil => simp at h
  | cons a l ih =>
    rw [List.dropWhile_cons] at h
    rw [List.pairwise_cons] at hs
    split at h
    · exact ih hs.2 h
    · rename_i ha
      have ha : ¬ a < n := by simpa using ha
      rcases List.mem_cons.1 h with e | e
      · subst e; omega
      · have := hs.1 x e; omega
theorem withV_mem {l : List Int} {n x : Int} : x ∈ withV l n ↔ x = n ∨ x ∈ l := by
  have e := List.takeWhile_append_dropWhile (p := fun x => decide (x < n)) (l := l)
  unfold withV
  rw [List.mem_append, List.mem_cons, List.mem_filter]
  constructor
  · rintro (h | h | ⟨h, _⟩)
    · right; rw [← e]; exact List.mem_append_left _ h
    · exact .inl h
    · right; rw [← e]; exact List.mem_append_right _ h
  · rintro (h | h)
    · exact .inr (.inl h)
    · rw [← e] at h
      rcases List.mem_append.1 h with h | h
      · exact .inl h
      · by_cases k : x = n
        · exact .inr (.inl k)
        · exact .inr (.inr ⟨h, by simpa using k⟩)
theorem withV_set {l : List Int} {n m : Int} (h : SetP l m) (h0 : 0 ≤ n) (h1 : n < m) : SetP (withV l n) m := by
  have hp := h.pairwise
  refine SetP.of_pairwise (fun x hx => ?_) ?_
  · rcases withV_mem.1 hx with e | e
    · subst e; exact ⟨h0, h1⟩
    · exact h.1 x e
  · have e := List.takeWhile_append_dropWhile (p := fun x => decide (x < n)) (l := l)
    have hp2 := hp
    rw [← e, List.pairwise_append] at hp2
    unfold withV
    rw [List.pairwise_append]
    refine ⟨hp2.1, ?_, fun a ha b hb => ?_⟩
    · rw [List.pairwise_cons]
      refine ⟨fun b hb => ?_, hp2.2.1.filter _⟩
      rw [List.mem_filter] at hb
      have h2 := mem_dropWhile_ge hp hb.1
      have h3 : b ≠ n := by simpa using hb.2
      omega
    · have ha' := mem_takeWhile_lt ha
      rcases List.mem_cons.1 hb with k | k
      · subst k; exact ha'
      · rw [List.mem_filter] at k
        have h2 := mem_dropWhile_ge hp k.1
        omega
theorem withV_in {l : List Int} {n m : Int} (h : SetP l m) (hm : n ∈ l) : withV l n = l :=
  SetP.ext (withV_set h (h.1 n hm).1 (h.1 n hm).2) h fun x => by rw [withV_mem]; exact ⟨fun k => k.elim (fun e => e ▸ hm) id, .inr⟩
theorem withV_len {l : List Int} {n : Int} (hs : l.Pairwise (· < ·)) (hm : n ∉ l) : (withV l n).length = l.length + 1 := by
  have e := congrArg List.length (List.takeWhile_append_dropWhile (p := fun x => decide (x < n)) (l := l))
  rw [List.length_append] at e
  unfold withV
  rw [List.length_append, List.length_cons, List.filter_eq_self.2]
  · omega
  · intro a ha
    have : a ∈ l := by
      rw [← List.takeWhile_append_dropWhile (p := fun x => decide (x < n)) (l := l)]
      exact List.mem_append_right _ ha
    simp only [ne_eq, decide_eq_true_eq]
    intro k; subst k; exact hm this
theorem withV_len_le {l : List Int} {n : Int} : (withV l n).length ≤ l.length + 1 := by
  have e := congrArg List.length (List.takeWhile_append_dropWhile (p := fun x => decide (x < n)) (l := l))
  rw [List.length_append] at e
  unfold withV
  rw [List.length_append, List.length_cons]
  have := List.length_filter_le (fun x => decide (x ≠ n)) (l.dropWhile (fun x => decide (x < n)))
  omega
/-- .. as the program computes it. -/
theorem withV_skip {l : List Int} {n : Int} {j : Nat} (hs : l.Pairwise (· < ·)) (h1 : ∀ x ∈ l.take j, x < n) (h2 : l[j]? = some n) : withV l n = l.take j ++ [n] ++ l.drop (j + 1) := by
  obtain ⟨e1, e2⟩ := takeWhile_at (l := l) (n := n) (j := j) h1 (fun x hx => by rw [h2] at hx; injection hx with hx; omega)
  unfold withV
  rw [e1, e2]
  have hl := (List.getElem?_eq_some_iff.1 h2)
  obtain ⟨hl, hv⟩ := hl
  rw [List.drop_eq_getElem_cons hl, hv, List.filter_cons]
  simp only [ne_eq, not_true, decide_false]
  rw [List.filter_eq_self.2]
  · simp
  · intro a ha
    have := hs
    rw [← List.take_append_drop (j + 1) l, List.pairwise_append] at this
    have := this.2.2 n (by
      rw [List.take_add_one, h2]; simp) a ha
    simp; omega
theorem withV_put {l : List Int} {n : Int} {j : Nat} (hs : l.Pairwise (· < ·)) (h1 : ∀ x ∈ l.take j, x < n) (h2 : ∀ x, l[j]? = some x → n < x) : withV l n = l.take j ++ [n] ++ l.drop j := by
  obtain ⟨e1, e2⟩ := takeWhile_at (l := l) (n := n) (j := j) h1 (fun x hx => by have := h2 x hx; omega)
  unfold withV
  rw [e1, e2, List.filter_eq_self.2]
  · simp
  · intro a ha
    simp only [ne_eq, decide_eq_true_eq]
    obtain ⟨i, hi, rfl⟩ := List.mem_iff_getElem.1 ha
    rw [List.length_drop] at hi
    rw [List.getElem_drop]
    have h3 := h2 l[j] (List.getElem?_eq_getElem (by omega))
    by_cases e : i = 0
    · subst e; simp; omega
    · have := List.pairwise_iff_getElem.1 hs j (j + i) (by omega) (by omega) (by omega)
      omega

/-- What is reached, as a list. -/
noncomputable def withinV (n : Nat) (st : List Int) (ops : List OpV) (use : Nat → Bool) : List Int := (((List.range n).filter fun (p : Nat) => @decide (Reach st ops use (p : Int)) (Classical.propDecidable _)).map fun (p : Nat) => (p : Int))
section
variable {n : Nat} {st : List Int} {ops : List OpV} {use : Nat → Bool}
theorem withinV_mem {x : Int} : x ∈ withinV n st ops use ↔ 0 ≤ x ∧ x < (n : Int) ∧ Reach st ops use x := by
  unfold withinV
  rw [List.mem_map]
  constructor
  · rintro ⟨p, hp, rfl⟩
    rw [List.mem_filter, List.mem_range] at hp
    exact ⟨by omega, by omega, (@decide_eq_true_iff _ (Classical.propDecidable _)).1 hp.2⟩
  · rintro ⟨h0, h1, h2⟩
    refine ⟨x.toNat, ?_, by omega⟩
    rw [List.mem_filter, List.mem_range]
    exact ⟨by omega, (@decide_eq_true_iff _ (Classical.propDecidable _)).2 (by rw [Int.toNat_of_nonneg h0]; exact h2)⟩
theorem withinV_set : SetP (withinV n st ops use) (n : Int) := by
  refine SetP.of_pairwise (fun x hx => ⟨(withinV_mem.1 hx).1, (withinV_mem.1 hx).2.1⟩) ?_
  unfold withinV
  rw [List.pairwise_map]
  exact (List.pairwise_lt_range.filter _).imp (fun h => by omega)
theorem withinV_len : (withinV n st ops use).length ≤ n := by
  unfold withinV
  rw [List.length_map]
  exact Nat.le_trans (List.length_filter_le _ _) (by simp)
/-- What the reference has found so far. -/
structure SoundL (n : Nat) (st : List Int) (ops : List OpV) (use : Nat → Bool) (l : List Int) : Prop where
  set : SetP l (n : Int)
  init : ∀ p ∈ st, p ∈ l
  sound : ∀ p ∈ l, Reach st ops use p
def ClosedL (ops : List OpV) (use : Nat → Bool) (k : Nat) (l : List Int) : Prop :=
  ∀ (i : Nat) (o : OpV), i < k → ops[i]? = some o → use i = true → (∀ q ∈ o.pre, q ∈ l) → ∀ p ∈ o.add, p ∈ l
theorem closedL_zero {l : List Int} : ClosedL ops use 0 l := fun i o hi => absurd hi (by omega)
theorem closedL_succ {l : List Int} {k : Nat} {o : OpV} (h : ClosedL ops use k l) (ho : ops[k]? = some o) (h2 : use k = true → (∀ q ∈ o.pre, q ∈ l) → ∀ p ∈ o.add, p ∈ l) : ClosedL ops use (k + 1) l := by
  intro i o' hi ho' hu hq
  by_cases e : i = k
  · subst e
    rw [ho] at ho'; injection ho' with ho'; subst ho'
    exact h2 hu hq
  · exact h i o' (by omega) ho' hu hq
theorem SoundL.start (hs : SetP st (n : Int)) : SoundL n st ops use st := ⟨hs, fun _ h => h, fun _ h => .init h⟩
theorem SoundL.with_ {l : List Int} (h : SoundL n st ops use l) {i : Nat} {o : OpV} (ho : ops[i]? = some o) (hu : use i = true) (hq : ∀ q ∈ o.pre, Reach st ops use q) {p : Int} (hp : p ∈ o.add) (h0 : 0 ≤ p) (h1 : p < (n : Int)) : SoundL n st ops use (withV l p) :=
  ⟨withV_set h.set h0 h1, fun q hq => withV_mem.2 (.inr (h.init q hq)), fun q hq' => by
    rcases withV_mem.1 hq' with e | e
    · subst e; exact .step ho hu hq hp
    · exact h.sound q e⟩
theorem SoundL.eq {l : List Int} (h : SoundL n st ops use l) (hc : ClosedL ops use ops.length l) : l = withinV n st ops use := by
  refine SetP.ext h.set withinV_set fun x => ?_
  rw [withinV_mem]
  constructor
  · intro hx; exact ⟨(h.set.1 x hx).1, (h.set.1 x hx).2, h.sound x hx⟩
  · rintro ⟨hx0, hx1, hr⟩
    clear hx0 hx1
    induction hr with
    | init hp => exact h.init _ hp
    | step ho hu _ hp ih => exact hc _ _ (List.getElem?_eq_some_iff.1 ho).1 ho hu ih _ hp
/-- A list that is sound and contains a closed one is the whole. -/
theorem SoundL.eq_of_sub {l l' : List Int} (h : SoundL n st ops use l') (hl : l = withinV n st ops use) (hs : ∀ x ∈ l, x ∈ l') : l' = withinV n st ops use := by
  refine SetP.ext h.set withinV_set fun x => ⟨fun hx => ?_, fun hx => hs x (by rw [hl]; exact hx)⟩
  rw [withinV_mem]
  exact ⟨(h.set.1 x hx).1, (h.set.1 x hx).2, h.sound x hx⟩
theorem SoundL.len {l : List Int} (h : SoundL n st ops use l) : l.length ≤ n := by
  have := h.set.length (by omega)
  omega
/-- One pass over the operators. -/
structure Pass (ops : List OpV) (use : Nat → Bool) (k : Nat) (l0 l : List Int) : Prop where
  sub : ∀ x ∈ l0, x ∈ l
  le : l0.length ≤ l.length
  lt : l ≠ l0 → l0.length < l.length
  closed : l = l0 → ClosedL ops use k l
theorem Pass.start (l : List Int) : Pass ops use 0 l l := ⟨fun _ h => h, Nat.le_refl _, fun h => absurd rfl h, fun _ => closedL_zero⟩
theorem Pass.with_ {k : Nat} {l0 l : List Int} (h : Pass ops use k l0 l) {p : Int} (hs : l.Pairwise (· < ·)) (hp : p ∉ l) : Pass ops use k l0 (withV l p) := by
  have hl := withV_len hs hp
  refine ⟨fun x hx => withV_mem.2 (.inr (h.sub x hx)), ?_, fun _ => ?_, fun e => ?_⟩
  · have := h.le; omega
  · have := h.le; omega
  · have := h.le; rw [e] at hl; omega
theorem Pass.succ {k : Nat} {l0 l : List Int} {o : OpV} (h : Pass ops use k l0 l) (ho : ops[k]? = some o) (h2 : l = l0 → use k = true → (∀ q ∈ o.pre, q ∈ l) → ∀ p ∈ o.add, p ∈ l) : Pass ops use (k + 1) l0 l :=
  ⟨h.sub, h.le, h.lt, fun e => closedL_succ (h.closed e) ho (h2 e)⟩
/-- After r rounds. -/
def Rounds (n : Nat) (st : List Int) (ops : List OpV) (use : Nat → Bool) (r : Nat) (l : List Int) : Prop := l = withinV n st ops use ∨ r ≤ l.length
theorem Rounds.succ {r : Nat} {l0 l : List Int} (h : Rounds n st ops use r l0) (hs : SoundL n st ops use l) (hp : Pass ops use ops.length l0 l) : Rounds n st ops use (r + 1) l := by
  rcases h with h | h
  · exact .inl (hs.eq_of_sub h hp.sub)
  · by_cases e : l = l0
    · exact .inl (hs.eq (hp.closed e))
    · exact .inr (by have := hp.lt e; omega)
theorem Rounds.end_ {r : Nat} {l : List Int} (h : Rounds n st ops use r l) (hs : SoundL n st ops use l) (hr : n < r) : l = withinV n st ops use := by
  rcases h with h | h
  · exact h
  · have := hs.len; omega
end

end Go.Proofs.Ytkepfmglljkjhaa

namespace Go.Proofs.Ytkepfmglljkjhaa
set_option linter.unusedVariables false
set_option linter.unusedSimpArgs false

theorem plusV_inf_iff {a b : Int} (ha : InV a) (hb : InV b) : plusV a b = 1000000000 ↔ a = 1000000000 ∨ b = 1000000000 := by
  unfold InV at ha hb
  unfold plusV
  by_cases h : a = 1000000000 ∨ b = 1000000000
  · simp [h]
  · rw [if_neg h]
    constructor
    · intro k
      split at k <;> omega
    · intro k; exact absurd k h
theorem stepV_inf_iff {s : Bool} {a b : Int} (ha : InV a) (hb : InV b) : stepV s a b = 1000000000 ↔ a = 1000000000 ∨ b = 1000000000 := by
  cases s
  · unfold InV at ha hb
    unfold stepV; dsimp only
    split <;> omega
  · exact plusV_inf_iff ha hb
theorem foldV_inf {s : Bool} {vs : List Int} (h : AllV vs) : ∀ (xs : List Int) (o : Int), InV o →
    (xs.foldl (fun o p => stepV s o (valAt vs p)) o = 1000000000 ↔ o = 1000000000 ∨ ∃ x ∈ xs, valAt vs x = 1000000000) := by
  intro xs
  induction xs with
  | nil => intro o _; simp
  | cons x xs ih =>
    intro o ho
    rw [List.foldl_cons, ih _ (stepV_in ho (valAt_in h x)), stepV_inf_iff ho (valAt_in h x)]
    constructor
    · rintro ((h1 | h1) | ⟨y, hy, h1⟩)
      · exact .inl h1
      · exact .inr ⟨x, List.mem_cons_self .., h1⟩
      · exact .inr ⟨y, List.mem_cons_of_mem _ hy, h1⟩
    · rintro (h1 | ⟨y, hy, h1⟩)
      · exact .inl (.inl h1)
      · rcases List.mem_cons.1 hy with e | e
        · subst e; exact .inl (.inr h1)
        · exact .inr ⟨y, e, h1⟩
theorem combV_inf {s : Bool} {vs : List Int} (h : AllV vs) (xs : List Int) : combV s vs xs = 1000000000 ↔ ∃ x ∈ xs, valAt vs x = 1000000000 := by
  unfold combV
  rw [foldV_inf h xs 0 InV.zero]
  constructor
  · rintro (h | h)
    · omega
    · exact h
  · exact .inr
theorem stepV_le {a b v : Int} (hv : InV v) (ha : InV a) (hb : InV b) (h : a ≤ b) : stepV false a v ≤ stepV true b v := by
  have h1 := plusV_ge_left hb hv
  have h2 := plusV_ge_right hb hv
  unfold stepV; dsimp only
  split <;> omega
theorem foldV_le {vs : List Int} (h : AllV vs) : ∀ (xs : List Int) (o o' : Int), InV o → InV o' → o ≤ o' →
    xs.foldl (fun o p => stepV false o (valAt vs p)) o ≤ xs.foldl (fun o p => stepV true o (valAt vs p)) o' := by
  intro xs
  induction xs with
  | nil => intro o o' _ _ h; exact h
  | cons x xs ih => intro o o' ho ho' hle; exact ih _ _ (stepV_in ho (valAt_in h x)) (stepV_in ho' (valAt_in h x)) (stepV_le (valAt_in h x) ho ho' hle)
theorem combV_le {vs : List Int} (h : AllV vs) (xs : List Int) : combV false vs xs ≤ combV true vs xs := foldV_le h xs 0 0 InV.zero InV.zero (Int.le_refl _)

section
variable {n : Nat} {st : List Int} {ops : List OpV} {cs V U : List Int}
theorem max_le_add (hV : Best false n st ops cs V) (hU : Best true n st ops cs U) (hc : AllV cs) : LeV V U := by
  refine hU.great V ⟨hV.fix.shape, fun i o c hi ho hcs p hp => ?_⟩
  have hcv := hc c (List.mem_of_getElem? hcs)
  refine Int.le_trans (hV.fix.closed i o c hi ho hcs p hp) ?_
  unfold opV
  exact plusV_mono (combV_in hV.fix.shape.all _) hcv (combV_in hV.fix.shape.all _) hcv (combV_le hV.fix.shape.all _) (Int.le_refl _)
/-- V, but infinite where U is. -/
def raise (V U : List Int) : List Int := (List.range V.length).map fun (p : Nat) => if valAt U (p : Int) = 1000000000 then 1000000000 else valAt V (p : Int)
theorem raise_at {V U : List Int} (hl : U.length = V.length) (p : Int) : valAt (raise V U) p = if valAt U p = 1000000000 then 1000000000 else valAt V p := by
  unfold raise
  rcases Nat.lt_or_ge p.toNat V.length with h | h
  · rw [valAt_of (v := if valAt U ((p.toNat : Nat) : Int) = 1000000000 then 1000000000 else valAt V ((p.toNat : Nat) : Int)) (by simp [h])]
    have e : ∀ W, valAt W ((p.toNat : Nat) : Int) = valAt W p := fun W => by unfold valAt; rw [Int.toNat_natCast]
    rw [e, e]
  · have e : ∀ W : List Int, W.length = V.length → valAt W p = 0 := fun W hW => by unfold valAt; rw [List.getElem?_eq_none (by omega)]; rfl
    rw [e V rfl, e U hl, e _ (by simp)]
    rfl
theorem inf_same (hV : Best false n st ops cs V) (hU : Best true n st ops cs U) (hc : AllV cs) (hc2 : ∀ c ∈ cs, c < 1000000000) (p : Int) : valAt V p = 1000000000 ↔ valAt U p = 1000000000 := by
  have hVU := max_le_add hV hU hc
  have hUall := hU.fix.shape.all
  have hVall := hV.fix.shape.all
  constructor
  · intro h
    have h1 := hVU p
    have h2 := valAt_in hUall p
    unfold InV at h2
    omega
  · intro h
    have hl : U.length = V.length := hU.fix.shape.len.trans hV.fix.shape.len.symm
    have hle : LeV V (raise V U) := fun q => by
      rw [raise_at hl]
      have := valAt_in hVall q
      unfold InV at this
      split <;> omega
    have hall : AllV (raise V U) := fun v hv => by
      unfold raise at hv
      obtain ⟨q, _, rfl⟩ := List.mem_map.1 hv
      split
      · exact InV.inf
      · exact valAt_in hVall _
    have hfix : Fix false n st ops cs (raise V U) := by
      refine ⟨⟨?_, hall, fun q hq => ?_⟩, fun i o c hi ho hcs q hq => ?_⟩
      · unfold raise; simp [hV.fix.shape.len]
      · rw [raise_at hl, hU.fix.shape.zero q hq, hV.fix.shape.zero q hq]; rfl
      · have hcm := List.mem_of_getElem? hcs
        have hcv := hc c hcm
        rw [raise_at hl]
        split
        · rename_i hinf
          have h1 := hU.fix.closed i o c hi ho hcs q hq
          have h2 := opV_in (s := true) hUall o hcv
          have h3 : opV true U o c = 1000000000 := by unfold InV at h2; omega
          unfold opV at h3
          rcases (plusV_inf_iff (combV_in hUall _) hcv).1 h3 with h4 | h4
          · obtain ⟨x, hx, hx2⟩ := (combV_inf hUall _).1 h4
            have h5 : combV false (raise V U) o.pre = 1000000000 := (combV_inf hall _).2 ⟨x, hx, by rw [raise_at hl, if_pos hx2]⟩
            have h6 : opV false (raise V U) o c = 1000000000 := by unfold opV; exact plusV_inf (.inl h5)
            omega
          · have := hc2 c hcm; omega
        · exact Int.le_trans (hV.fix.closed i o c hi ho hcs q hq) (opV_mono hVall hall hle o hcv)
    have h1 := hV.great _ hfix p
    rw [raise_at hl, if_pos h] at h1
    have h2 := valAt_in hVall p
    unfold InV at h2
    omega
theorem goal_le (hV : Best false n st ops cs V) (hU : Best true n st ops cs U) (hc : AllV cs) (xs : List Int) : combV false V xs ≤ combV true U xs :=
  Int.le_trans (combV_le hV.fix.shape.all xs) (combV_mono hV.fix.shape.all hU.fix.shape.all (max_le_add hV hU hc) xs)
theorem goal_inf (hV : Best false n st ops cs V) (hU : Best true n st ops cs U) (hc : AllV cs) (hc2 : ∀ c ∈ cs, c < 1000000000) (xs : List Int) : combV false V xs = 1000000000 ↔ combV true U xs = 1000000000 := by
  rw [combV_inf hV.fix.shape.all, combV_inf hU.fix.shape.all]
  exact ⟨fun ⟨x, hx, h⟩ => ⟨x, hx, (inf_same hV hU hc hc2 x).1 h⟩, fun ⟨x, hx, h⟩ => ⟨x, hx, (inf_same hV hU hc hc2 x).2 h⟩⟩
end

end Go.Proofs.Ytkepfmglljkjhaa

namespace Go.Proofs.Ytkepfmglljkjhaa
set_option linter.unusedVariables false
set_option linter.unusedSimpArgs false

/-- The state after an operator. -/
def nextV (n : Nat) (s : List Int) (o : OpV) : List Int := ((List.range n).map fun (p : Nat) => (p : Int)).filter fun p => decide (p ∈ o.add ∨ (p ∈ s ∧ p ∉ o.del))
theorem nextV_mem {n : Nat} {s : List Int} {o : OpV} {x : Int} : x ∈ nextV n s o ↔ (0 ≤ x ∧ x < (n : Int)) ∧ (x ∈ o.add ∨ (x ∈ s ∧ x ∉ o.del)) := by
  unfold nextV
  rw [List.mem_filter, List.mem_map]
  simp only [decide_eq_true_eq, List.mem_range]
  constructor
  · rintro ⟨⟨a, h, rfl⟩, h2⟩
    exact ⟨⟨by omega, by omega⟩, h2⟩
  · rintro ⟨⟨h0, h1⟩, h2⟩
    exact ⟨⟨x.toNat, by omega, by omega⟩, h2⟩
theorem nextV_set (n : Nat) (s : List Int) (o : OpV) : SetP (nextV n s o) n := by
  refine SetP.of_pairwise (fun x hx => (nextV_mem.1 hx).1) ?_
  unfold nextV
  refine List.Pairwise.filter _ ?_
  rw [List.pairwise_map]
  exact List.Pairwise.imp (fun h => by omega) List.pairwise_lt_range
theorem nextV_len (n : Nat) (s : List Int) (o : OpV) : (nextV n s o).length ≤ n := by
  unfold nextV
  exact Nat.le_trans (List.length_filter_le _ _) (by simp)
/-- A set with the right members is that state. -/
theorem nextV_eq {n : Nat} {s r : List Int} {o : OpV} (hs : ∀ x ∈ s, 0 ≤ x ∧ x < (n : Int)) (ha : ∀ x ∈ o.add, 0 ≤ x ∧ x < (n : Int)) (hr : r.Pairwise (· < ·)) (h : ∀ x, x ∈ r ↔ x ∈ o.add ∨ (x ∈ s ∧ x ∉ o.del)) : r = nextV n s o := by
  have hrs : SetP r n := SetP.of_pairwise (fun x hx => by
    rcases (h x).1 hx with h1 | h1
    · exact ha x h1
    · exact hs x h1.1) hr
  refine hrs.ext (nextV_set n s o) fun x => ?_
  rw [h, nextV_mem]
  constructor
  · intro h1
    refine ⟨?_, h1⟩
    rcases h1 with h2 | h2
    · exact ha x h2
    · exact hs x h2.1
  · exact fun h1 => h1.2
/-- An operator is applicable. -/
def CanV (ops : List OpV) (s : List Int) (op : Int) : Prop := ∃ o, ops[op.toNat]? = some o ∧ ∀ q ∈ o.pre, q ∈ s
/-- The operator, if there is one. -/
def opAt (ops : List OpV) (op : Int) : OpV := (ops[op.toNat]?).getD ⟨[], [], [], 0⟩
theorem opAt_of {ops : List OpV} {op : Int} {o : OpV} (h : ops[op.toNat]? = some o) : opAt ops op = o := by unfold opAt; rw [h]; rfl
/-- The states of a plan, as far as its steps are applicable. -/
noncomputable def runV (n : Nat) (ops : List OpV) : List Int → List Int → List (List Int)
  | s, [] => [s]
  | s, op :: plan => @ite _ (CanV ops s op) (Classical.propDecidable _) (s :: runV n ops (nextV n s (opAt ops op)) plan) [s]
section
variable {n : Nat} {ops : List OpV}
theorem runV_nil (s : List Int) : runV n ops s [] = [s] := by unfold runV; rfl
theorem runV_yes {s plan : List Int} {op : Int} (h : CanV ops s op) : runV n ops s (op :: plan) = s :: runV n ops (nextV n s (opAt ops op)) plan := by
  rw [runV]; exact if_pos h
theorem runV_no {s plan : List Int} {op : Int} (h : ¬ CanV ops s op) : runV n ops s (op :: plan) = [s] := by
  rw [runV]; exact if_neg h
theorem runV_head : ∀ (plan s : List Int), (runV n ops s plan)[0]? = some s
  | [], s => by rw [runV_nil]; rfl
  | op :: plan, s => by
    by_cases h : CanV ops s op
    · rw [runV_yes h]; rfl
    · rw [runV_no h]; rfl
theorem runV_len : ∀ (plan s : List Int), 1 ≤ (runV n ops s plan).length ∧ (runV n ops s plan).length ≤ plan.length + 1
  | [], s => by rw [runV_nil]; simp
  | op :: plan, s => by
    by_cases h : CanV ops s op
    · rw [runV_yes h]
      have := runV_len plan (nextV n s (opAt ops op))
      simp only [List.length_cons]; omega
    · rw [runV_no h]; simp
theorem runV_set : ∀ (plan s : List Int), SetP s n → ∀ r ∈ runV n ops s plan, SetP r n
  | [], s, hs, r, hr => by
    rw [runV_nil] at hr
    rw [List.mem_singleton.1 hr]; exact hs
  | op :: plan, s, hs, r, hr => by
    by_cases h : CanV ops s op
    · rw [runV_yes h] at hr
      rcases List.mem_cons.1 hr with e | e
      · rw [e]; exact hs
      · exact runV_set plan _ (nextV_set n s _) r e
    · rw [runV_no h] at hr
      rw [List.mem_singleton.1 hr]; exact hs
/-- From a state to the next one. -/
theorem runV_step : ∀ (plan s : List Int) (i : Nat) (r' : List Int), (runV n ops s plan)[i + 1]? = some r' → ∃ op r, plan[i]? = some op ∧ (runV n ops s plan)[i]? = some r ∧ CanV ops r op ∧ r' = nextV n r (opAt ops op)
  | [], s, i, r', h => by rw [runV_nil] at h; simp at h
  | op :: plan, s, i, r', h => by
    by_cases hc : CanV ops s op
    · rw [runV_yes hc] at h ⊢
      rw [List.getElem?_cons_succ] at h
      cases i with
      | zero =>
        rw [runV_head] at h
        injection h with h
        exact ⟨op, s, rfl, rfl, hc, h.symm⟩
      | succ i =>
        obtain ⟨op', r, h1, h2, h3, h4⟩ := runV_step plan _ i r' h
        exact ⟨op', r, by simpa using h1, by simpa using h2, h3, h4⟩
    · rw [runV_no hc] at h; simp at h
/-- What a state holds is reached without deletions, by the operators used so far. -/
theorem runV_reach {use : Nat → Bool} {plan st : List Int} : ∀ (i : Nat) (r : List Int), (runV n ops st plan)[i]? = some r → (∀ j op, j < i → plan[j]? = some op → use op.toNat = true) → ∀ x ∈ r, Reach st ops use x := by
  intro i
  induction i with
  | zero =>
    intro r hr _ x hx
    rw [runV_head] at hr
    injection hr with hr
    subst hr
    exact .init hx
  | succ i ih =>
    intro r hr hu x hx
    obtain ⟨op, r0, h1, h2, ⟨o, ho, hpre⟩, rfl⟩ := runV_step plan st i r hr
    have ih' := ih r0 h2 (fun j op hj => hu j op (by omega))
    rw [opAt_of ho] at hx
    rcases (nextV_mem.1 hx).2 with h3 | h3
    · exact .step ho (hu i op (by omega) h1) (fun q hq => ih' q (hpre q hq)) h3
    · exact ih' x h3.1
/-- The first state with a fact, or the number of states. -/
def firstV (l : List (List Int)) (p : Int) : Nat := l.findIdx fun r => decide (p ∈ r)
theorem firstV_lt {l : List (List Int)} {p : Int} {i : Nat} (hi : i < firstV l p) {r : List Int} (hr : l[i]? = some r) : p ∉ r := by
  have h := List.not_of_lt_findIdx hi
  obtain ⟨hlt, rfl⟩ := List.getElem?_eq_some_iff.1 hr
  exact of_decide_eq_false h
theorem firstV_at {l : List (List Int)} {p : Int} (h : firstV l p < l.length) : ∃ r, l[firstV l p]? = some r ∧ p ∈ r := by
  have h2 := @List.findIdx_getElem _ (fun r => decide (p ∈ r)) l h
  exact ⟨_, List.getElem?_eq_getElem h, of_decide_eq_true h2⟩
/-- Ahead of the first state with a fact no operator adds it. -/
theorem runV_not {plan st : List Int} {p : Int} (p0 : 0 ≤ p) (p1 : p < (n : Int)) {j : Nat} {op : Int} {o : OpV} (hj : j + 1 < firstV (runV n ops st plan) p) (hjl : j + 1 < (runV n ops st plan).length) (hop : plan[j]? = some op) (ho : ops[op.toNat]? = some o) : p ∉ o.add := by
  intro hm
  obtain ⟨op', r, h1, h2, h3, h4⟩ := runV_step plan st j _ (List.getElem?_eq_getElem hjl)
  rw [hop] at h1
  injection h1 with h1
  subst h1
  have h5 := firstV_lt hj (List.getElem?_eq_getElem hjl)
  rw [h4, opAt_of ho] at h5
  exact h5 (nextV_mem.2 ⟨⟨p0, p1⟩, .inl hm⟩)
/-- The fact that a state is the first to hold is added by the operator ahead of it. -/
theorem runV_adds {plan st : List Int} {p : Int} {i : Nat} (hi : firstV (runV n ops st plan) p = i + 1) (hl : i + 1 < (runV n ops st plan).length) : ∃ op o r, plan[i]? = some op ∧ ops[op.toNat]? = some o ∧ (runV n ops st plan)[i]? = some r ∧ (∀ q ∈ o.pre, q ∈ r) ∧ p ∈ o.add := by
  obtain ⟨r', h0, h0'⟩ := firstV_at (by rw [hi]; exact hl)
  rw [hi] at h0
  obtain ⟨op, r, h1, h2, ⟨o, ho, hpre⟩, h4⟩ := runV_step plan st i r' h0
  refine ⟨op, o, r, h1, ho, h2, hpre, ?_⟩
  rw [h4, opAt_of ho] at h0'
  rcases (nextV_mem.1 h0').2 with h5 | h5
  · exact h5
  · exact absurd h5.1 (firstV_lt (by rw [hi]; omega) h2)
end

end Go.Proofs.Ytkepfmglljkjhaa
