/-
  The supporters of facts: plain.
-/
import Derived.Test.YtihkgdlanfemcaaLev
namespace Go.Proofs.Ytihkgdlanfemcaa
open Go.RowKit
set_option linter.unusedVariables false
set_option linter.unusedSimpArgs false

def sumL (V : List Int) (l : List Int) : Int := (l.map fun q => valAt V q).sum
theorem sumL_succ {V l : List Int} {k : Nat} {x : Int} (h : l[k]? = some x) : sumL V (l.take (k + 1)) = sumL V (l.take k) + valAt V x := by
  unfold sumL; rw [List.take_add_one, h, List.map_append, List.sum_append]; simp
theorem sumL_rng {V : List Int} {n : Nat} (hV : ∀ q, -1 ≤ valAt V q ∧ valAt V q ≤ (n : Int)) : ∀ l : List Int, -(l.length : Int) ≤ sumL V l ∧ sumL V l ≤ (l.length : Int) * n
  | [] => by simp [sumL]
  | x :: l => by
    have h1 := sumL_rng hV l
    have h2 := hV x
    have e : sumL V (x :: l) = valAt V x + sumL V l := by simp [sumL]
    have e2 : ((x :: l).length : Int) * n = (l.length : Int) * n + n := by
      rw [List.length_cons]
      have : ((l.length + 1 : Nat) : Int) = (l.length : Int) + 1 := by omega
      rw [this, Int.add_mul]; omega
    rw [e, e2]
    have : ((x :: l).length : Int) = l.length + 1 := by simp
    omega
def topL (n : Nat) (V : List Int) (l : List Int) : Int := l.foldl (fun t q => if valAt V q < 0 then (n : Int) else max t (valAt V q)) (-1)
theorem topL_succ {n : Nat} {V l : List Int} {k : Nat} {x : Int} (h : l[k]? = some x) : topL n V (l.take (k + 1)) = if valAt V x < 0 then (n : Int) else max (topL n V (l.take k)) (valAt V x) := by
  unfold topL; rw [List.take_add_one, h, List.foldl_append]; rfl
theorem top_fold {n : Nat} {V : List Int} {v : Int} (hv : v ≤ (n : Int)) : ∀ (l : List Int) (t : Int), l.foldl (fun t q => if valAt V q < 0 then (n : Int) else max t (valAt V q)) t < v ↔ t < v ∧ ∀ q ∈ l, 0 ≤ valAt V q ∧ valAt V q < v
  | [], t => by simp
  | x :: l, t => by
    rw [List.foldl_cons, top_fold hv l]
    by_cases h : valAt V x < 0
    · rw [if_pos h]
      constructor
      · intro h2; omega
      · intro h2; have := h2.2 x (List.mem_cons_self ..); omega
    · rw [if_neg h]
      constructor
      · rintro ⟨h1, h2⟩
        exact ⟨by omega, fun q hq => by
          rcases List.mem_cons.1 hq with e | e
          · subst e; omega
          · exact h2 q e⟩
      · rintro ⟨h1, h2⟩
        have := h2 x (List.mem_cons_self ..)
        exact ⟨by omega, fun q hq => h2 q (List.mem_cons_of_mem _ hq)⟩
theorem topL_lt {n : Nat} {V l : List Int} {v : Int} (hv : v ≤ (n : Int)) (h0 : 0 < v) : topL n V l < v ↔ ∀ q ∈ l, 0 ≤ valAt V q ∧ valAt V q < v := by
  unfold topL; rw [top_fold hv l]; exact ⟨fun h => h.2, fun h => ⟨by omega, h⟩⟩
theorem topL_rng {n : Nat} {V : List Int} (hV : ∀ q, -1 ≤ valAt V q ∧ valAt V q ≤ (n : Int)) (l : List Int) : -1 ≤ topL n V l ∧ topL n V l ≤ (n : Int) := by
  have key : ∀ (l : List Int) (t : Int), -1 ≤ t ∧ t ≤ (n : Int) → -1 ≤ l.foldl (fun t q => if valAt V q < 0 then (n : Int) else max t (valAt V q)) t ∧ l.foldl (fun t q => if valAt V q < 0 then (n : Int) else max t (valAt V q)) t ≤ (n : Int) := by
    intro l
    induction l with
    | nil => intro t h; exact h
    | cons x l ih =>
      intro t h
      rw [List.foldl_cons]
      refine ih _ ?_
      have := hV x
      split <;> omega
  exact key l (-1) (by omega)
/-- The operator may support the fact. -/
def goodO (V : List Int) (o : OpV) (p : Int) : Prop := p ∈ o.add ∧ 0 < valAt V p ∧ ∀ q ∈ o.pre, 0 ≤ valAt V q ∧ valAt V q < valAt V p
instance (V : List Int) (o : OpV) (p : Int) : Decidable (goodO V o p) := by unfold goodO; exact inferInstance
/-- The supporter among the first operators, and the sum of its levels. -/
def supTo (V : List Int) (ops : List OpV) (p : Int) : Nat → Int × Int
  | 0 => (-1, 0)
  | i + 1 => if goodO V (opAt' ops i) p ∧ ((supTo V ops p i).1 < 0 ∨ sumL V (opAt' ops i).pre < (supTo V ops p i).2) then ((i : Int), sumL V (opAt' ops i).pre) else supTo V ops p i
where opAt' (ops : List OpV) (i : Nat) : OpV := (ops[i]?).getD ⟨[], [], [], 0⟩
theorem supTo_succ {V : List Int} {ops : List OpV} {p : Int} {i : Nat} {o : OpV} (h : ops[i]? = some o) : supTo V ops p (i + 1) = if goodO V o p ∧ ((supTo V ops p i).1 < 0 ∨ sumL V o.pre < (supTo V ops p i).2) then ((i : Int), sumL V o.pre) else supTo V ops p i := by
  rw [supTo]
  have e : supTo.opAt' ops i = o := by unfold supTo.opAt'; rw [h]; rfl
  rw [e]
theorem supTo_rng {V : List Int} {ops : List OpV} {p : Int} : ∀ i, -1 ≤ (supTo V ops p i).1 ∧ (supTo V ops p i).1 < (i : Int)
  | 0 => by simp [supTo]
  | i + 1 => by
    have := supTo_rng (V := V) (ops := ops) (p := p) i
    rw [supTo]
    split <;> simp <;> omega
theorem supTo_good {V : List Int} {ops : List OpV} {p : Int} : ∀ i, i ≤ ops.length → 0 ≤ (supTo V ops p i).1 → ∃ k : Nat, (supTo V ops p i).1 = (k : Int) ∧ k < i ∧ ∃ o, ops[k]? = some o ∧ goodO V o p
  | 0, _, h => by simp [supTo] at h
  | i + 1, hi, h => by
    have ho := List.getElem?_eq_getElem (show i < ops.length by omega)
    rw [supTo_succ ho] at h ⊢
    split at h
    · rename_i hg
      rw [if_pos hg]
      exact ⟨i, rfl, by omega, _, ho, hg.1⟩
    · rename_i hg
      rw [if_neg hg]
      obtain ⟨k, h1, h2, h3⟩ := supTo_good i (by omega) h
      exact ⟨k, h1, by omega, h3⟩
/-- Where an operator may support a fact, the fact has a supporter. -/
theorem supTo_some {V : List Int} {ops : List OpV} {p : Int} {k : Nat} {o : OpV} (ho : ops[k]? = some o) (hg : goodO V o p) : ∀ i, k < i → i ≤ ops.length → 0 ≤ (supTo V ops p i).1
  | 0, h, _ => by omega
  | i + 1, h, hi => by
    have hoi := List.getElem?_eq_getElem (show i < ops.length by omega)
    rw [supTo_succ hoi]
    split
    · simp
    · rename_i hn
      by_cases e : k = i
      · subst e
        rw [ho] at hoi
        injection hoi with hoi
        refine Classical.byContradiction fun hc => hn ⟨hoi ▸ hg, .inl (by omega)⟩
      · exact supTo_some ho hg i (by omega) (by omega)
/-- The arrays while the supporters are found. -/
structure SupSt (n : Nat) (V : List Int) (ops : List OpV) (i j : Nat) (O S : List Int) : Prop where
  lenO : O.length = n
  lenS : S.length = n
  out : ∀ p : Nat, p < n → valAt O (p : Int) = (supTo V ops (p : Int) (if (∃ o, ops[i]? = some o ∧ (p : Int) ∈ o.add.take j) then i + 1 else i)).1
  least : ∀ p : Nat, p < n → valAt S (p : Int) = (supTo V ops (p : Int) (if (∃ o, ops[i]? = some o ∧ (p : Int) ∈ o.add.take j) then i + 1 else i)).2
section
variable {n : Nat} {V : List Int} {ops : List OpV} {i j : Nat} {O S : List Int}
open Classical in
theorem SupSt.start (h1 : O = List.replicate n (-1)) (h2 : S = List.replicate n 0) : SupSt n V ops 0 0 O S := by
  subst h1; subst h2
  have hx : ∀ p : Nat, ¬ ∃ o, ops[0]? = some o ∧ (p : Int) ∈ o.add.take 0 := fun p ⟨o, _, h⟩ => by simp at h
  refine ⟨by simp, by simp, fun p hp => ?_, fun p hp => ?_⟩
  · rw [if_neg (hx p), show valAt (List.replicate n (-1)) (p : Int) = -1 from valAt_of (by simp [hp])]; rfl
  · rw [if_neg (hx p), show valAt (List.replicate n 0) (p : Int) = 0 from valAt_of (by simp [hp])]; rfl
theorem sup_row {o : OpV} (ho : ops[i]? = some o) (hj : o.add.length ≤ j) (p : Nat) : supTo V ops (p : Int) (if (∃ o, ops[i]? = some o ∧ (p : Int) ∈ o.add.take j) then i + 1 else i) = supTo V ops (p : Int) (i + 1) := by
  split
  · rfl
  · rename_i h
    rw [supTo_succ ho, if_neg]
    rintro ⟨hg, _⟩
    exact h ⟨o, ho, by rw [List.take_of_length_le hj]; exact hg.1⟩
theorem sup_zero (p : Nat) : supTo V ops (p : Int) (if (∃ o, ops[i]? = some o ∧ (p : Int) ∈ o.add.take 0) then i + 1 else i) = supTo V ops (p : Int) i := by
  rw [if_neg]
  rintro ⟨o, _, h⟩
  simp at h
theorem SupSt.row (h : SupSt n V ops i j O S) {o : OpV} (ho : ops[i]? = some o) (hj : o.add.length ≤ j) : SupSt n V ops (i + 1) 0 O S :=
  ⟨h.lenO, h.lenS, fun p hp => by rw [h.out p hp, sup_row ho hj, sup_zero], fun p hp => by rw [h.least p hp, sup_row ho hj, sup_zero]⟩
/-- The fact at hand has not been looked at. -/
theorem SupSt.at_ (h : SupSt n V ops i j O S) {o : OpV} (ho : ops[i]? = some o) {m : Int} (hset : SetP o.add m) {x : Nat} (hx : o.add[j]? = some (x : Int)) (hxn : x < n) : valAt O (x : Int) = (supTo V ops (x : Int) i).1 ∧ valAt S (x : Int) = (supTo V ops (x : Int) i).2 := by
  have hno : ¬ ∃ o, ops[i]? = some o ∧ (x : Int) ∈ o.add.take j := fun ⟨o', h1, h2⟩ => by
    rw [ho] at h1
    injection h1 with h1
    subst h1
    obtain ⟨k, hk, e⟩ := List.mem_iff_getElem.1 h2
    rw [List.length_take] at hk
    rw [List.getElem_take] at e
    have := hset.inj (i := k) (j := j) (x := (x : Int)) (by rw [← e]; exact List.getElem?_eq_getElem (by omega)) hx
    omega
  have h1 := h.out x hxn
  have h2 := h.least x hxn
  rw [if_neg hno] at h1 h2
  exact ⟨h1, h2⟩
theorem sup_next {o : OpV} (ho : ops[i]? = some o) {x : Nat} (hx : o.add[j]? = some (x : Int)) (p : Nat) (hpx : p ≠ x) : supTo V ops (p : Int) (if (∃ o, ops[i]? = some o ∧ (p : Int) ∈ o.add.take (j + 1)) then i + 1 else i) = supTo V ops (p : Int) (if (∃ o, ops[i]? = some o ∧ (p : Int) ∈ o.add.take j) then i + 1 else i) := by
  have he : (∃ o, ops[i]? = some o ∧ (p : Int) ∈ o.add.take (j + 1)) ↔ (∃ o, ops[i]? = some o ∧ (p : Int) ∈ o.add.take j) := by
    constructor
    · rintro ⟨o', h1, h2⟩
      have h3 := h1
      rw [ho] at h3
      injection h3 with h3
      subst h3
      rw [List.take_add_one, hx] at h2
      rcases List.mem_append.1 h2 with h4 | h4
      · exact ⟨o, ho, h4⟩
      · simp at h4; omega
    · rintro ⟨o', h1, h2⟩
      refine ⟨o', h1, ?_⟩
      rw [List.take_add_one]
      exact List.mem_append_left _ h2
  simp only [he]
theorem sup_this {o : OpV} (ho : ops[i]? = some o) {x : Nat} (hx : o.add[j]? = some (x : Int)) : supTo V ops (x : Int) (if (∃ o, ops[i]? = some o ∧ (x : Int) ∈ o.add.take (j + 1)) then i + 1 else i) = supTo V ops (x : Int) (i + 1) := by
  rw [if_pos]
  refine ⟨o, ho, ?_⟩
  rw [List.take_add_one, hx]
  simp
theorem SupSt.miss (h : SupSt n V ops i j O S) {o : OpV} (ho : ops[i]? = some o) {m : Int} (hset : SetP o.add m) {x : Nat} (hx : o.add[j]? = some (x : Int)) (hxn : x < n) (hno : ¬ (goodO V o (x : Int) ∧ (valAt O (x : Int) < 0 ∨ sumL V o.pre < valAt S (x : Int)))) : SupSt n V ops i (j + 1) O S := by
  have ha := h.at_ ho hset hx hxn
  rw [ha.1, ha.2] at hno
  have hs := supTo_succ (V := V) (p := (x : Int)) ho
  rw [if_neg hno] at hs
  refine ⟨h.lenO, h.lenS, fun p hp => ?_, fun p hp => ?_⟩
  · by_cases e : p = x
    · subst e; rw [sup_this ho hx, hs]; exact ha.1
    · rw [sup_next ho hx p e]; exact h.out p hp
  · by_cases e : p = x
    · subst e; rw [sup_this ho hx, hs]; exact ha.2
    · rw [sup_next ho hx p e]; exact h.least p hp
theorem SupSt.hit (h : SupSt n V ops i j O S) {o : OpV} (ho : ops[i]? = some o) {m : Int} (hset : SetP o.add m) {x : Nat} (hx : o.add[j]? = some (x : Int)) (hxn : x < n) (hyes : goodO V o (x : Int) ∧ (valAt O (x : Int) < 0 ∨ sumL V o.pre < valAt S (x : Int))) : SupSt n V ops i (j + 1) (O.set x (i : Int)) (S.set x (sumL V o.pre)) := by
  have ha := h.at_ ho hset hx hxn
  rw [ha.1, ha.2] at hyes
  have hs := supTo_succ (V := V) (p := (x : Int)) ho
  rw [if_pos hyes] at hs
  have sO : ∀ p : Nat, valAt (O.set x (i : Int)) (p : Int) = if p = x then (i : Int) else valAt O (p : Int) := fun p => by rw [valAt_set (by rw [h.lenO]; exact hxn), Int.toNat_natCast]
  have sS : ∀ p : Nat, valAt (S.set x (sumL V o.pre)) (p : Int) = if p = x then sumL V o.pre else valAt S (p : Int) := fun p => by rw [valAt_set (by rw [h.lenS]; exact hxn), Int.toNat_natCast]
  refine ⟨by rw [List.length_set]; exact h.lenO, by rw [List.length_set]; exact h.lenS, fun p hp => ?_, fun p hp => ?_⟩
  · rw [sO]
    by_cases e : p = x
    · subst e; rw [if_pos rfl, sup_this ho hx, hs]
    · rw [if_neg e, sup_next ho hx p e]; exact h.out p hp
  · rw [sS]
    by_cases e : p = x
    · subst e; rw [if_pos rfl, sup_this ho hx, hs]
    · rw [if_neg e, sup_next ho hx p e]; exact h.least p hp
end
/-- The supporters of all facts. -/
def supL (n : Nat) (V : List Int) (ops : List OpV) : List Int := (List.range n).map fun (p : Nat) => (supTo V ops (p : Int) ops.length).1
theorem supL_len (n : Nat) (V : List Int) (ops : List OpV) : (supL n V ops).length = n := by simp [supL]
theorem supL_at {n p : Nat} {V : List Int} {ops : List OpV} (h : p < n) : valAt (supL n V ops) (p : Int) = (supTo V ops (p : Int) ops.length).1 := by
  rw [valAt_getElem (by rw [supL_len]; exact h)]; simp [supL]
theorem SupSt.end_ {n : Nat} {V : List Int} {ops : List OpV} {O S : List Int} (h : SupSt n V ops ops.length 0 O S) : O = supL n V ops := by
  refine List.ext_getElem (by rw [h.lenO, supL_len]) fun i hi hj => ?_
  have hin : i < n := by rw [← h.lenO]; exact hi
  rw [← valAt_getElem hi, ← valAt_getElem hj, supL_at hin, h.out i hin, sup_zero]

end Go.Proofs.Ytihkgdlanfemcaa
