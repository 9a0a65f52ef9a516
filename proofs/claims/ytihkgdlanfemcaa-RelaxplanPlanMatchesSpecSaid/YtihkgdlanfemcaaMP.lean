/-
  Tables of values: as functions, in memory, and what lowering a value does.
  pairs: the greatest value of a set, lowering a value: what they return.
  strips.Union, Contains of one element; pairs: use: what they return.
-/
import Derived.Test.YtihkgdlanfemcaaMA
import Derived.Test.YtihkgdlanfemcaaML
import Derived.Test.YtihkgdlanfemcaaMD
import Derived.Test.YtihkgdlanfemcaaMJ
import Derived.Test.YtihkgdlanfemcaaSt3
namespace Go.Proofs.Ytihkgdlanfemcaa
open Go.RowKit
set_option linter.unusedVariables false
set_option linter.unusedSimpArgs false

def rowV (n : Nat) (f : Int → Int) : List Int := (List.range n).map fun (q : Nat) => f (q : Int)
theorem rowV_len (n : Nat) (f : Int → Int) : (rowV n f).length = n := by simp [rowV]
theorem rowV_get {n q : Nat} {f : Int → Int} (h : q < n) : (rowV n f)[q]? = some (f (q : Int)) := by simp [rowV, h]
theorem rowV_ext {n : Nat} {f g : Int → Int} (h : ∀ q : Nat, q < n → f (q : Int) = g (q : Int)) : rowV n f = rowV n g := by
  unfold rowV
  refine List.map_congr_left fun q hq => h q (List.mem_range.1 hq)
/-- One value is replaced. -/
def put1 (V : Int → Int → Int) (p q x : Int) : Int → Int → Int := fun p' q' => if p' = p ∧ q' = q then x else V p' q'
theorem rowV_set {n p q : Nat} {V : Int → Int → Int} {x : Int} : (rowV n (V (p : Int))).set q x = rowV n (put1 V p q x p) := by
  apply List.ext_getElem?
  intro i
  rw [List.getElem?_set, rowV_len]
  by_cases hi : i < n
  · rw [rowV_get hi, rowV_get hi]
    by_cases e : q = i
    · subst e; rw [if_pos rfl, if_pos hi]; unfold put1; rw [if_pos ⟨rfl, rfl⟩]
    · rw [if_neg e]; unfold put1; rw [if_neg (by omega)]
  · rw [List.getElem?_eq_none (l := rowV n (V (p : Int))) (by rw [rowV_len]; omega), List.getElem?_eq_none (l := rowV n _) (by rw [rowV_len]; omega)]
    split <;> simp <;> omega
theorem rowV_far {n p p' q : Nat} {V : Int → Int → Int} {x : Int} (h : p' ≠ p) : rowV n (put1 V p q x (p' : Int)) = rowV n (V (p' : Int)) := by
  refine rowV_ext fun i _ => ?_
  unfold put1
  rw [if_neg (by omega)]
/-- A value and its mirror image are replaced. -/
def updT (V : Int → Int → Int) (p q x : Int) : Int → Int → Int := fun p' q' => if (p' = p ∧ q' = q) ∨ (p' = q ∧ q' = p) then x else V p' q'
theorem put1_two (V : Int → Int → Int) (p q x : Int) : put1 (put1 V p q x) q p x = updT V p q x := by
  funext a b
  unfold put1 updT
  by_cases h1 : a = q ∧ b = p
  · rw [if_pos h1, if_pos (.inr h1)]
  · by_cases h2 : a = p ∧ b = q
    · rw [if_neg h1, if_pos h2, if_pos (.inl h2)]
    · rw [if_neg h1, if_neg h2, if_neg (by rintro (h | h); exact h2 h; exact h1 h)]
theorem put1_two' (V : Int → Int → Int) (p q x : Int) : put1 (put1 V q p x) p q x = updT V p q x := by
  rw [put1_two]
  funext a b
  unfold updT
  by_cases h : (a = p ∧ b = q) ∨ (a = q ∧ b = p)
  · rw [if_pos h, if_pos h.symm]
  · rw [if_neg h, if_neg (fun k => h k.symm)]
/-- .. if that is less. -/
def setT (V : Int → Int → Int) (p q x : Int) : Int → Int → Int := if x < V p q then updT V p q x else V
theorem setT_no {V : Int → Int → Int} {p q x : Int} (h : ¬ x < V p q) : setT V p q x = V := if_neg h
theorem setT_yes {V : Int → Int → Int} {p q x : Int} (h : x < V p q) : setT V p q x = updT V p q x := if_pos h

/-! ### In memory -/
/-- Block g holds a table: n rows of n values, each in a block of its own. -/
structure Tbl (w : World) (g : Nat) (bs : List Nat) (n : Nat) (V : Int → Int → Int) : Prop where
  arr : Arr w g 22 (bs.map fun b => Value.slice (some ⟨b, 0, none⟩) n n)
  len : bs.length = n
  rows : ∀ (p b : Nat), bs[p]? = some b → IArr w b (rowV n (V (p : Int)))
  diff : ∀ b ∈ bs, b ≠ g
  nodup : bs.Nodup
section
variable {w w' : World} {g n : Nat} {bs : List Nat} {V : Int → Int → Int}
theorem Tbl.lt (h : Tbl w g bs n V) : g < w.heap.size ∧ ∀ b ∈ bs, b < w.heap.size := ⟨h.arr.lt, fun b hb => by
  obtain ⟨i, hi, rfl⟩ := List.getElem_of_mem hb
  exact Arr.lt (h.rows i _ (List.getElem?_eq_getElem hi))⟩
theorem Tbl.same (h : Tbl w g bs n V) (hg : w'.heap[g]? = w.heap[g]?) (hb : ∀ b ∈ bs, w'.heap[b]? = w.heap[b]?) : Tbl w' g bs n V :=
  ⟨hg.trans h.arr, h.len, fun p b hp => (hb b (List.mem_of_getElem? hp)).trans (h.rows p b hp), h.diff, h.nodup⟩
theorem Tbl.below (h : Tbl w g bs n V) (hb : Below w.heap.size w w') : Tbl w' g bs n V := h.same (hb.block g h.lt.1) (fun b hm => hb.block b (h.lt.2 b hm))
theorem Tbl.at_ (h : Tbl w g bs n V) {p q : Int} (hp : 0 ≤ p ∧ p < (n : Int)) (hq : 0 ≤ q ∧ q < (n : Int)) :
    ∃ b, Hid (bs[p.toNat]? = some b) ∧ w.cell? ⟨g, p.toNat, none⟩ = some (.slice (some ⟨b, 0, none⟩) n n) ∧ w.cell? ⟨b, q.toNat, none⟩ = some (.int .i64 (V p q)) ∧ w.frozen? ⟨b, q.toNat, none⟩ = false := by
  have hpl : p.toNat < bs.length := by rw [h.len]; omega
  refine ⟨bs[p.toNat], Lib.hid (List.getElem?_eq_getElem hpl), ?_, ?_, Arr.free (h.rows _ _ (List.getElem?_eq_getElem hpl)) _⟩
  · rw [h.arr.cell]; simp [hpl]
  · have hr := h.rows _ _ (List.getElem?_eq_getElem hpl)
    have e : ((p.toNat : Nat) : Int) = p := by omega
    rw [e] at hr
    rw [Arr.cell hr, List.getElem?_map, rowV_get (by omega)]
    have e2 : ((q.toNat : Nat) : Int) = q := by omega
    rw [e2]; rfl
theorem Tbl.store (h : Tbl w g bs n V) {p q : Int} {b : Nat} (hp : 0 ≤ p) (hq : 0 ≤ q) (hb : bs[p.toNat]? = some b) (x : Int) : Tbl (w.setCell ⟨b, q.toNat, none⟩ (.int .i64 x)) g bs n (put1 V p q x) := by
  have hm := List.mem_of_getElem? hb
  refine ⟨h.arr.far (h.diff b hm) _, h.len, fun i c hc => ?_, h.diff, h.nodup⟩
  by_cases e : i = p.toNat
  · subst e
    rw [hb] at hc
    injection hc with hc
    subst hc
    have h1 := (h.rows _ _ hb).set_ q.toNat x
    rw [rowV_set] at h1
    have e1 : ((p.toNat : Nat) : Int) = p := by omega
    have e2 : ((q.toNat : Nat) : Int) = q := by omega
    rw [e1, e2] at h1
    rw [e1]; exact h1
  · have hne : b ≠ c := fun hh => by
      subst hh
      obtain ⟨h1, h2⟩ := List.getElem?_eq_some_iff.1 hb
      obtain ⟨h3, h4⟩ := List.getElem?_eq_some_iff.1 hc
      exact e ((List.getElem_inj h.nodup).1 (h4.trans h2.symm))
    have h1 := (h.rows i c hc).far (p := ⟨b, q.toNat, none⟩) hne (.int .i64 x)
    have e1 : ((p.toNat : Nat) : Int) = p := by omega
    have e2 : ((q.toNat : Nat) : Int) = q := by omega
    have h2 := rowV_far (n := n) (q := q.toNat) (V := V) (x := x) e
    rw [e1, e2] at h2
    rw [h2]; exact h1
end
/-- Only the rows were written. -/
structure Wr (bs : List Nat) (w w' : World) : Prop where
  os : w'.os = w.os
  tape : w'.tape = w.tape
  output : w'.output = w.output
  size : w.heap.size ≤ w'.heap.size
  block : ∀ k, k < w.heap.size → k ∉ bs → w'.heap[k]? = w.heap[k]?
section
variable {bs : List Nat} {a w w' : World}
theorem Wr.refl (bs : List Nat) (w : World) : Wr bs w w := ⟨rfl, rfl, rfl, Nat.le_refl _, fun _ _ _ => rfl⟩
theorem Wr.of (h : Below w.heap.size w w') : Wr bs w w' := ⟨h.os, h.tape, h.output, h.size, fun k hk _ => h.block k hk⟩
theorem Wr.trans (h : Wr bs a w) (k : Wr bs w w') : Wr bs a w' := ⟨k.os.trans h.os, k.tape.trans h.tape, k.output.trans h.output, Nat.le_trans h.size k.size, fun i hi hn => (k.block i (Nat.lt_of_lt_of_le hi h.size) hn).trans (h.block i hi hn)⟩
theorem Wr.below {B : Nat} (h : Wr bs w w') (hB : B ≤ w.heap.size) (hb : ∀ b ∈ bs, B ≤ b) : Below B w w' := ⟨h.os, h.tape, h.output, h.size, fun k hk => h.block k (by omega) (fun hm => by have := hb k hm; omega)⟩
theorem Wr.set_ (h : Wr bs a w) {p : Addr} (hp : p.block ∈ bs) (u : Value) : Wr bs a (w.setCell p u) :=
  h.trans ⟨rfl, rfl, rfl, by simp [World.setCell], fun k hk hn => Below.heap_setCell _ _ _ _ (fun e => hn (by rw [e]; exact hp))⟩
theorem Cls.wr {l : List (Nat × Nat × Value)} {K : Nat} (hW : Wr bs w w') (hK : ∀ b ∈ bs, b < K) (hC : Cls w l) (hl : ∀ x ∈ l, K ≤ x.1) : Cls w' l := by
  induction l with
  | nil => trivial
  | cons x r ih =>
    obtain ⟨b, k, v⟩ := x
    obtain ⟨⟨h1, h2⟩, h3⟩ := hC
    have hlt := World.block_lt_of_cell? w ⟨b, k, none⟩ h1
    have hne : w'.heap[b]? = w.heap[b]? := hW.block b hlt (fun e => by
      have h4 := hK b e
      have h5 : K ≤ b := hl (b, k, v) (by simp)
      omega)
    exact ⟨⟨(World.cell?_of_block (w := w) hne).trans h1, (World.frozen?_of_block (w := w) hne).trans h2⟩, ih h3 (fun x hx => hl x (by simp [hx]))⟩
end

/-! ### The greatest value of a set's pairs, pair by pair -/
def Cov (V : Int → Int → Int) (l : List Int) (k j : Nat) (o : Int) : Prop :=
  0 ≤ o ∧ (∀ (a b : Nat) (p q : Int), (a < k ∧ b ≤ a ∨ a = k ∧ b < j) → l[a]? = some p → l[b]? = some q → V p q ≤ o) ∧
    ∀ z, 0 ≤ z → (∀ (a b : Nat) (p q : Int), (a < k ∧ b ≤ a ∨ a = k ∧ b < j) → l[a]? = some p → l[b]? = some q → V p q ≤ z) → o ≤ z
theorem Cov.start (V : Int → Int → Int) (l : List Int) : Cov V l 0 0 0 := ⟨Int.le_refl _, fun a b p q h => by omega, fun z hz _ => hz⟩
theorem Cov.step {V : Int → Int → Int} {l : List Int} {k j : Nat} {o p q m : Int} (h : Cov V l k j o) (hp : l[k]? = some p) (hq : l[j]? = some q) (hm : m = if o < V p q then V p q else o) : Cov V l k (j + 1) m := by
  obtain ⟨h0, h1, h2⟩ := h
  have hm1 : o ≤ m ∧ V p q ≤ m ∧ (m = o ∨ m = V p q) := by
    rw [hm]; split <;> omega
  refine ⟨by omega, fun a b p' q' hab ha hb => ?_, fun z hz hall => ?_⟩
  · by_cases e : a = k ∧ b = j
    · obtain ⟨rfl, rfl⟩ := e
      rw [hp] at ha; rw [hq] at hb
      injection ha with ha; injection hb with hb
      subst ha; subst hb
      omega
    · have := h1 a b p' q' (by omega) ha hb
      omega
  · have h3 := h2 z hz (fun a b p' q' hab ha hb => hall a b p' q' (by omega) ha hb)
    have h4 := hall k j p q (by omega) hp hq
    omega
theorem Cov.row {V : Int → Int → Int} {l : List Int} {k : Nat} {o : Int} (h : Cov V l k (k + 1) o) : Cov V l (k + 1) 0 o :=
  ⟨h.1, fun a b p q hab => h.2.1 a b p q (by omega), fun z hz hall => h.2.2 z hz fun a b p q hab => hall a b p q (by omega)⟩
theorem Cov.end_ {V : Int → Int → Int} {l : List Int} {k : Nat} {o : Int} (h : Cov V l k 0 o) (hk : l.length ≤ k) (hs : ∀ p ∈ l, ∀ q ∈ l, V p q = V q p) : o = valP V l := by
  refine Int.le_antisymm (h.2.2 _ valP_nn fun a b p q _ ha hb => valP_ge (List.mem_of_getElem? ha) (List.mem_of_getElem? hb)) (valP_le h.1 fun p hp q hq => ?_)
  obtain ⟨a, ha⟩ := List.mem_iff_getElem?.1 hp
  obtain ⟨b, hb⟩ := List.mem_iff_getElem?.1 hq
  have hal := (List.getElem?_eq_some_iff.1 ha).1
  have hbl := (List.getElem?_eq_some_iff.1 hb).1
  rcases Nat.lt_or_ge a b with h1 | h1
  · rw [hs p hp q hq]
    exact h.2.1 b a q p (by omega) hb ha
  · exact h.2.1 a b p q (by omega) ha hb

/-! ### Lowering values -/
def sumN (l : List Nat) (f : Nat → Nat) : Nat := (l.map f).sum
theorem sumN_le {f g : Nat → Nat} : ∀ {l : List Nat}, (∀ x ∈ l, f x ≤ g x) → sumN l f ≤ sumN l g
  | [], _ => Nat.le_refl _
  | x :: l, h => by
    have h1 := sumN_le (l := l) (f := f) (g := g) (fun y hy => h y (List.mem_cons_of_mem _ hy))
    have h2 := h x (List.mem_cons_self ..)
    simp only [sumN, List.map_cons, List.sum_cons] at *
    omega
theorem sumN_lt {f g : Nat → Nat} : ∀ {l : List Nat}, (∀ x ∈ l, f x ≤ g x) → (∃ x ∈ l, f x < g x) → sumN l f < sumN l g
  | [], _, h => by obtain ⟨x, hx, _⟩ := h; cases hx
  | x :: l, h, hx => by
    obtain ⟨y, hy, hlt⟩ := hx
    have h2 := h x (List.mem_cons_self ..)
    have h3 := sumN_le (l := l) (f := f) (g := g) (fun y hy => h y (List.mem_cons_of_mem _ hy))
    rcases List.mem_cons.1 hy with e | e
    · subst e
      simp only [sumN, List.map_cons, List.sum_cons] at *
      omega
    · have h1 := sumN_lt (l := l) (f := f) (g := g) (fun y hy => h y (List.mem_cons_of_mem _ hy)) ⟨y, e, hlt⟩
      simp only [sumN, List.map_cons, List.sum_cons] at *
      omega
def sumT (n : Nat) (V : Int → Int → Int) : Nat := sumN (List.range n) fun p => sumN (List.range n) fun q => (V (p : Int) (q : Int)).toNat
theorem sumT_lt {n : Nat} {U V : Int → Int → Int} (h : ∀ p q, Rng n p → Rng n q → U p q ≤ V p q) {p q : Int} (hp : Rng n p) (hq : Rng n q) (h0 : 0 ≤ U p q) (hlt : U p q < V p q) : sumT n U < sumT n V := by
  unfold Rng at *
  have hr : ∀ x ∈ List.range n, (0 : Int) ≤ (x : Int) ∧ (x : Int) < (n : Int) := fun x hx => by have := List.mem_range.1 hx; omega
  refine sumN_lt (fun a ha => sumN_le fun b hb => ?_) ⟨p.toNat, List.mem_range.2 (by omega), sumN_lt (fun b hb => ?_) ⟨q.toNat, List.mem_range.2 (by omega), ?_⟩⟩
  · have := h a b (hr a ha) (hr b hb); omega
  · have e : ((p.toNat : Nat) : Int) = p := by omega
    rw [e]
    have := h p b hp (hr b hb); omega
  · have e : ((p.toNat : Nat) : Int) = p := by omega
    have e2 : ((q.toNat : Nat) : Int) = q := by omega
    rw [e, e2]; omega
/-- The values are at least those that no operator can lower. -/
structure PAb (n : Nat) (st : List Int) (ops : List OpV) (V : Int → Int → Int) : Prop where
  all : ∀ p q, Rng n p → Rng n q → InV (V p q)
  zero : ∀ p ∈ st, ∀ q ∈ st, V p q = 0
  sym : ∀ p q, Rng n p → Rng n q → V p q = V q p
  great : ∀ U, PFix n st ops U → ∀ p q, Rng n p → Rng n q → U p q ≤ V p q
section
variable {n : Nat} {st : List Int} {ops : List OpV} {V : Int → Int → Int}
theorem pfix_symm {U : Int → Int → Int} (h : PFix n st ops U) : PFix n st ops (fun p q => U q p) := by
  refine ⟨fun p q hp hq => h.all q p hq hp, fun p hp q hq => h.zero q hq p hp, fun o ho p q l hp hq ha => ?_⟩
  have h1 := h.closed o ho q p l hq hp ha.symm
  have h2 : valP (fun p q => U q p) l = valP U l := Int.le_antisymm (valP_le valP_nn fun p hp q hq => valP_ge hq hp) (valP_le valP_nn fun p hp q hq => valP_ge (V := fun p q => U q p) hq hp)
  show U q p ≤ _
  rw [h2]; exact h1
theorem PAb.set_ (h : PAb n st ops V) {p q x : Int} (hp : Rng n p) (hq : Rng n q) (hx : InV x) (hb : ∀ U, PFix n st ops U → U p q ≤ x) : PAb n st ops (setT V p q x) := by
  by_cases hlt : x < V p q
  · rw [setT_yes hlt]
    refine ⟨fun a b ha hb => ?_, fun a ha b hbb => ?_, fun a b ha hb => ?_, fun U hU a b ha hb2 => ?_⟩
    · unfold updT; split
      · exact hx
      · exact h.all a b ha hb
    · unfold updT
      rw [if_neg]
      · exact h.zero a ha b hbb
      · have hx0 : 0 ≤ x := hx.1
        rintro (⟨rfl, rfl⟩ | ⟨rfl, rfl⟩)
        · have := h.zero a ha b hbb; omega
        · have := h.zero b hbb a ha; omega
    · unfold updT
      by_cases e : (a = p ∧ b = q) ∨ (a = q ∧ b = p)
      · rw [if_pos e, if_pos (by rcases e with e | e; exact .inr ⟨e.2, e.1⟩; exact .inl ⟨e.2, e.1⟩)]
      · rw [if_neg e, if_neg (by rintro (k | k); exact e (.inr ⟨k.2, k.1⟩); exact e (.inl ⟨k.2, k.1⟩))]
        exact h.sym a b ha hb
    · unfold updT
      split
      · rename_i e
        rcases e with ⟨rfl, rfl⟩ | ⟨rfl, rfl⟩
        · exact hb U hU
        · exact hb _ (pfix_symm hU)
      · exact h.great U hU a b ha hb2
  · rw [setT_no hlt]; exact h
theorem PAb.set_lt (h : PAb n st ops V) {p q x : Int} (hp : Rng n p) (hq : Rng n q) (hx : InV x) (hlt : x < V p q) : sumT n (setT V p q x) < sumT n V := by
  rw [setT_yes hlt]
  have hs := h.sym p q hp hq
  refine sumT_lt (p := p) (q := q) (fun a b ha hb => ?_) hp hq ?_ ?_
  · unfold updT; split
    · rename_i e
      rcases e with ⟨rfl, rfl⟩ | ⟨rfl, rfl⟩ <;> omega
    · exact Int.le_refl _
  · unfold updT; rw [if_pos (.inl ⟨rfl, rfl⟩)]; exact hx.1
  · unfold updT; rw [if_pos (.inl ⟨rfl, rfl⟩)]; exact hlt
/-- While an operator is applied: V0 the values at its start, b whether some value was changed, P what is known if none was. -/
structure Use (n : Nat) (st : List Int) (ops : List OpV) (V0 V : Int → Int → Int) (b : Bool) (P : Prop) : Prop where
  ab : PAb n st ops V
  down : b = true → sumT n V < sumT n V0
  keep : b = false → V = V0 ∧ P
theorem Use.set_ {V0 : Int → Int → Int} {b : Bool} {P P' : Prop} (h : Use n st ops V0 V b P) {p q x : Int} (hp : Rng n p) (hq : Rng n q) (hx : InV x) (hb : ∀ U, PFix n st ops U → U p q ≤ x) (hP : V = V0 → P → V0 p q ≤ x → P') :
    Use n st ops V0 (setT V p q x) (decide (x < V p q) || b) P' := by
  refine ⟨h.ab.set_ hp hq hx hb, fun hc => ?_, fun hc => ?_⟩
  · by_cases hlt : x < V p q
    · have h1 := h.ab.set_lt hp hq hx hlt
      cases b with
      | true => have := h.down rfl; omega
      | false => rw [(h.keep rfl).1] at h1 ⊢; exact h1
    · rw [setT_no hlt]
      refine h.down ?_
      simpa [hlt] using hc
  · simp only [Bool.or_eq_false_iff, decide_eq_false_iff_not] at hc
    obtain ⟨h1, h2⟩ := h.keep hc.2
    rw [setT_no hc.1]
    exact ⟨h1, hP h1 h2 (by rw [← h1]; omega)⟩
theorem Use.imp {V0 : Int → Int → Int} {b : Bool} {P P' : Prop} (h : Use n st ops V0 V b P) (hP : V = V0 → P → P') : Use n st ops V0 V b P' := ⟨h.ab, h.down, fun hb => ⟨(h.keep hb).1, hP (h.keep hb).1 (h.keep hb).2⟩⟩
end

end Go.Proofs.Ytihkgdlanfemcaa

namespace Go.Proofs.Ytihkgdlanfemcaa
open Go.RowKit
set_option linter.unusedVariables false
set_option linter.unusedSimpArgs false

/-- s[:k] -/
theorem cut_low (A : Option Addr) (n c k : Nat) (hk : k ≤ c) (hc2 : c ≤ 9223372036854775807) :
    ∀ (i : Int), i = (k : Int) → ∀ (w : World), (Instr.slice 22 (.slice A n c) none (some (.int .i64 i)) none).run Try.prog w = .ok (.slice A k c) w := by
  rintro i rfl w
  have h0 : (0 : Int) ≤ k := by omega
  have h1 : (k : Int) ≤ c := by omega
  simp [go_sem, Try.underlying22, h0, h1, hk]
  try omega
set_option maxRecDepth 100000 in
set_option maxHeartbeats 400000 in
theorem pvalue_any (w : World) (g n c : Nat) (bs : List Nat) (V : Int → Int → Int) (hT : Tbl w g bs n V) (A : Option Addr) (l : List Int) (hI : Ints w A l) (hc : l.length ≤ c) (hc2 : c ≤ 9223372036854775807) (hn : n ≤ 1000) (hl : ∀ x ∈ l, 0 ≤ x ∧ x < (n : Int)) (hs : ∀ p ∈ l, ∀ q ∈ l, V p q = V q p) :
    Calls Try.prog 60 #[.slice (some ⟨g, 0, none⟩) n n, .slice A l.length c] w fun e w' => e = .returned (.int .i64 (valP V l)) ∧ w = w' := by
  have HS := Lib.hid hs
  have HX := Lib.hid hl
  have HC : ∀ (k : Nat), k < l.length → ∀ (i : Int), i = (k : Int) + 1 → ∀ (w : World), (Instr.slice 22 (.slice A l.length c) none (some (.int .i64 i)) none).run Try.prog w = .ok (.slice A (k + 1) c) w := fun k hk i hi w => cut_low A l.length c (k + 1) (by omega) hc2 i (by omega) w
  clear hs hl
  go_enter Try.func60, Try.ntmps60
  go_wp2
  go_loop [5, 12] (fun a i => ∃ (k : Nat) (o : Int), k ≤ l.length ∧ i = .int .i64 k ∧ a = .int .i64 o ∧ Hid (Cov V l k 0 o)) (fun _ i => l.length - (intOf i).toNat)
  case atStart => exact ⟨0, 0, Nat.zero_le _, rfl, rfl, Lib.hid (Cov.start V l)⟩
  case round =>
    obtain ⟨k, o, hk, rfl, rfl, hC⟩ := hrel
    by_cases hlt : k < l.length
    · obtain ⟨ad, x, rfl, hx, hcx⟩ := hI.at_ hlt
      obtain ⟨x0, x1⟩ := HX.out x (List.mem_of_getElem? hx.out)
      have hcut := HC k hlt
      go_wp2
      go_loop [5, 22] (fun a i => ∃ (j : Nat) (o : Int), j ≤ k + 1 ∧ i = .int .i64 j ∧ a = .int .i64 o ∧ Hid (Cov V l k j o)) (fun _ i => k + 1 - (intOf i).toNat)
      case atStart => exact ⟨0, o, by omega, rfl, rfl, hC⟩
      case round =>
        obtain ⟨j, o1, hj, rfl, rfl, hC1⟩ := hrel
        by_cases hjl : j < k + 1
        · obtain ⟨ad', y, e, hy, hcy⟩ := hI.at_ (k := j) (by omega)
          injection e with e
          subst e
          obtain ⟨y0, y1⟩ := HX.out y (List.mem_of_getElem? hy.out)
          obtain ⟨b, hb, hg, hcv, hfv⟩ := hT.at_ ⟨x0, x1⟩ ⟨y0, y1⟩
          go_wp2
          go_round
          case rel => exact ⟨j + 1, _, by omega, by go_num, rfl, Lib.hid (hC1.out.step hx.out hy.out (by first | rfl | (simp only [Int.max_def]; split <;> split <;> omega)))⟩
          case measure => simp [intOf]; omega
        · obtain rfl : j = k + 1 := by omega
          go_wp2
          go_round
          case rel => exact ⟨k + 1, o1, by omega, by go_num, rfl, Lib.hid hC1.out.row⟩
          case measure => simp [intOf]; omega
    · have HE := Lib.hid (hC.out.end_ (by omega) HS.out)
      go_wp2
      go_ret
      exact ⟨ret_int HE.out, rfl⟩

theorem Wr.drew {bs : List Nat} {a w : World} (h : Wr bs a w) : Wr bs a w.drew := ⟨h.os, h.tape, h.output, h.size, h.block⟩
theorem Tbl.drew {w : World} {g n : Nat} {bs : List Nat} {V : Int → Int → Int} (h : Tbl w g bs n V) : Tbl w.drew g bs n V := ⟨h.arr, h.len, h.rows, h.diff, h.nodup⟩
set_option maxRecDepth 100000 in
set_option maxHeartbeats 400000 in
theorem pset_no (w : World) (g n : Nat) (bs : List Nat) (V : Int → Int → Int) (hT : Tbl w g bs n V) (hn : n ≤ 1000) (p q x : Int) (hp : 0 ≤ p ∧ p < (n : Int)) (hq : 0 ≤ q ∧ q < (n : Int)) (hx : ¬ x < V p q) :
    Calls Try.prog 123 #[.slice (some ⟨g, 0, none⟩) n n, .int .i64 p, .int .i64 q, .int .i64 x] w fun e w' => e = .returned (.bool false) ∧ Tbl w' g bs n (setT V p q x) ∧ Wr bs w w' := by
  obtain ⟨p0, p1⟩ := hp
  obtain ⟨q0, q1⟩ := hq
  obtain ⟨b, hb, hg, hcv, hfv⟩ := hT.at_ ⟨p0, p1⟩ ⟨q0, q1⟩
  have HE := Lib.hid (setT_no hx)
  have hge : x ≥ V p q := by omega
  go_enter Try.func123, Try.ntmps123
  go_wp2
  go_ret
  exact ⟨rfl, by rw [HE.out]; exact hT, Wr.refl _ _⟩

set_option maxRecDepth 100000 in
set_option maxHeartbeats 1000000 in
theorem pset_yes (w : World) (g n : Nat) (bs : List Nat) (V : Int → Int → Int) (hT : Tbl w g bs n V) (hn : n ≤ 1000) (p q x : Int) (hp : 0 ≤ p ∧ p < (n : Int)) (hq : 0 ≤ q ∧ q < (n : Int)) (hx : x < V p q) :
    Calls Try.prog 123 #[.slice (some ⟨g, 0, none⟩) n n, .int .i64 p, .int .i64 q, .int .i64 x] w fun e w' => e = .returned (.bool true) ∧ Tbl w' g bs n (setT V p q x) ∧ Wr bs w w' := by
  obtain ⟨p0, p1⟩ := hp
  obtain ⟨q0, q1⟩ := hq
  obtain ⟨b, hb, hg, hcv, hfv⟩ := hT.at_ ⟨p0, p1⟩ ⟨q0, q1⟩
  obtain ⟨b', hb', hg', hcv', hfv'⟩ := hT.at_ ⟨q0, q1⟩ ⟨p0, p1⟩
  have HE := Lib.hid (setT_yes hx)
  have hge : ¬ x ≥ V p q := by omega
  have hm := Lib.hid (List.mem_of_getElem? hb.out)
  have hm' := Lib.hid (List.mem_of_getElem? hb'.out)
  have T1 := hT.store p0 q0 hb.out x
  have T2 := hT.store q0 p0 hb'.out x
  obtain ⟨b2, e2, -, hcA, hfA⟩ := T1.at_ ⟨q0, q1⟩ ⟨p0, p1⟩
  obtain ⟨b3, e3, -, hcB, hfB⟩ := T2.at_ ⟨p0, p1⟩ ⟨q0, q1⟩
  obtain rfl : b2 = b' := by have := e2.out; rw [hb'.out] at this; injection this with this; exact this.symm
  obtain rfl : b3 = b := by have := e3.out; rw [hb.out] at this; injection this with this; exact this.symm
  have HT1 := Lib.hid (show Tbl ((w.setCell ⟨b3, q.toNat, none⟩ (.int .i64 x)).setCell ⟨b2, p.toNat, none⟩ (.int .i64 x)) g bs n (setT V p q x) by rw [HE.out, ← put1_two]; exact T1.store q0 p0 hb'.out x)
  have HT2 := Lib.hid (show Tbl ((w.setCell ⟨b2, p.toNat, none⟩ (.int .i64 x)).setCell ⟨b3, q.toNat, none⟩ (.int .i64 x)) g bs n (setT V p q x) by rw [HE.out, ← put1_two']; exact T2.store p0 q0 hb.out x)
  have HW1 := Lib.hid (show Wr bs w (((w.setCell ⟨b3, q.toNat, none⟩ (.int .i64 x)).setCell ⟨b2, p.toNat, none⟩ (.int .i64 x)).drew) from (((Wr.refl bs w).set_ (p := ⟨b3, q.toNat, none⟩) hm.out _).set_ (p := ⟨b2, p.toNat, none⟩) hm'.out _).drew)
  have HW2 := Lib.hid (show Wr bs w (((w.setCell ⟨b2, p.toNat, none⟩ (.int .i64 x)).setCell ⟨b3, q.toNat, none⟩ (.int .i64 x)).drew) from (((Wr.refl bs w).set_ (p := ⟨b2, p.toNat, none⟩) hm'.out _).set_ (p := ⟨b3, q.toNat, none⟩) hm.out _).drew)
  clear T1 T2
  go_enter Try.func123, Try.ntmps123
  go_wp2
  go_region
  all_goals (go_wp2; go_ret; (first | exact ⟨rfl, HT1.out.drew, HW1.out⟩ | exact ⟨rfl, HT2.out.drew, HW2.out⟩))

theorem pset_any (w : World) (g n : Nat) (bs : List Nat) (V : Int → Int → Int) (hT : Tbl w g bs n V) (hn : n ≤ 1000) (p q x : Int) (hp : 0 ≤ p ∧ p < (n : Int)) (hq : 0 ≤ q ∧ q < (n : Int)) (v : Bool) (hv : decide (x < V p q) = v) :
    Calls Try.prog 123 #[.slice (some ⟨g, 0, none⟩) n n, .int .i64 p, .int .i64 q, .int .i64 x] w fun e w' => e = .returned (.bool v) ∧ Tbl w' g bs n (setT V p q x) ∧ Wr bs w w' := by
  cases v with
  | true => exact pset_yes w g n bs V hT hn p q x hp hq (of_decide_eq_true hv)
  | false => exact pset_no w g n bs V hT hn p q x hp hq (of_decide_eq_false hv)

end Go.Proofs.Ytihkgdlanfemcaa

namespace Go.Proofs.Ytihkgdlanfemcaa
open Go.RowKit
set_option linter.unusedVariables false
set_option linter.unusedSimpArgs false

theorem one_ints (w : World) (q : Int) (k : Nat) (hk : k = w.heap.size) : Ints (w.alloc (.cells #[.int .i64 q] 3)) (some ⟨k, 0, none⟩) [q] := by
  subst hk
  exact Arr.row (Arr.new w 3 [Value.int .i64 q])
theorem ints_1 {w : World} {k : Nat} {q : Int} (h : w.cell? ⟨k, 0, none⟩ = some (.int .i64 q)) : Ints w (some ⟨k, 0, none⟩) [q] := fun j u hu => by
  cases j with
  | zero => simp at hu; subst hu; exact ⟨_, rfl, h⟩
  | succ j => simp at hu
theorem scont1 (A B : Option Addr) (c d : Nat) (s : List Int) (q : Int) (w : World) (v : Bool) (hI : Ints w A s) (hJ : Ints w B [q]) (hl : s.length ≤ 9223372036854775807) (hs : s.Pairwise (· < ·)) (hv : decide (q ∈ s) = v) :
    Calls Try.prog 99 #[.slice A s.length c, .slice B 1 d] w fun e w' => e = .returned (.bool v) ∧ w = w' :=
  scontains_v A B c d s [q] w v hI hJ hl (by simp) hs (by simp) (by rw [← hv]; simp)
set_option maxRecDepth 100000 in
set_option maxHeartbeats 400000 in
theorem union_any (w : World) (A B : Option Addr) (c d : Nat) (l k : List Int) (hA : Ints w A l) (hB : Ints w B k) (hl : l.length ≤ 100000000000) (hk : k.length ≤ 100000000000) (hnil : B = none → d = 0) :
    Calls Try.prog 124 #[.slice A l.length c, .slice B k.length d] w fun e w' => ∃ v, e = .returned v ∧ OwnI w.heap.size w' v (updV l k []) ∧ Below w.heap.size w w' := by
  go_enter Try.func124, Try.ntmps124
  go_wp2_with fail
  refine (update_any _ A B none c d 0 l k [] hA hB (Ints.nil _ _) hl hk (by simp) (by simp) hnil).mono ?_
  rintro e w9 ⟨v9, rfl, ho9, hB9⟩
  go_wp2
  go_ret
  exact ⟨_, rfl, ho9, hB9⟩

theorem updV_len_le {l k : List Int} {n : Nat} (hl : ∀ x ∈ l, 0 ≤ x ∧ x < (n : Int)) (hk : ∀ x ∈ k, 0 ≤ x ∧ x < (n : Int)) : ∀ x ∈ updV l k [], 0 ≤ x ∧ x < (n : Int) := fun x hx => by
  rcases updV_mem.1 hx with h | h
  · exact hk x h
  · exact hl x h.1
section
variable {n : Nat} {st : List Int} {ops : List OpV} {V U : Int → Int → Int} {o : OpV} {p q : Int}
theorem plus_val_mono (hU : PFix n st ops U) (h : PAb n st ops V) {l : List Int} (hl : ∀ x ∈ l, Rng n x) {c : Int} (hc : InV c) : plusV (valP U l) c ≤ plusV (valP V l) c :=
  plusV_mono (valP_in hU.all hl) hc (valP_in h.all hl) hc (valP_mono fun a ha b hb => h.great U hU a b (hl a ha) (hl b hb)) (Int.le_refl _)
theorem use_both (h : PAb n st ops V) (hops : OpsIn n ops) (ho : o ∈ ops) (hp : p ∈ o.add) (hq : q ∈ o.add) : ∀ U, PFix n st ops U → U p q ≤ plusV (valP V o.pre) o.cost := fun U hU => by
  have h1 := hops o ho
  exact Int.le_trans (hU.closed o ho p q o.pre (h1.2.1 p hp) (h1.2.1 q hq) (.both hp hq)) (plus_val_mono hU h h1.1 (costIn hops ho))
theorem upd_arc (hp : p ∈ o.add) (hq : q ∉ o.add) (hd : q ∉ o.del) : Arc o p q (updV o.pre [q] []) := .left hp hq hd fun x => by
  rw [updV_mem]; simp
theorem use_left (h : PAb n st ops V) (hops : OpsIn n ops) (ho : o ∈ ops) (hp : p ∈ o.add) (hr : Rng n q) (hq : q ∉ o.add) (hd : q ∉ o.del) : ∀ U, PFix n st ops U → U p q ≤ plusV (valP V (updV o.pre [q] [])) o.cost := fun U hU => by
  have h1 := hops o ho
  have ha := upd_arc hp hq hd
  exact Int.le_trans (hU.closed o ho p q _ (h1.2.1 p hp) hr ha) (plus_val_mono hU h (ha.rng h1.1 (h1.2.1 p hp) hr) (costIn hops ho))
/-- What is known of the operator's facts, one by one, if no value was changed. -/
def DoneQ (n : Nat) (V : Int → Int → Int) (o : OpV) (p : Int) : Prop := (∀ q ∈ o.add, V p q ≤ plusV (valP V o.pre) o.cost) ∧ ∀ q, Rng n q → q ∉ o.add → q ∉ o.del → V p q ≤ plusV (valP V (updV o.pre [q] [])) o.cost
def OpClosed (n : Nat) (V : Int → Int → Int) (o : OpV) : Prop := ∀ p q l, Rng n p → Rng n q → Arc o p q l → V p q ≤ plusV (valP V l) o.cost
theorem done_closed (h : PAb n st ops V) (hd : ∀ p ∈ o.add, DoneQ n V o p) : OpClosed n V o := fun p q l hp hq ha => by
  cases ha with
  | both h1 h2 => exact (hd p h1).1 q h2
  | left h1 h2 h3 h4 =>
    rw [valP_congr (V := V) (m := updV o.pre [q] []) (fun x => by rw [h4 x, updV_mem]; simp)]
    exact (hd p h1).2 q hq h2 h3
  | right h1 h2 h3 h4 =>
    rw [valP_congr (V := V) (m := updV o.pre [p] []) (fun x => by rw [h4 x, updV_mem]; simp), h.sym p q hp hq]
    exact (hd q h1).2 p hp h2 h3
theorem take_all_add {P : Int → Prop} {l : List Int} {k : Nat} (hk : ¬ k < l.length) (h : ∀ x ∈ l.take k, P x) : ∀ x ∈ l, P x := by rwa [List.take_of_length_le (by omega)] at h
theorem take_next {P : Int → Prop} {l : List Int} {k : Nat} {x : Int} (hx : l[k]? = some x) (h : ∀ y ∈ l.take k, P y) (h1 : P x) : ∀ y ∈ l.take (k + 1), P y := fun y hy => by
  rw [List.take_add_one, hx] at hy
  rcases List.mem_append.1 hy with e | e
  · exact h y e
  · have : y = x := by simpa using e
    rw [this]; exact h1
end
set_option maxRecDepth 100000 in
set_option maxHeartbeats 1000000 in
theorem use_any (wz w : World) (hz : Below wz.heap.size wz w) (o : OpV) (A0 A1 A2 : Option Addr) (c0 c1 c2 : Nat) (hm : OpMem wz A0 A1 A2 o) (hnp : NilOk A0 o.pre c0) (g n : Nat) (bs : List Nat) (V : Int → Int → Int) (hT : Tbl w g bs n V) (hbs : ∀ b ∈ bs, wz.heap.size ≤ b) (hn : n ≤ 1000)
    (st : List Int) (ops : List OpV) (hops : OpsIn n ops) (ho : o ∈ ops) (hs0 : SetP o.pre (n : Int)) (hs1 : SetP o.add (n : Int)) (hs2 : SetP o.del (n : Int)) (hV : PAb n st ops V) :
    Calls Try.prog 100 #[.slice (some ⟨g, 0, none⟩) n n, .agg #[.slice A0 o.pre.length c0, .slice A1 o.add.length c1, .slice A2 o.del.length c2, .int .i64 o.cost]] w fun e w' => ∃ b V', e = .returned (.bool b) ∧ Tbl w' g bs n V' ∧ Wr bs w w' ∧ Use n st ops V V' b (OpClosed n V o) := by
  have HC0 := Lib.hid (costIn hops ho)
  have HOP := Lib.hid (hops o ho)
  have hKb := hT.lt.2
  have hc02 : c0 ≤ 9223372036854775807 := hnp.2.2
  have hlpre : o.pre.length ≤ 100000000000 := by have := SetP.length hs0 (by omega); omega
  have hladd : o.add.length ≤ 9223372036854775807 := by have := SetP.length hs1 (by omega); omega
  have hldel : o.del.length ≤ 9223372036854775807 := by have := SetP.length hs2 (by omega); omega
  have HS0 := Lib.hid hs0
  have HS1 := Lib.hid hs1
  have HS2 := Lib.hid hs2
  have HSYM := Lib.hid (fun p hp q hq => hV.sym p q (HOP.out.1 p hp) (HOP.out.1 q hq) : ∀ p ∈ o.pre, ∀ q ∈ o.pre, V p q = V q p)
  have HVI := Lib.hid (valP_in hV.all HOP.out.1)
  have HU0 : Hid (Use n st ops V V false (∀ p ∈ o.add.take 0, DoneQ n V o p)) := Lib.hid ⟨hV, (fun h => by cases h), fun _ => ⟨rfl, by simp⟩⟩
  have HV := Lib.hid hV
  obtain ⟨cst, hcst⟩ : ∃ cst, Hid (plusV (valP V o.pre) o.cost = cst) := ⟨_, Lib.hid rfl⟩
  have HCI := Lib.hid (show InV cst by rw [← hcst.out]; exact plusV_in HVI.out HC0.out)
  have HB2 := Lib.hid (fun p q (hp : p ∈ o.add) (hq : q ∈ o.add) => show ∀ U, PFix n st ops U → U p q ≤ cst by rw [← hcst.out]; exact use_both hV hops ho hp hq)
  have HOPS := Lib.hid hops
  have HOO := Lib.hid ho
  clear hs0 hs1 hs2 hV hops ho
  go_enter Try.func100, Try.ntmps100
  go_wp2_with fail
  go_quiet (first | (go_at_call 60; exact Calls.quiet_of_same ((pvalue_any _ g n c0 bs V (hT.below (by repeat (first | with_reducible exact Below.refl _ _ | with_reducible apply bdrew | with_reducible apply bdrewN | with_reducible apply balloc | ((with_reducible refine bset ?_ ?_ _); rotate_left; (first | omega | (simp <;> omega)))))) A0 o.pre (hm.pre.below (by repeat (first | with_reducible exact hz | with_reducible apply bdrew | with_reducible apply bdrewN | with_reducible apply balloc | ((with_reducible refine bset ?_ ?_ _); rotate_left; (first | omega | (simp <;> omega)))))) hnp.2.1 hc02 hn HOP.out.1 HSYM.out).mono fun _ _ h => ⟨h.1, h.2.symm⟩)) | (go_at_call 122; exact Calls.quiet_of_same ((plus_any _ _ _ HVI.out HC0.out).mono fun _ _ h => ⟨h.1, h.2.symm⟩)))
  rw [hcst.out]
  go_wp2_with fail
  go_loopw [5, 23] (fun ch i wr => ∃ (k : Nat) (Vc : Int → Int → Int) (bc : Bool), k ≤ o.add.length ∧ i = .int .i64 k ∧ ch = .bool bc ∧ Tbl wr g bs n Vc ∧ Wr bs w wr ∧ Cls wr [(w.heap.size, 0, .slice A0 o.pre.length c0), (w.heap.size, 1, .slice A1 o.add.length c1), (w.heap.size, 2, .slice A2 o.del.length c2), (w.heap.size, 3, .int .i64 o.cost)] ∧ Hid (Use n st ops V Vc bc (∀ p ∈ o.add.take k, DoneQ n V o p))) (fun _ i _ => o.add.length - (intOf i).toNat)
  case atStart => exact ⟨0, V, false, Nat.zero_le _, rfl, rfl, hT.below (by repeat (first | with_reducible exact Below.refl _ _ | with_reducible apply bdrew | with_reducible apply bdrewN | with_reducible apply balloc | ((with_reducible refine bset ?_ ?_ _); rotate_left; (first | omega | (simp <;> omega))))), Wr.of (by repeat (first | with_reducible exact Below.refl _ _ | with_reducible apply bdrew | with_reducible apply bdrewN | with_reducible apply balloc | ((with_reducible refine bset ?_ ?_ _); rotate_left; (first | omega | (simp <;> omega))))), (by simp [Cls, go_sem]), HU0⟩
  case round =>
    obtain ⟨k, Vc, bc, hk, rfl, rfl, hTr, hWr, hCr, hU⟩ := hrel
    obtain ⟨w1, rfl⟩ : ∃ wo : World, wo = wr := ⟨_, rfl⟩
    have hBzr := hz.trans (hWr.below hz.size hbs)
    have dsr := hWr.size
    have Fr := hCr
    simp only [Cls, and_true] at Fr
    have yr : w.heap.size < w1.heap.size := hCr.blk (b := w.heap.size) (k := 3) (v := .int .i64 o.cost) (by simp)
    have yrp : w.heap.size < w1.heap.size + 1 := (by omega)
    have yrq : w.heap.size < w1.heap.size + 1 + 1 := (by omega)
    by_cases hlt : k < o.add.length
    · obtain ⟨ad, p, hA1, hp, hpc⟩ := (hm.add.below hBzr).at_ hlt
      have hcell := hpc
      have HP := Lib.hid (List.mem_of_getElem? hp.out)
      obtain ⟨p0, p1⟩ := HOP.out.2.1 p HP.out
      subst hA1
      have HU2 : Hid (Use n st ops V Vc bc ((∀ p ∈ o.add.take k, DoneQ n V o p) ∧ ∀ q ∈ o.add.take 0, V p q ≤ cst)) := Lib.hid (hU.out.imp fun _ h => ⟨h, by simp⟩)
      go_wp2_with fail
      go_loopw [5, 30] (fun ch i wr => ∃ (j : Nat) (Vc : Int → Int → Int) (bc : Bool), j ≤ o.add.length ∧ i = .int .i64 j ∧ ch = .bool bc ∧ Tbl wr g bs n Vc ∧ Wr bs w wr ∧ Cls wr [(w.heap.size, 0, .slice A0 o.pre.length c0), (w.heap.size, 1, .slice (some ad) o.add.length c1), (w.heap.size, 2, .slice A2 o.del.length c2), (w.heap.size, 3, .int .i64 o.cost)] ∧ Hid (Use n st ops V Vc bc ((∀ p ∈ o.add.take k, DoneQ n V o p) ∧ ∀ q ∈ o.add.take j, V p q ≤ cst))) (fun _ i _ => o.add.length - (intOf i).toNat)
      case atStart => exact ⟨0, Vc, bc, Nat.zero_le _, rfl, rfl, hTr.below (by repeat (first | with_reducible exact Below.refl _ _ | with_reducible apply bdrew | with_reducible apply bdrewN | with_reducible apply balloc | ((with_reducible refine bset ?_ ?_ _); rotate_left; (first | omega | (simp <;> omega))))), hWr.trans (Wr.of (by repeat (first | with_reducible exact Below.refl _ _ | with_reducible apply bdrew | with_reducible apply bdrewN | with_reducible apply balloc | ((with_reducible refine bset ?_ ?_ _); rotate_left; (first | omega | (simp <;> omega)))))), (Cls.below (w := w1) (by repeat (first | with_reducible exact Below.refl _ _ | with_reducible apply bdrew | with_reducible apply bdrewN | with_reducible apply balloc | ((with_reducible refine bset ?_ ?_ _); rotate_left; (first | omega | (simp <;> omega))))) hCr), HU2⟩
      case round =>
        obtain ⟨j, Vd, bd, hj, rfl, rfl, hTs, hWs, hCs, hU2⟩ := hrel
        obtain ⟨w2, rfl⟩ : ∃ wo : World, wo = wr := ⟨_, rfl⟩
        have hBzs := hz.trans (hWs.below hz.size hbs)
        have dss := hWs.size
        have Fs := hCs
        simp only [Cls, and_true] at Fs
        have ys : w.heap.size < w2.heap.size := hCs.blk (b := w.heap.size) (k := 3) (v := .int .i64 o.cost) (by simp)
        have ysp : w.heap.size < w2.heap.size + 1 := (by omega)
        have ysq : w.heap.size < w2.heap.size + 1 + 1 := (by omega)
        by_cases hjl : j < o.add.length
        · obtain ⟨ad', q, e, hq, hqc⟩ := (hm.add.below hBzs).at_ hjl
          injection e with e
          subst e
          have HQ := Lib.hid (List.mem_of_getElem? hq.out)
          obtain ⟨q0, q1⟩ := HOP.out.2.1 q HQ.out
          have HN := Lib.hid (hU2.out.set_ (p := p) (q := q) (x := cst) (P' := (∀ p ∈ o.add.take k, DoneQ n V o p) ∧ ∀ q ∈ o.add.take (j + 1), V p q ≤ cst) ⟨p0, p1⟩ ⟨q0, q1⟩ HCI.out (HB2.out p q HP.out HQ.out) (fun _ h hle => ⟨h.1, take_next hq.out h.2 hle⟩))
          cases hdd : decide (cst < Vd p q)
          all_goals
            have HD := Lib.hid hdd
            rw [hdd] at HN
            clear hdd
            go_wp2_with fail
            refine (pset_any _ g n bs Vd (hTs.below (by repeat (first | with_reducible exact Below.refl _ _ | with_reducible apply bdrew | with_reducible apply bdrewN | with_reducible apply balloc | ((with_reducible refine bset ?_ ?_ _); rotate_left; (first | omega | (simp <;> omega)))))) hn p q cst ⟨p0, p1⟩ ⟨q0, q1⟩ _ HD.out).mono ?_
            rintro e w3 ⟨rfl, hT3, hW3⟩
            have hC3 := Cls.wr hW3 hKb (l := [(w.heap.size, 0, .slice A0 o.pre.length c0), (w.heap.size, 1, .slice (some ad) o.add.length c1), (w.heap.size, 2, .slice A2 o.del.length c2), (w.heap.size, 3, .int .i64 o.cost)]) (Cls.below (w := w2) (by repeat (first | with_reducible exact Below.refl _ _ | with_reducible apply bdrew | with_reducible apply bdrewN | with_reducible apply balloc | ((with_reducible refine bset ?_ ?_ _); rotate_left; (first | omega | (simp <;> omega))))) hCs) (by simp)
            have hW3' := (hWs.trans (Wr.of (by repeat (first | with_reducible exact Below.refl _ _ | with_reducible apply bdrew | with_reducible apply bdrewN | with_reducible apply balloc | ((with_reducible refine bset ?_ ?_ _); rotate_left; (first | omega | (simp <;> omega))))))).trans hW3
            go_wp2
            go_roundw
            case rel => exact ⟨j + 1, _, _, by omega, by go_num, rfl, hT3.below (by repeat (first | with_reducible exact Below.refl _ _ | with_reducible apply bdrew | with_reducible apply bdrewN | with_reducible apply balloc | ((with_reducible refine bset ?_ ?_ _); rotate_left; (first | omega | (simp <;> omega))))), hW3'.trans (Wr.of (by repeat (first | with_reducible exact Below.refl _ _ | with_reducible apply bdrew | with_reducible apply bdrewN | with_reducible apply balloc | ((with_reducible refine bset ?_ ?_ _); rotate_left; (first | omega | (simp <;> omega)))))), (Cls.below (w := w3) (by repeat (first | with_reducible exact Below.refl _ _ | with_reducible apply bdrew | with_reducible apply bdrewN | with_reducible apply balloc | ((with_reducible refine bset ?_ ?_ _); rotate_left; (first | omega | (simp <;> omega))))) hC3), HN⟩
            case measure => simp [intOf]; omega
        · have HU3 : Hid (Use n st ops V Vd bd ((∀ p ∈ o.add.take k, DoneQ n V o p) ∧ (∀ q ∈ o.add, V p q ≤ cst) ∧ ∀ q : Nat, q < 0 → (q : Int) ∉ o.add → (q : Int) ∉ o.del → V p (q : Int) ≤ plusV (valP V (updV o.pre [(q : Int)] [])) o.cost)) := Lib.hid (hU2.out.imp fun _ h => ⟨h.1, take_all_add hjl h.2, fun q h => by omega⟩)
          go_wp2_with fail
          go_loopw [5, 45] (fun ch i wr => ∃ (j : Nat) (Vc : Int → Int → Int) (bc : Bool), j ≤ n ∧ i = .int .i64 j ∧ ch = .bool bc ∧ Tbl wr g bs n Vc ∧ Wr bs w wr ∧ Cls wr [(w.heap.size, 0, .slice A0 o.pre.length c0), (w.heap.size, 1, .slice (some ad) o.add.length c1), (w.heap.size, 2, .slice A2 o.del.length c2), (w.heap.size, 3, .int .i64 o.cost)] ∧ Hid (Use n st ops V Vc bc ((∀ p ∈ o.add.take k, DoneQ n V o p) ∧ (∀ q ∈ o.add, V p q ≤ cst) ∧ ∀ q : Nat, q < j → (q : Int) ∉ o.add → (q : Int) ∉ o.del → V p (q : Int) ≤ plusV (valP V (updV o.pre [(q : Int)] [])) o.cost))) (fun _ i _ => n - (intOf i).toNat)
          case atStart => exact ⟨0, Vd, bd, Nat.zero_le _, rfl, rfl, hTs.below (by repeat (first | with_reducible exact Below.refl _ _ | with_reducible apply bdrew | with_reducible apply bdrewN | with_reducible apply balloc | ((with_reducible refine bset ?_ ?_ _); rotate_left; (first | omega | (simp <;> omega))))), hWs.trans (Wr.of (by repeat (first | with_reducible exact Below.refl _ _ | with_reducible apply bdrew | with_reducible apply bdrewN | with_reducible apply balloc | ((with_reducible refine bset ?_ ?_ _); rotate_left; (first | omega | (simp <;> omega)))))), (Cls.below (w := w2) (by repeat (first | with_reducible exact Below.refl _ _ | with_reducible apply bdrew | with_reducible apply bdrewN | with_reducible apply balloc | ((with_reducible refine bset ?_ ?_ _); rotate_left; (first | omega | (simp <;> omega))))) hCs), HU3⟩
          case round =>
            obtain ⟨q, Ve, be, hqn, rfl, rfl, hTt, hWt, hCt, hU3⟩ := hrel
            obtain ⟨w4, rfl⟩ : ∃ wo : World, wo = wr := ⟨_, rfl⟩
            have hBzt := hz.trans (hWt.below hz.size hbs)
            have dst := hWt.size
            have Ft := hCt
            simp only [Cls, and_true] at Ft
            have yt : w.heap.size < w4.heap.size := hCt.blk (b := w.heap.size) (k := 3) (v := .int .i64 o.cost) (by simp)
            have ytp : w.heap.size < w4.heap.size + 1 := (by omega)
            have ytq : w.heap.size < w4.heap.size + 1 + 1 := (by omega)
            by_cases hql : q < n
            · have HQR := Lib.hid (show Rng n (q : Int) from ⟨by omega, by omega⟩)
              by_cases hqa : (q : Int) ∈ o.add
              · have HD := Lib.hid (decide_eq_true hqa)
                have HN : Hid (Use n st ops V Ve be ((∀ p ∈ o.add.take k, DoneQ n V o p) ∧ (∀ q ∈ o.add, V p q ≤ cst) ∧ ∀ i : Nat, i < q + 1 → (i : Int) ∉ o.add → (i : Int) ∉ o.del → V p (i : Int) ≤ plusV (valP V (updV o.pre [(i : Int)] [])) o.cost)) := Lib.hid (hU3.out.imp fun _ h => ⟨h.1, h.2.1, fun i hi h1 h2 => by
                  rcases Nat.lt_or_ge i q with h3 | h3
                  · exact h.2.2 i h3 h1 h2
                  · obtain rfl : i = q := by omega
                    exact absurd hqa h1⟩)
                clear hqa
                go_wp2_with fail
                refine (scont1 _ _ _ _ o.add q _ true (hm.add.below (by repeat (first | with_reducible exact hBzt | with_reducible apply bdrew | with_reducible apply bdrewN | with_reducible apply balloc | ((with_reducible refine bset ?_ ?_ _); rotate_left; (first | omega | (simp <;> omega)))))) (ints_1 (by simp [go_sem])) hladd (SetP.pairwise HS1.out) HD.out).mono ?_
                rintro e w9 ⟨rfl, rfl⟩
                go_wp2
                go_roundw
                case rel => exact ⟨q + 1, _, _, by omega, by go_num, rfl, hTt.below (by repeat (first | with_reducible exact Below.refl _ _ | with_reducible apply bdrew | with_reducible apply bdrewN | with_reducible apply balloc | ((with_reducible refine bset ?_ ?_ _); rotate_left; (first | omega | (simp <;> omega))))), hWt.trans (Wr.of (by repeat (first | with_reducible exact Below.refl _ _ | with_reducible apply bdrew | with_reducible apply bdrewN | with_reducible apply balloc | ((with_reducible refine bset ?_ ?_ _); rotate_left; (first | omega | (simp <;> omega)))))), (Cls.below (w := w4) (by repeat (first | with_reducible exact Below.refl _ _ | with_reducible apply bdrew | with_reducible apply bdrewN | with_reducible apply balloc | ((with_reducible refine bset ?_ ?_ _); rotate_left; (first | omega | (simp <;> omega))))) hCt), HN⟩
                case measure => simp [intOf]; omega
              · have HD := Lib.hid (decide_eq_false hqa)
                by_cases hqd : (q : Int) ∈ o.del
                · have HD2 := Lib.hid (decide_eq_true hqd)
                  have HN : Hid (Use n st ops V Ve be ((∀ p ∈ o.add.take k, DoneQ n V o p) ∧ (∀ q ∈ o.add, V p q ≤ cst) ∧ ∀ i : Nat, i < q + 1 → (i : Int) ∉ o.add → (i : Int) ∉ o.del → V p (i : Int) ≤ plusV (valP V (updV o.pre [(i : Int)] [])) o.cost)) := Lib.hid (hU3.out.imp fun _ h => ⟨h.1, h.2.1, fun i hi h1 h2 => by
                    rcases Nat.lt_or_ge i q with h3 | h3
                    · exact h.2.2 i h3 h1 h2
                    · obtain rfl : i = q := by omega
                      exact absurd hqd h2⟩)
                  clear hqa hqd
                  go_wp2_with fail
                  refine (scont1 _ _ _ _ o.add q _ false (hm.add.below (by repeat (first | with_reducible exact hBzt | with_reducible apply bdrew | with_reducible apply bdrewN | with_reducible apply balloc | ((with_reducible refine bset ?_ ?_ _); rotate_left; (first | omega | (simp <;> omega)))))) (ints_1 (by simp [go_sem])) hladd (SetP.pairwise HS1.out) HD.out).mono ?_
                  rintro e w9 ⟨rfl, rfl⟩
                  go_wp2_with fail
                  refine (scont1 _ _ _ _ o.del q _ true (hm.del.below (by repeat (first | with_reducible exact hBzt | with_reducible apply bdrew | with_reducible apply bdrewN | with_reducible apply balloc | ((with_reducible refine bset ?_ ?_ _); rotate_left; (first | omega | (simp <;> omega)))))) (ints_1 (by simp [go_sem])) hldel (SetP.pairwise HS2.out) HD2.out).mono ?_
                  rintro e w9 ⟨rfl, rfl⟩
                  go_wp2
                  go_roundw
                  case rel => exact ⟨q + 1, _, _, by omega, by go_num, rfl, hTt.below (by repeat (first | with_reducible exact Below.refl _ _ | with_reducible apply bdrew | with_reducible apply bdrewN | with_reducible apply balloc | ((with_reducible refine bset ?_ ?_ _); rotate_left; (first | omega | (simp <;> omega))))), hWt.trans (Wr.of (by repeat (first | with_reducible exact Below.refl _ _ | with_reducible apply bdrew | with_reducible apply bdrewN | with_reducible apply balloc | ((with_reducible refine bset ?_ ?_ _); rotate_left; (first | omega | (simp <;> omega)))))), (Cls.below (w := w4) (by repeat (first | with_reducible exact Below.refl _ _ | with_reducible apply bdrew | with_reducible apply bdrewN | with_reducible apply balloc | ((with_reducible refine bset ?_ ?_ _); rotate_left; (first | omega | (simp <;> omega))))) hCt), HN⟩
                  case measure => simp [intOf]; omega
                · have HD2 := Lib.hid (decide_eq_false hqd)
                  have HB3 := Lib.hid (use_left hU3.out.ab HOPS.out HOO.out HP.out HQR.out hqa hqd)
                  have HL := Lib.hid (updV_len_le (l := o.pre) (k := [(q : Int)]) HS0.out.1 (fun x hx => by rw [List.mem_singleton.1 hx]; exact HQR.out))
                  have HSY := Lib.hid (fun p hp q hq => hU3.out.ab.sym p q (HL.out p hp) (HL.out q hq) : ∀ a ∈ updV o.pre [(q : Int)] [], ∀ b ∈ updV o.pre [(q : Int)] [], Ve a b = Ve b a)
                  have HVI3 := Lib.hid (valP_in hU3.out.ab.all HL.out)
                  obtain ⟨val, hval⟩ : ∃ val, Hid (plusV (valP Ve (updV o.pre [(q : Int)] [])) o.cost = val) := ⟨_, Lib.hid rfl⟩
                  have HXI := Lib.hid (show InV val by rw [← hval.out]; exact plusV_in HVI3.out HC0.out)
                  have HN := Lib.hid (hU3.out.set_ (p := p) (q := (q : Int)) (x := val) (P' := (∀ p ∈ o.add.take k, DoneQ n V o p) ∧ (∀ q ∈ o.add, V p q ≤ cst) ∧ ∀ i : Nat, i < q + 1 → (i : Int) ∉ o.add → (i : Int) ∉ o.del → V p (i : Int) ≤ plusV (valP V (updV o.pre [(i : Int)] [])) o.cost) ⟨p0, p1⟩ HQR.out HXI.out (by rw [← hval.out]; exact HB3.out) (fun he h hle => ⟨h.1, h.2.1, fun i hi h1 h2 => by
                    rcases Nat.lt_or_ge i q with h3 | h3
                    · exact h.2.2 i h3 h1 h2
                    · obtain rfl : i = q := by omega
                      rw [← he] at hle ⊢
                      rw [hval.out]; exact hle⟩))
                  clear hqa hqd
                  go_wp2_with fail
                  refine (scont1 _ _ _ _ o.add q _ false (hm.add.below (by repeat (first | with_reducible exact hBzt | with_reducible apply bdrew | with_reducible apply bdrewN | with_reducible apply balloc | ((with_reducible refine bset ?_ ?_ _); rotate_left; (first | omega | (simp <;> omega)))))) (ints_1 (by simp [go_sem])) hladd (SetP.pairwise HS1.out) HD.out).mono ?_
                  rintro e w9 ⟨rfl, rfl⟩
                  go_wp2_with fail
                  refine (scont1 _ _ _ _ o.del q _ false (hm.del.below (by repeat (first | with_reducible exact hBzt | with_reducible apply bdrew | with_reducible apply bdrewN | with_reducible apply balloc | ((with_reducible refine bset ?_ ?_ _); rotate_left; (first | omega | (simp <;> omega)))))) (ints_1 (by simp [go_sem])) hldel (SetP.pairwise HS2.out) HD2.out).mono ?_
                  rintro e w9 ⟨rfl, rfl⟩
                  go_upto_region 15 with (fail)
                  go_cut [12] (fun s12 wx => s12 = .int .i64 val ∧ Tbl wx g bs n Ve ∧ Wr bs w wx ∧ Cls wx [(w.heap.size, 0, .slice A0 o.pre.length c0), (w.heap.size, 1, .slice (some ad) o.add.length c1), (w.heap.size, 2, .slice A2 o.del.length c2), (w.heap.size, 3, .int .i64 o.cost)])
                  case first =>
                    have HE := Below.refl w4.heap.size w4
                    have hU3' := hval
                    go_region_held3 (fun W => W.cell? ⟨w.heap.size, 0, none⟩ = some (.slice A0 o.pre.length c0) ∧ W.cell? ⟨w.heap.size, 3, none⟩ = some (.int .i64 o.cost)) (first | exact hK | simp [go_sem, Ft, yt, ytp, ytq] | go_keep) (first | (go_at_call 124; refine (union_any _ _ _ _ _ o.pre [(q : Int)] (hm.pre.below (by repeat (first | with_reducible exact hBzt | with_reducible apply bdrew | with_reducible apply bdrewN | with_reducible apply balloc | ((with_reducible refine bset ?_ ?_ _); rotate_left; (first | omega | (simp <;> omega)))))) (ints_1 (by simp [go_sem])) hlpre (by simp) (fun h => by cases h)).mono ?_; rintro e w5 ⟨v5, rfl, ho5, hB5⟩; have HE' := dstep w4 hB5 (by repeat (first | with_reducible exact HE | with_reducible apply bdrew | with_reducible apply bdrewN | with_reducible apply balloc | ((with_reducible refine bset ?_ ?_ _); rotate_left; (first | omega | (simp <;> omega))))); clear HE; have HE := HE'; clear HE'; have ds5 := HE.size; have C5 := Cls.below (w := w4) HE hCt; have F5 := C5; simp only [Cls, and_true] at F5; have hK : w5.cell? ⟨w.heap.size, 0, none⟩ = some (.slice A0 o.pre.length c0) ∧ w5.cell? ⟨w.heap.size, 3, none⟩ = some (.int .i64 o.cost) := (by simp [F5]); clear hB5; obtain ⟨A5, c5, rfl, -, hI5⟩ := ho5.form; have hcap := OwnI.cap_le ho5; have hcam := OwnI.cap_max ho5) | (go_at_call 60; refine (pvalue_any _ g n c5 bs Ve (hTt.below (by repeat (first | with_reducible exact HE | with_reducible apply bdrew | with_reducible apply bdrewN | with_reducible apply balloc | ((with_reducible refine bset ?_ ?_ _); rotate_left; (first | omega | (simp <;> omega)))))) A5 (updV o.pre [(q : Int)] []) (hI5.below (by repeat (first | with_reducible exact Below.refl _ _ | with_reducible apply bdrew | with_reducible apply bdrewN | with_reducible apply balloc | ((with_reducible refine bset ?_ ?_ _); rotate_left; (first | omega | (simp <;> omega)))))) hcap hcam hn HL.out HSY.out).mono ?_; rintro e wx ⟨rfl, hW⟩; rw [← hW]; clear hW wx) | (go_at_call 122; refine (plus_any _ _ _ HVI3.out HC0.out).mono ?_; rintro e wx ⟨rfl, hW⟩; rw [← hW]; clear hW wx))
                    all_goals
                      go_wp2_with fail
                      go_meet
                      exact ⟨by rw [hval.out], hTt.below (by repeat (first | with_reducible exact HE | with_reducible apply bdrew | with_reducible apply bdrewN | with_reducible apply balloc | ((with_reducible refine bset ?_ ?_ _); rotate_left; (first | omega | (simp <;> omega))))), hWt.trans (Wr.of (by repeat (first | with_reducible exact HE | with_reducible apply bdrew | with_reducible apply bdrewN | with_reducible apply balloc | ((with_reducible refine bset ?_ ?_ _); rotate_left; (first | omega | (simp <;> omega)))))), (Cls.below (w := w4) (by repeat (first | with_reducible exact HE | with_reducible apply bdrew | with_reducible apply bdrewN | with_reducible apply balloc | ((with_reducible refine bset ?_ ?_ _); rotate_left; (first | omega | (simp <;> omega))))) hCt)⟩
                  case rest =>
                    obtain ⟨w6, rfl⟩ : ∃ wo : World, wo = wc := ⟨_, rfl⟩
                    obtain ⟨rfl, hT6, hW6, hC6⟩ := hcut
                    cases hdd : decide (val < Ve p (q : Int))
                    all_goals
                      have HDD := Lib.hid hdd
                      rw [hdd] at HN
                      clear hdd
                      go_wp2_with fail
                      refine (pset_any _ g n bs Ve (hT6.below (by repeat (first | with_reducible exact Below.refl _ _ | with_reducible apply bdrew | with_reducible apply bdrewN | with_reducible apply balloc | ((with_reducible refine bset ?_ ?_ _); rotate_left; (first | omega | (simp <;> omega)))))) hn p (q : Int) val ⟨p0, p1⟩ HQR.out _ HDD.out).mono ?_
                      rintro e w7 ⟨rfl, hT7, hW7⟩
                      have hC7 := Cls.wr hW7 hKb (l := [(w.heap.size, 0, .slice A0 o.pre.length c0), (w.heap.size, 1, .slice (some ad) o.add.length c1), (w.heap.size, 2, .slice A2 o.del.length c2), (w.heap.size, 3, .int .i64 o.cost)]) (Cls.below (w := w6) (by repeat (first | with_reducible exact Below.refl _ _ | with_reducible apply bdrew | with_reducible apply bdrewN | with_reducible apply balloc | ((with_reducible refine bset ?_ ?_ _); rotate_left; (first | omega | (simp <;> omega))))) hC6) (by simp)
                      have hW7' := (hW6.trans (Wr.of (by repeat (first | with_reducible exact Below.refl _ _ | with_reducible apply bdrew | with_reducible apply bdrewN | with_reducible apply balloc | ((with_reducible refine bset ?_ ?_ _); rotate_left; (first | omega | (simp <;> omega))))))).trans hW7
                      go_wp2
                      go_roundw
                      case rel => exact ⟨q + 1, _, _, by omega, by go_num, rfl, hT7.below (by repeat (first | with_reducible exact Below.refl _ _ | with_reducible apply bdrew | with_reducible apply bdrewN | with_reducible apply balloc | ((with_reducible refine bset ?_ ?_ _); rotate_left; (first | omega | (simp <;> omega))))), hW7'.trans (Wr.of (by repeat (first | with_reducible exact Below.refl _ _ | with_reducible apply bdrew | with_reducible apply bdrewN | with_reducible apply balloc | ((with_reducible refine bset ?_ ?_ _); rotate_left; (first | omega | (simp <;> omega)))))), (Cls.below (w := w7) (by repeat (first | with_reducible exact Below.refl _ _ | with_reducible apply bdrew | with_reducible apply bdrewN | with_reducible apply balloc | ((with_reducible refine bset ?_ ?_ _); rotate_left; (first | omega | (simp <;> omega))))) hC7), HN⟩
                      case measure => simp [intOf]; omega
            · have HN : Hid (Use n st ops V Ve be (∀ p ∈ o.add.take (k + 1), DoneQ n V o p)) := Lib.hid (hU3.out.imp fun _ h => take_next hp.out h.1 ⟨fun q hq => by rw [hcst.out]; exact h.2.1 q hq, fun i hi h1 h2 => by
                have h3 := h.2.2 i.toNat (by have := hi.1; have := hi.2; omega)
                have e : ((i.toNat : Nat) : Int) = i := by have := hi.1; omega
                rw [e] at h3
                exact h3 h1 h2⟩)
              go_wp2
              go_roundw
              case rel => exact ⟨k + 1, _, _, by omega, by go_num, rfl, hTt.below (by repeat (first | with_reducible exact Below.refl _ _ | with_reducible apply bdrew | with_reducible apply bdrewN | with_reducible apply balloc | ((with_reducible refine bset ?_ ?_ _); rotate_left; (first | omega | (simp <;> omega))))), hWt.trans (Wr.of (by repeat (first | with_reducible exact Below.refl _ _ | with_reducible apply bdrew | with_reducible apply bdrewN | with_reducible apply balloc | ((with_reducible refine bset ?_ ?_ _); rotate_left; (first | omega | (simp <;> omega)))))), (Cls.below (w := w4) (by repeat (first | with_reducible exact Below.refl _ _ | with_reducible apply bdrew | with_reducible apply bdrewN | with_reducible apply balloc | ((with_reducible refine bset ?_ ?_ _); rotate_left; (first | omega | (simp <;> omega))))) hCt), HN⟩
              case measure => simp [intOf]; omega
    · have HF := Lib.hid (show Use n st ops V Vc bc (OpClosed n V o) from hU.out.imp fun _ h => done_closed HV.out (take_all_add hlt h))
      go_wp2
      go_ret
      exact ⟨_, _, rfl, hTr, hWr, HF.out⟩


end Go.Proofs.Ytihkgdlanfemcaa
