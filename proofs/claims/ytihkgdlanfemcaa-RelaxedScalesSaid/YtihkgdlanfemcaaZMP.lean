/-
  Tables of values: as functions, in memory, and what lowering a value does.
  pairs: the greatest value of a set, lowering a value: what they return.
  strips.Union, Contains of one element; pairs: use: what they return.
-/
import Derived.Test.YtihkgdlanfemcaaZMA
import Derived.Test.YtihkgdlanfemcaaZML
import Derived.Test.YtihkgdlanfemcaaZMD
import Derived.Test.YtihkgdlanfemcaaZMJ
import Derived.Test.YtihkgdlanfemcaaZSt3
namespace Go.Proofs.Ytihkgdlanfemcaa
open Go.RowKit
set_option linter.unusedVariables false
set_option linter.unusedSimpArgs false

def rowV (n : Nat) (f : Int → Int) : List Int := (List.range n).map fun (q : Nat) => f (q : Int)
theorem rowV_len (n : Nat) (f : Int → Int) : (rowV n f).length = n := by simp [rowV]
theorem rowV_get {n q : Nat} {f : Int → Int} (h : q < n) : (rowV n f)[q]? = some (f (q : Int)) := by simp [rowV, h]
theorem rowV_ext {n : Nat} {f g : Int → Int} (h : ∀ q : Nat, q < n → f (q : Int) = g (q : Int)) : rowV n f = rowV n g := by
  unfold rowV
  refine List.map_congr_left fun q hq => h q (List.mem_range.1 hq)
/-- One value is replaced. -/
def put1 (V : Int → Int → Int) (p q x : Int) : Int → Int → Int := fun p' q' => if p' = p ∧ q' = q then x else V p' q'
theorem rowV_set {n p q : Nat} {V : Int → Int → Int} {x : Int} : (rowV n (V (p : Int))).set q x = rowV n (put1 V p q x p) := by
  apply List.ext_getElem?
  intro i
  rw [List.getElem?_set, rowV_len]
  by_cases hi : i < n
  · rw [rowV_get hi, rowV_get hi]
    by_cases e : q = i
    · subst e; rw [if_pos rfl, if_pos hi]; unfold put1; rw [if_pos ⟨rfl, rfl⟩]
    · rw [if_neg e]; unfold put1; rw [if_neg (by omega)]
  · rw [List.getElem?_eq_none (l := rowV n (V (p : Int))) (by rw [rowV_len]; omega), List.getElem?_eq_none (l := rowV n _) (by rw [rowV_len]; omega)]
    split <;> simp <;> omega
theorem rowV_far {n p p' q : Nat} {V : Int → Int → Int} {x : Int} (h : p' ≠ p) : rowV n (put1 V p q x (p' : Int)) = rowV n (V (p' : Int)) := by
  refine rowV_ext fun i _ => ?_
  unfold put1
  rw [if_neg (by omega)]
/-- A value and its mirror image are replaced. -/
def updT (V : Int → Int → Int) (p q x : Int) : Int → Int → Int := fun p' q' => if (p' = p ∧ q' = q) ∨ (p' = q ∧ q' = p) then x else V p' q'
/-- .. if that is less. -/
def setT (V : Int → Int → Int) (p q x : Int) : Int → Int → Int := if x < V p q then updT V p q x else V
theorem setT_no {V : Int → Int → Int} {p q x : Int} (h : ¬ x < V p q) : setT V p q x = V := if_neg h
theorem setT_yes {V : Int → Int → Int} {p q x : Int} (h : x < V p q) : setT V p q x = updT V p q x := if_pos h

/-! ### In memory -/
/-- Block g holds a table: n rows of n values, each in a block of its own. -/
structure Tbl (w : World) (g : Nat) (bs : List Nat) (n : Nat) (V : Int → Int → Int) : Prop where
  arr : Arr w g 22 (bs.map fun b => Value.slice (some ⟨b, 0, none⟩) n n)
  len : bs.length = n
  rows : ∀ (p b : Nat), bs[p]? = some b → IArr w b (rowV n (V (p : Int)))
  diff : ∀ b ∈ bs, b ≠ g
  nodup : bs.Nodup
section
variable {w w' : World} {g n : Nat} {bs : List Nat} {V : Int → Int → Int}
theorem Tbl.lt (h : Tbl w g bs n V) : g < w.heap.size ∧ ∀ b ∈ bs, b < w.heap.size := ⟨h.arr.lt, fun b hb => by
  obtain ⟨i, hi, rfl⟩ := List.getElem_of_mem hb
  exact Arr.lt (h.rows i _ (List.getElem?_eq_getElem hi))⟩
theorem Tbl.same (h : Tbl w g bs n V) (hg : w'.heap[g]? = w.heap[g]?) (hb : ∀ b ∈ bs, w'.heap[b]? = w.heap[b]?) : Tbl w' g bs n V :=
  ⟨hg.trans h.arr, h.len, fun p b hp => (hb b (List.mem_of_getElem? hp)).trans (h.rows p b hp), h.diff, h.nodup⟩
theorem Tbl.below (h : Tbl w g bs n V) (hb : Below w.heap.size w w') : Tbl w' g bs n V := h.same (hb.block g h.lt.1) (fun b hm => hb.block b (h.lt.2 b hm))
theorem Tbl.at_ (h : Tbl w g bs n V) {p q : Int} (hp : 0 ≤ p ∧ p < (n : Int)) (hq : 0 ≤ q ∧ q < (n : Int)) :
    ∃ b, Hid (bs[p.toNat]? = some b) ∧ w.cell? ⟨g, p.toNat, none⟩ = some (.slice (some ⟨b, 0, none⟩) n n) ∧ w.cell? ⟨b, q.toNat, none⟩ = some (.int .i64 (V p q)) ∧ w.frozen? ⟨b, q.toNat, none⟩ = false := by
  have hpl : p.toNat < bs.length := by rw [h.len]; omega
  refine ⟨bs[p.toNat], Lib.hid (List.getElem?_eq_getElem hpl), ?_, ?_, Arr.free (h.rows _ _ (List.getElem?_eq_getElem hpl)) _⟩
  · rw [h.arr.cell]; simp [hpl]
  · have hr := h.rows _ _ (List.getElem?_eq_getElem hpl)
    have e : ((p.toNat : Nat) : Int) = p := by omega
    rw [e] at hr
    rw [Arr.cell hr, List.getElem?_map, rowV_get (by omega)]
    have e2 : ((q.toNat : Nat) : Int) = q := by omega
    rw [e2]; rfl
theorem Tbl.store (h : Tbl w g bs n V) {p q : Int} {b : Nat} (hp : 0 ≤ p) (hq : 0 ≤ q) (hb : bs[p.toNat]? = some b) (x : Int) : Tbl (w.setCell ⟨b, q.toNat, none⟩ (.int .i64 x)) g bs n (put1 V p q x) := by
  have hm := List.mem_of_getElem? hb
  refine ⟨h.arr.far (h.diff b hm) _, h.len, fun i c hc => ?_, h.diff, h.nodup⟩
  by_cases e : i = p.toNat
  · subst e
    rw [hb] at hc
    injection hc with hc
    subst hc
    have h1 := (h.rows _ _ hb).set_ q.toNat x
    rw [rowV_set] at h1
    have e1 : ((p.toNat : Nat) : Int) = p := by omega
    have e2 : ((q.toNat : Nat) : Int) = q := by omega
    rw [e1, e2] at h1
    rw [e1]; exact h1
  · have hne : b ≠ c := fun hh => by
      subst hh
      obtain ⟨h1, h2⟩ := List.getElem?_eq_some_iff.1 hb
      obtain ⟨h3, h4⟩ := List.getElem?_eq_some_iff.1 hc
      exact e ((List.getElem_inj h.nodup).1 (h4.trans h2.symm))
    have h1 := (h.rows i c hc).far (p := ⟨b, q.toNat, none⟩) hne (.int .i64 x)
    have e1 : ((p.toNat : Nat) : Int) = p := by omega
    have e2 : ((q.toNat : Nat) : Int) = q := by omega
    have h2 := rowV_far (n := n) (q := q.toNat) (V := V) (x := x) e
    rw [e1, e2] at h2
    rw [h2]; exact h1
end
/-- Only the rows were written. -/
structure Wr (bs : List Nat) (w w' : World) : Prop where
  os : w'.os = w.os
  tape : w'.tape = w.tape
  output : w'.output = w.output
  size : w.heap.size ≤ w'.heap.size
  block : ∀ k, k < w.heap.size → k ∉ bs → w'.heap[k]? = w.heap[k]?
section
variable {bs : List Nat} {a w w' : World}
theorem Wr.refl (bs : List Nat) (w : World) : Wr bs w w := ⟨rfl, rfl, rfl, Nat.le_refl _, fun _ _ _ => rfl⟩
theorem Wr.of (h : Below w.heap.size w w') : Wr bs w w' := ⟨h.os, h.tape, h.output, h.size, fun k hk _ => h.block k hk⟩
theorem Wr.trans (h : Wr bs a w) (k : Wr bs w w') : Wr bs a w' := ⟨k.os.trans h.os, k.tape.trans h.tape, k.output.trans h.output, Nat.le_trans h.size k.size, fun i hi hn => (k.block i (Nat.lt_of_lt_of_le hi h.size) hn).trans (h.block i hi hn)⟩
theorem Wr.below {B : Nat} (h : Wr bs w w') (hB : B ≤ w.heap.size) (hb : ∀ b ∈ bs, B ≤ b) : Below B w w' := ⟨h.os, h.tape, h.output, h.size, fun k hk => h.block k (by omega) (fun hm => by have := hb k hm; omega)⟩
theorem Wr.set_ (h : Wr bs a w) {p : Addr} (hp : p.block ∈ bs) (u : Value) : Wr bs a (w.setCell p u) :=
  h.trans ⟨rfl, rfl, rfl, by simp [World.setCell], fun k hk hn => Below.heap_setCell _ _ _ _ (fun e => hn (by rw [e]; exact hp))⟩
theorem Cls.wr {l : List (Nat × Nat × Value)} {K : Nat} (hW : Wr bs w w') (hK : ∀ b ∈ bs, b < K) (hC : Cls w l) (hl : ∀ x ∈ l, K ≤ x.1) : Cls w' l := by
  induction l with
  | nil => trivial
  | cons x r ih =>
    obtain ⟨b, k, v⟩ := x
    obtain ⟨⟨h1, h2⟩, h3⟩ := hC
    have hlt := World.block_lt_of_cell? w ⟨b, k, none⟩ h1
    have hne : w'.heap[b]? = w.heap[b]? := hW.block b hlt (fun e => by
      have h4 := hK b e
      have h5 : K ≤ b := hl (b, k, v) (by simp)
      omega)
    exact ⟨⟨(World.cell?_of_block (w := w) hne).trans h1, (World.frozen?_of_block (w := w) hne).trans h2⟩, ih h3 (fun x hx => hl x (by simp [hx]))⟩
end

/-! ### The greatest value of a set's pairs, pair by pair -/
def Cov (V : Int → Int → Int) (l : List Int) (k j : Nat) (o : Int) : Prop :=
  0 ≤ o ∧ (∀ (a b : Nat) (p q : Int), (a < k ∧ b ≤ a ∨ a = k ∧ b < j) → l[a]? = some p → l[b]? = some q → V p q ≤ o) ∧
    ∀ z, 0 ≤ z → (∀ (a b : Nat) (p q : Int), (a < k ∧ b ≤ a ∨ a = k ∧ b < j) → l[a]? = some p → l[b]? = some q → V p q ≤ z) → o ≤ z
theorem Cov.start (V : Int → Int → Int) (l : List Int) : Cov V l 0 0 0 := ⟨Int.le_refl _, fun a b p q h => by omega, fun z hz _ => hz⟩
theorem Cov.step {V : Int → Int → Int} {l : List Int} {k j : Nat} {o p q m : Int} (h : Cov V l k j o) (hp : l[k]? = some p) (hq : l[j]? = some q) (hm : m = if o < V p q then V p q else o) : Cov V l k (j + 1) m := by
  obtain ⟨h0, h1, h2⟩ := h
  have hm1 : o ≤ m ∧ V p q ≤ m ∧ (m = o ∨ m = V p q) := by
    rw [hm]; split <;> omega
  refine ⟨by omega, fun a b p' q' hab ha hb => ?_, fun z hz hall => ?_⟩
  · by_cases e : a = k ∧ b = j
    · obtain ⟨rfl, rfl⟩ := e
      rw [hp] at ha; rw [hq] at hb
      injection ha with ha; injection hb with hb
      subst ha; subst hb
      omega
    · have := h1 a b p' q' (by omega) ha hb
      omega
  · have h3 := h2 z hz (fun a b p' q' hab ha hb => hall a b p' q' (by omega) ha hb)
    have h4 := hall k j p q (by omega) hp hq
    omega
theorem Cov.row {V : Int → Int → Int} {l : List Int} {k : Nat} {o : Int} (h : Cov V l k (k + 1) o) : Cov V l (k + 1) 0 o :=
  ⟨h.1, fun a b p q hab => h.2.1 a b p q (by omega), fun z hz hall => h.2.2 z hz fun a b p q hab => hall a b p q (by omega)⟩
theorem Cov.end_ {V : Int → Int → Int} {l : List Int} {k : Nat} {o : Int} (h : Cov V l k 0 o) (hk : l.length ≤ k) (hs : ∀ p ∈ l, ∀ q ∈ l, V p q = V q p) : o = valP V l := by
  refine Int.le_antisymm (h.2.2 _ valP_nn fun a b p q _ ha hb => valP_ge (List.mem_of_getElem? ha) (List.mem_of_getElem? hb)) (valP_le h.1 fun p hp q hq => ?_)
  obtain ⟨a, ha⟩ := List.mem_iff_getElem?.1 hp
  obtain ⟨b, hb⟩ := List.mem_iff_getElem?.1 hq
  have hal := (List.getElem?_eq_some_iff.1 ha).1
  have hbl := (List.getElem?_eq_some_iff.1 hb).1
  rcases Nat.lt_or_ge a b with h1 | h1
  · rw [hs p hp q hq]
    exact h.2.1 b a q p (by omega) hb ha
  · exact h.2.1 a b p q (by omega) ha hb

/-! ### Lowering values -/
def sumN (l : List Nat) (f : Nat → Nat) : Nat := (l.map f).sum
theorem sumN_le {f g : Nat → Nat} : ∀ {l : List Nat}, (∀ x ∈ l, f x ≤ g x) → sumN l f ≤ sumN l g
  | [], _ => Nat.le_refl _
  | x :: l, h => by
    have h1 := sumN_le (l := l) (f := f) (g := g) (fun y hy => h y (List.mem_cons_of_mem _ hy))
    have h2 := h x (List.mem_cons_self ..)
    simp only [sumN, List.map_cons, List.sum_cons] at *
    omega
theorem sumN_lt {f g : Nat → Nat} : ∀ {l : List Nat}, (∀ x ∈ l, f x ≤ g x) → (∃ x ∈ l, f x < g x) → sumN l f < sumN l g
  | [], _, h => by obtain ⟨x, hx, _⟩ := h; cases hx
  | x :: l, h, hx => by
    obtain ⟨y, hy, hlt⟩ := hx
    have h2 := h x (List.mem_cons_self ..)
    have h3 := sumN_le (l := l) (f := f) (g := g) (fun y hy => h y (List.mem_cons_of_mem _ hy))
    rcases List.mem_cons.1 hy with e | e
    · subst e
      simp only [sumN, List.map_cons, List.sum_cons] at *
      omega
    · have h1 := sumN_lt (l := l) (f := f) (g := g) (fun y hy => h y (List.mem_cons_of_mem _ hy)) ⟨y, e, hlt⟩
      simp only [sumN, List.map_cons, List.sum_cons] at *
      omega
def sumT (n : Nat) (V : Int → Int → Int) : Nat := sumN (List.range n) fun p => sumN (List.range n) fun q => (V (p : Int) (q : Int)).toNat
theorem sumT_lt {n : Nat} {U V : Int → Int → Int} (h : ∀ p q, Rng n p → Rng n q → U p q ≤ V p q) {p q : Int} (hp : Rng n p) (hq : Rng n q) (h0 : 0 ≤ U p q) (hlt : U p q < V p q) : sumT n U < sumT n V := by
  unfold Rng at *
  have hr : ∀ x ∈ List.range n, (0 : Int) ≤ (x : Int) ∧ (x : Int) < (n : Int) := fun x hx => by have := List.mem_range.1 hx; omega
  refine sumN_lt (fun a ha => sumN_le fun b hb => ?_) ⟨p.toNat, List.mem_range.2 (by omega), sumN_lt (fun b hb => ?_) ⟨q.toNat, List.mem_range.2 (by omega), ?_⟩⟩
  · have := h a b (hr a ha) (hr b hb); omega
  · have e : ((p.toNat : Nat) : Int) = p := by omega
    rw [e]
    have := h p b hp (hr b hb); omega
  · have e : ((p.toNat : Nat) : Int) = p := by omega
    have e2 : ((q.toNat : Nat) : Int) = q := by omega
    rw [e, e2]; omega
/-- The values are at least those that no operator can lower. -/
structure PAb (n : Nat) (st : List Int) (ops : List OpV) (V : Int → Int → Int) : Prop where
  all : ∀ p q, Rng n p → Rng n q → InV (V p q)
  zero : ∀ p ∈ st, ∀ q ∈ st, V p q = 0
  sym : ∀ p q, Rng n p → Rng n q → V p q = V q p
  great : ∀ U, PFix n st ops U → ∀ p q, Rng n p → Rng n q → U p q ≤ V p q
section
variable {n : Nat} {st : List Int} {ops : List OpV} {V : Int → Int → Int}
theorem pfix_symm {U : Int → Int → Int} (h : PFix n st ops U) : PFix n st ops (fun p q => U q p) := by
  refine ⟨fun p q hp hq => h.all q p hq hp, fun p hp q hq => h.zero q hq p hp, fun o ho p q l hp hq ha => ?_⟩
  have h1 := h.closed o ho q p l hq hp ha.symm
  have h2 : valP (fun p q => U q p) l = valP U l := Int.le_antisymm (valP_le valP_nn fun p hp q hq => valP_ge hq hp) (valP_le valP_nn fun p hp q hq => valP_ge (V := fun p q => U q p) hq hp)
  show U q p ≤ _
  rw [h2]; exact h1
theorem PAb.set_ (h : PAb n st ops V) {p q x : Int} (hp : Rng n p) (hq : Rng n q) (hx : InV x) (hb : ∀ U, PFix n st ops U → U p q ≤ x) : PAb n st ops (setT V p q x) := by
  by_cases hlt : x < V p q
  · rw [setT_yes hlt]
    refine ⟨fun a b ha hb => ?_, fun a ha b hbb => ?_, fun a b ha hb => ?_, fun U hU a b ha hb2 => ?_⟩
    · unfold updT; split
      · exact hx
      · exact h.all a b ha hb
    · unfold updT
      rw [if_neg]
      · exact h.zero a ha b hbb
      · have hx0 : 0 ≤ x := hx.1
        rintro (⟨rfl, rfl⟩ | ⟨rfl, rfl⟩)
        · have := h.zero a ha b hbb; omega
        · have := h.zero b hbb a ha; omega
    · unfold updT
      by_cases e : (a = p ∧ b = q) ∨ (a = q ∧ b = p)
      · rw [if_pos e, if_pos (by rcases e with e | e; exact .inr ⟨e.2, e.1⟩; exact .inl ⟨e.2, e.1⟩)]
      · rw [if_neg e, if_neg (by rintro (k | k); exact e (.inr ⟨k.2, k.1⟩); exact e (.inl ⟨k.2, k.1⟩))]
        exact h.sym a b ha hb
    · unfold updT
      split
      · rename_i e
        rcases e with ⟨rfl, rfl⟩ | ⟨rfl, rfl⟩
        · exact hb U hU
        · exact hb _ (pfix_symm hU)
      · exact h.great U hU a b ha hb2
  · rw [setT_no hlt]; exact h
theorem PAb.set_lt (h : PAb n st ops V) {p q x : Int} (hp : Rng n p) (hq : Rng n q) (hx : InV x) (hlt : x < V p q) : sumT n (setT V p q x) < sumT n V := by
  rw [setT_yes hlt]
  have hs := h.sym p q hp hq
  refine sumT_lt (p := p) (q := q) (fun a b ha hb => ?_) hp hq ?_ ?_
  · unfold updT; split
    · rename_i e
      rcases e with ⟨rfl, rfl⟩ | ⟨rfl, rfl⟩ <;> omega
    · exact Int.le_refl _
  · unfold updT; rw [if_pos (.inl ⟨rfl, rfl⟩)]; exact hx.1
  · unfold updT; rw [if_pos (.inl ⟨rfl, rfl⟩)]; exact hlt
/-- While an operator is applied: V0 the values at its start, b whether some value was changed, P what is known if none was. -/
structure Use (n : Nat) (st : List Int) (ops : List OpV) (V0 V : Int → Int → Int) (b : Bool) (P : Prop) : Prop where
  ab : PAb n st ops V
  down : b = true → sumT n V < sumT n V0
  keep : b = false → V = V0 ∧ P
theorem Use.set_ {V0 : Int → Int → Int} {b : Bool} {P P' : Prop} (h : Use n st ops V0 V b P) {p q x : Int} (hp : Rng n p) (hq : Rng n q) (hx : InV x) (hb : ∀ U, PFix n st ops U → U p q ≤ x) (hP : V = V0 → P → V0 p q ≤ x → P') :
    Use n st ops V0 (setT V p q x) (decide (x < V p q) || b) P' := by
  refine ⟨h.ab.set_ hp hq hx hb, fun hc => ?_, fun hc => ?_⟩
  · by_cases hlt : x < V p q
    · have h1 := h.ab.set_lt hp hq hx hlt
      cases b with
      | true => have := h.down rfl; omega
      | false => rw [(h.keep rfl).1] at h1 ⊢; exact h1
    · rw [setT_no hlt]
      refine h.down ?_
      simpa [hlt] using hc
  · simp only [Bool.or_eq_false_iff, decide_eq_false_iff_not] at hc
    obtain ⟨h1, h2⟩ := h.keep hc.2
    rw [setT_no hc.1]
    exact ⟨h1, hP h1 h2 (by rw [← h1]; omega)⟩
theorem Use.imp {V0 : Int → Int → Int} {b : Bool} {P P' : Prop} (h : Use n st ops V0 V b P) (hP : V = V0 → P → P') : Use n st ops V0 V b P' := ⟨h.ab, h.down, fun hb => ⟨(h.keep hb).1, hP (h.keep hb).1 (h.keep hb).2⟩⟩
end

end Go.Proofs.Ytihkgdlanfemcaa

namespace Go.Proofs.Ytihkgdlanfemcaa
open Go.RowKit
set_option linter.unusedVariables false
set_option linter.unusedSimpArgs false
theorem Wr.drew {bs : List Nat} {a w : World} (h : Wr bs a w) : Wr bs a w.drew := ⟨h.os, h.tape, h.output, h.size, h.block⟩
theorem Tbl.drew {w : World} {g n : Nat} {bs : List Nat} {V : Int → Int → Int} (h : Tbl w g bs n V) : Tbl w.drew g bs n V := ⟨h.arr, h.len, h.rows, h.diff, h.nodup⟩
end Go.Proofs.Ytihkgdlanfemcaa

namespace Go.Proofs.Ytihkgdlanfemcaa
open Go.RowKit
set_option linter.unusedVariables false
set_option linter.unusedSimpArgs false
section
variable {n : Nat} {st : List Int} {ops : List OpV} {V U : Int → Int → Int} {o : OpV} {p q : Int}
end
end Go.Proofs.Ytihkgdlanfemcaa
