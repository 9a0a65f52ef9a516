/-
  Lists of integers that stand for sets: plain facts, no program in sight.
  Functions on lists of integers: Has, Ints, Subset, Disjoint, In, At, both IsSet, slices.Index and Contains: what they return.
  Both IsSet: whether a list is strictly increasing within bounds.
  slices.BinarySearch in a strictly increasing list; slices.Index, Contains, IndexFunc, ContainsFunc; strips.Meets.
  strips.Meets; slices.Index and Contains; relaxed.All: what they return.
  slices.Contains leaves the world as it is.
-/
import Init
import Derived.Test.YtkepfmglljkjhaaMA
namespace Go.Proofs.Ytkepfmglljkjhaa

theorem mem_take_succ {xs : List Int} {n x : Int} {k : Nat} (hx : xs[k]? = some x) (h : n ∉ xs.take k) (hn : ¬ x = n) : n ∉ xs.take (k + 1) := by
  rw [List.take_add_one, hx]
  simp
  exact ⟨h, fun e => hn e.symm⟩
theorem forall_take_succ {α : Type} {P : α → Prop} {xs : List α} {x : α} {k : Nat} (hx : xs[k]? = some x) (h : ∀ y ∈ xs.take k, P y) (hn : P x) : ∀ y ∈ xs.take (k + 1), P y := by
  intro y hy
  rw [List.take_add_one, hx] at hy
  simp at hy
  rcases hy with hy | rfl
  · exact h y hy
  · exact hn
theorem forall_take_all {α : Type} {P : α → Prop} {xs : List α} {k : Nat} (hk : ¬ k < xs.length) (h : ∀ y ∈ xs.take k, P y) : ∀ y ∈ xs, P y := by
  rw [List.take_of_length_le (by omega)] at h; exact h
theorem get_lt {α : Type} {xs : List α} {x : α} {k : Nat} (hx : xs[k]? = some x) : k < xs.length := (List.getElem?_eq_some_iff.1 hx).1

/-- A strictly increasing list of numbers from 0 to n - 1. -/
def SetP (l : List Int) (n : Int) : Prop := (∀ x ∈ l, 0 ≤ x ∧ x < n) ∧ ∀ i : Nat, ∀ x y : Int, l[i]? = some x → l[i + 1]? = some y → x < y
noncomputable def setB (l : List Int) (n : Int) : Bool := @decide (SetP l n) (Classical.propDecidable _)
theorem setB_true {l : List Int} {n : Int} : setB l n = true ↔ SetP l n := by unfold setB; exact @decide_eq_true_iff _ (Classical.propDecidable _)
theorem setB_false {l : List Int} {n : Int} : setB l n = false ↔ ¬ SetP l n := by unfold setB; exact @decide_eq_false_iff_not _ (Classical.propDecidable _)

theorem SetP.lt {l : List Int} {n : Int} (h : SetP l n) : ∀ (d i : Nat) (x y : Int), l[i]? = some x → l[i + 1 + d]? = some y → x < y := by
  intro d
  induction d with
  | zero => intro i x y hx hy; exact h.2 i x y hx hy
  | succ d ih =>
    intro i x y hx hy
    have hl := get_lt hy
    obtain ⟨z, hz⟩ : ∃ z, l[i + 1 + d]? = some z := ⟨_, List.getElem?_eq_getElem (by omega)⟩
    exact Int.lt_trans (ih i x z hx hz) (h.2 _ z y hz hy)
theorem SetP.mono {l : List Int} {n : Int} (h : SetP l n) {i j : Nat} {x y : Int} (hij : i < j) (hx : l[i]? = some x) (hy : l[j]? = some y) : x < y :=
  h.lt (j - i - 1) i x y hx (by rw [show i + 1 + (j - i - 1) = j by omega]; exact hy)
theorem SetP.inj {l : List Int} {n : Int} (h : SetP l n) {i j : Nat} {x : Int} (hx : l[i]? = some x) (hy : l[j]? = some x) : i = j := by
  rcases Nat.lt_trichotomy i j with e | e | e
  · exact absurd (h.mono e hx hy) (by omega)
  · exact e
  · exact absurd (h.mono e hy hx) (by omega)
theorem SetP.nil (n : Int) : SetP [] n := ⟨by simp, by simp⟩
theorem SetP.ge {l : List Int} {n : Int} (h : SetP l n) : ∀ (i : Nat) (x : Int), l[i]? = some x → (i : Int) ≤ x := by
  intro i
  induction i with
  | zero => intro x hx; exact (h.1 x (List.mem_of_getElem? hx)).1
  | succ i ih =>
    intro x hx
    have hl := get_lt hx
    obtain ⟨z, hz⟩ : ∃ z, l[i]? = some z := ⟨_, List.getElem?_eq_getElem (by omega)⟩
    have := ih z hz
    have := h.2 i z x hz hx
    omega
/-- A set of numbers below n has at most n elements. -/
theorem SetP.length {l : List Int} {n : Int} (h : SetP l n) (hn : 0 ≤ n) : (l.length : Int) ≤ n := by
  rcases Nat.eq_zero_or_pos l.length with e | e
  · omega
  · obtain ⟨z, hz⟩ : ∃ z, l[l.length - 1]? = some z := ⟨_, List.getElem?_eq_getElem (by omega)⟩
    have h1 := h.ge _ _ hz
    have h2 := (h.1 z (List.mem_of_getElem? hz)).2
    omega
/-- Two sets with the same elements are one list. -/
theorem SetP.ext {a b : List Int} {n m : Int} (ha : SetP a n) (hb : SetP b m) (h : ∀ x, x ∈ a ↔ x ∈ b) : a = b := by
  have pa : a.Pairwise (· < ·) := by
    rw [List.pairwise_iff_getElem]
    intro i j hi hj hij
    exact ha.mono hij (List.getElem?_eq_getElem hi) (List.getElem?_eq_getElem hj)
  have pb : b.Pairwise (· < ·) := by
    rw [List.pairwise_iff_getElem]
    intro i j hi hj hij
    exact hb.mono hij (List.getElem?_eq_getElem hi) (List.getElem?_eq_getElem hj)
  have na : a.Nodup := pa.imp (fun h => Int.ne_of_lt h)
  have nb : b.Nodup := pb.imp (fun h => Int.ne_of_lt h)
  have hp : a.Perm b := (List.perm_ext_iff_of_nodup na nb).2 h
  exact hp.eq_of_pairwise (fun x y _ _ h1 h2 => by omega) pa pb
theorem SetP.pairwise {a : List Int} {n : Int} (ha : SetP a n) : a.Pairwise (· < ·) := by
  rw [List.pairwise_iff_getElem]
  intro i j hi hj hij
  exact ha.mono hij (List.getElem?_eq_getElem hi) (List.getElem?_eq_getElem hj)
theorem SetP.of_pairwise {a : List Int} {n : Int} (h1 : ∀ x ∈ a, 0 ≤ x ∧ x < n) (h2 : a.Pairwise (· < ·)) : SetP a n := by
  refine ⟨h1, fun i x y hx hy => ?_⟩
  obtain ⟨hi, rfl⟩ := List.getElem?_eq_some_iff.1 hx
  obtain ⟨hj, rfl⟩ := List.getElem?_eq_some_iff.1 hy
  exact List.pairwise_iff_getElem.1 h2 i (i + 1) hi hj (by omega)

theorem setP_take_succ {xs : List Int} {n x : Int} {k : Nat} (hx : xs[k]? = some x) (h : SetP (xs.take k) n) (h0 : 0 ≤ x) (hn : x < n) (hp : 0 < k → ∀ y, xs[k - 1]? = some y → y < x) : SetP (xs.take (k + 1)) n := by
  refine ⟨forall_take_succ hx h.1 ⟨h0, hn⟩, fun i a b ha hb => ?_⟩
  have hl := get_lt hb
  rw [List.length_take] at hl
  rw [List.getElem?_take_of_lt (by omega)] at ha hb
  by_cases e : i + 1 = k
  · subst e
    rw [hx] at hb
    injection hb with hb
    subst hb
    exact hp (by omega) a (by simpa using ha)
  · exact h.2 i a b (by rw [List.getElem?_take_of_lt (by omega)]; exact ha) (by rw [List.getElem?_take_of_lt (by omega)]; exact hb)
theorem not_setP_lo {xs : List Int} {n x : Int} {k : Nat} (hx : xs[k]? = some x) (h : x < 0 ∨ n ≤ x) : ¬ SetP xs n := fun hs => by
  have := hs.1 x (List.mem_of_getElem? hx)
  omega
theorem not_setP_step {xs : List Int} {n x y : Int} {k : Nat} (hk : 0 < k) (hy : xs[k - 1]? = some y) (hx : xs[k]? = some x) (h : x ≤ y) : ¬ SetP xs n := fun hs => by
  have := hs.2 (k - 1) y x hy (by rw [show k - 1 + 1 = k by omega]; exact hx)
  omega
theorem setP_all {xs : List Int} {n : Int} {k : Nat} (hk : ¬ k < xs.length) (h : SetP (xs.take k) n) : SetP xs n := by
  rw [List.take_of_length_le (by omega)] at h; exact h

end Go.Proofs.Ytkepfmglljkjhaa

namespace Go.Proofs.Ytkepfmglljkjhaa
open Go.RowKit
/-- Two lists are equal as far as their first k elements. -/
theorem take_eq_succ {xs ys : List Int} {k : Nat} {x : Int} (hx : xs[k]? = some x) (hy : ys[k]? = some x) (h : xs.take k = ys.take k) : xs.take (k + 1) = ys.take (k + 1) := by
  rw [List.take_add_one, List.take_add_one, hx, hy, h]

theorem in_any (n a b : Int) (w : World) :
    Calls Try.prog 12 #[.int .i64 n, .int .i64 a, .int .i64 b] w fun e w' => e = .returned (.bool (decide (a ≤ n ∧ n ≤ b))) ∧ w = w' := by
  by_cases h1 : a ≤ n
  · by_cases h2 : n ≤ b
    all_goals
      go_enter Try.func12, Try.ntmps12
      go_wp2
      go_ret
      exact ⟨by simp <;> omega, rfl⟩
  · go_enter Try.func12, Try.ntmps12
    go_wp2
    go_ret
    exact ⟨by simp <;> omega, rfl⟩
theorem in_yes (n a b : Int) (w : World) (h1 : a ≤ n) (h2 : n ≤ b) :
    Calls Try.prog 12 #[.int .i64 n, .int .i64 a, .int .i64 b] w fun e w' => e = .returned (.bool true) ∧ w = w' :=
  (in_any n a b w).mono fun e w' ⟨he, hw⟩ => ⟨by rw [he, show decide (a ≤ n ∧ n ≤ b) = true from decide_eq_true ⟨h1, h2⟩], hw⟩
theorem in_no (n a b : Int) (w : World) (h1 : n < a ∨ b < n) :
    Calls Try.prog 12 #[.int .i64 n, .int .i64 a, .int .i64 b] w fun e w' => e = .returned (.bool false) ∧ w = w' :=
  (in_any n a b w).mono fun e w' ⟨he, hw⟩ => ⟨by rw [he, show decide (a ≤ n ∧ n ≤ b) = false from decide_eq_false (by omega)], hw⟩
theorem at_any (c d : Int) (w : World) :
    Calls Try.prog 32 #[.int .i64 c, .int .i64 d] w fun e w' => e = .returned (.agg #[.int .i64 c, .int .i64 d]) ∧ Below w.heap.size w w' := by
  go_enter Try.func32, Try.ntmps32
  go_wp2
  refine bodyPost_ret (v := .agg #[.int .i64 c, .int .i64 d]) ?_ rfl ⟨rfl, (Below.refl _ _).alloc (Nat.le_refl _) _⟩
  simp [results, Try.results32, go_sem]

end Go.Proofs.Ytkepfmglljkjhaa

namespace Go.Proofs.Ytkepfmglljkjhaa
open Go.RowKit
end Go.Proofs.Ytkepfmglljkjhaa

namespace Go.Proofs.Ytkepfmglljkjhaa
open Go.RowKit
theorem mem_bin {ys : List Int} (hs : ys.Pairwise (· < ·)) {k : Nat} {x : Int} (lo : ∀ j : Nat, ∀ y : Int, j < k → ys[j]? = some y → y < x) (hi : ∀ j : Nat, ∀ y : Int, k ≤ j → ys[j]? = some y → x ≤ y) :
    x ∈ ys ↔ ys[k]? = some x := by
  constructor
  · intro h
    obtain ⟨j, hj⟩ := List.mem_iff_getElem?.1 h
    rcases Nat.lt_trichotomy j k with e | e | e
    · have := lo j x e hj; omega
    · subst e; exact hj
    · have hl := get_lt hj
      obtain ⟨z, hz⟩ : ∃ z, ys[k]? = some z := ⟨_, List.getElem?_eq_getElem (by omega)⟩
      have h1 := hi k z (Nat.le_refl _) hz
      obtain ⟨hk1, rfl⟩ := List.getElem?_eq_some_iff.1 hz
      obtain ⟨hj1, rfl⟩ := List.getElem?_eq_some_iff.1 hj
      have := List.pairwise_iff_getElem.1 hs k j hk1 hj1 e
      omega
  · exact fun h => List.mem_of_getElem? h

/-- What BinarySearch returns: the number of smaller elements, and whether the element is there. -/
def BinPost (ys : List Int) (x : Int) (w : World) (e : Ending) (w' : World) : Prop :=
  ∃ k : Nat, e = .returned (.tuple #[.int .i64 k, .bool (decide (x ∈ ys))]) ∧ k ≤ ys.length ∧ (∀ j : Nat, ∀ y : Int, j < k → ys[j]? = some y → y < x) ∧ (∀ j : Nat, ∀ y : Int, k ≤ j → ys[j]? = some y → x ≤ y) ∧ Below w.heap.size w w'

/-- F is a function with a body. -/
def Enters (F : FuncId) : Prop := ∀ (args : Array Value) (w : World), (callFunc F args).run Try.prog w = .ok (.enter F args) w
/-- A function value that answers, in every world that keeps the old memory, whether p holds of a number of the list. -/
def Tests (F : FuncId) (q : Value) (xs : List Int) (p : Int → Bool) (w : World) : Prop :=
  ∀ x ∈ xs, ∀ wr : World, Below w.heap.size w wr → Calls Try.prog F #[.int .i64 x, q] wr fun e w' => e = .returned (.bool (p x)) ∧ Below wr.heap.size wr w'
/-- The number of the first element of which p holds. -/
def SomeIdx (xs : List Int) (w : World) (e : Ending) (w' : World) : Prop := ∃ k : Nat, e = .returned (.int .i64 k) ∧ k < xs.length ∧ Below w.heap.size w w'

end Go.Proofs.Ytkepfmglljkjhaa

namespace Go.Proofs.Ytkepfmglljkjhaa
open Go.RowKit
/-- The facts of a list are all in a set that is given by bools. -/
def AllIn (bs : List Bool) (xs : List Int) : Prop := ∀ x ∈ xs, bs[x.toNat]? = some true
end Go.Proofs.Ytkepfmglljkjhaa

namespace Go.Proofs.Ytkepfmglljkjhaa
open Go.RowKit
set_option linter.unusedVariables false
set_option linter.unusedSimpArgs false

theorem cell_new_at (w : World) (v : Value) (e : TypeId) (b : Nat) (hb : b = w.heap.size) : (w.alloc (.cells #[v] e)).cell? ⟨b, 0, none⟩ = some v := by
  subst hb; simp
def SomeIdxP (xs : List Int) (w : World) (e : Ending) (w' : World) : Prop := ∃ k : Nat, e = .returned (.int .i64 k) ∧ k < xs.length ∧ w' = w
/-- A later world that has drawn alone. -/
def Drawn (w w' : World) : Prop := ∃ m, w' = w.drewN m
theorem Drawn.refl (w : World) : Drawn w w := ⟨0, rfl⟩
theorem Drawn.drewN {w w' : World} (h : Drawn w w') (k : Nat) : Drawn w (w'.drewN k) := by
  obtain ⟨m, rfl⟩ := h
  exact ⟨m + k, by rw [World.drewN_drewN]⟩
theorem Drawn.below {w w' : World} (h : Drawn w w') : Below w.heap.size w w' := by
  obtain ⟨m, rfl⟩ := h
  exact below_drewN (Below.refl _ _) m
end Go.Proofs.Ytkepfmglljkjhaa
