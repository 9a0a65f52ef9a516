/-
  Words for memory: a slice that reads as a list of values, of integers, of bools; kept below the heap's size.
  A task in memory: what its value and the cells that it leads to hold.
  The arguments of a law, as the walk wants them: lists of integers, tasks.
  More words for memory: append of a whole slice, cuts of a slice, copies.
  An own row whose elements take several cells and lead to lists of integers: lists of lists, of pairs, of cuts, of operators.
  slices.Clone: a fresh list.
-/
import Derived.Test.YtkepfmglljkjhaaRows
import Derived.WalkKit
import Derived.WalkSpells
import Derived.WalkLawsBesides
import Derived.Lib.Hide
import Derived.Deep.QuietTactic
import Derived.BigQuiet
import Derived.IntWalk
import Derived.Deep.RegionWith
import Derived.StillTailTactics
import Derived.Deep.RegionHeld3
import Derived.Deep.DeepCutAuto
import Derived.Deep.OwnRows
import Derived.Deep.LoopGhost
import Derived.Deep.DeepMust
import Derived.Laws.AppendOwnNone
import Derived.ProofKit
import Derived.OpenShut
import Derived.Deep.Slices
import Derived.Deep.Fields
import Derived.Lib.SmallJoins
import Derived.ChangeSlices
import Derived.DataShut
import Derived.OwnWalk
import Derived.Maps.AppendAt
namespace Go.Proofs.Ytkepfmglljkjhaa
open Go.RowKit
set_option linter.unusedVariables false
set_option linter.unusedSimpArgs false

theorem ret_int {k : IntKind} {a b : Int} (h : a = b) : Ending.returned (.int k a) = .returned (.int k b) := by rw [h]
/-- Cells that hold known values and can be written: block, place, value. -/
def Cls (w : World) : List (Nat × Nat × Value) → Prop
  | [] => True
  | (b, k, v) :: r => (w.cell? ⟨b, k, none⟩ = some v ∧ w.frozen? ⟨b, k, none⟩ = false) ∧ Cls w r
theorem Cls.below {w w' : World} {l : List (Nat × Nat × Value)} (hb : Below w.heap.size w w') (h : Cls w l) : Cls w' l := by
  induction l with
  | nil => trivial
  | cons x r ih =>
    obtain ⟨b, k, v⟩ := x
    obtain ⟨⟨h1, h2⟩, h3⟩ := h
    have hl := World.block_lt_of_cell? w ⟨b, k, none⟩ h1
    exact ⟨⟨(hb.cell hl).trans h1, (hb.frozen hl).trans h2⟩, ih h3⟩
theorem Cls.blk {w : World} {l : List (Nat × Nat × Value)} (h : Cls w l) {b k : Nat} {v : Value} (hm : (b, k, v) ∈ l) : b < w.heap.size := by
  induction l with
  | nil => cases hm
  | cons x r ih =>
    obtain ⟨b', k', v'⟩ := x
    rcases List.mem_cons.1 hm with e | e
    · injection e with e1 e2
      injection e2 with e2 e3
      subst e1; subst e2; subst e3
      exact World.block_lt_of_cell? w ⟨b, k, none⟩ h.1.1
    · exact ih h.2 e
theorem Cls.first {w w' : World} {l : List (Nat × Nat × Value)} (hb : Below w.heap.size w w') (h : Cls w l) : Cls w l ∧ Cls w' l := ⟨h, h.below hb⟩

theorem dstep {X w1 : World} (w : World) (hB : Below X.heap.size X w1) (h : Below w.heap.size w X) : Below w.heap.size w w1 := h.trans (hB.mono h.size)
theorem bdrew {B : Nat} {a w : World} (h : Below B a w) : Below B a w.drew := h.drew
theorem bdrewN {B : Nat} {a w : World} {n : Nat} (h : Below B a w) : Below B a (w.drewN n) := below_drewN h n
theorem balloc {a w : World} {o : Obj} (h : Below a.heap.size a w) : Below a.heap.size a (w.alloc o) := h.alloc h.size o
theorem bset {B : Nat} {a w : World} {p : Addr} (h : Below B a w) (hp : B ≤ p.block) (u : Value) : Below B a (w.setCell p u) := h.setCell hp u

/-- A store makes no cell and takes none away. -/
theorem set_isSome (w : World) (a b : Addr) (v : Value) : ((w.setCell a v).cell? b).isSome = (w.cell? b).isSome := by
  by_cases e : a = b
  · subst e
    cases h : w.cell? a with
    | some u => rw [World.cell?_setCell_same w a v h]; rfl
    | none =>
      cases h2 : (w.setCell a v).cell? a with
      | none => rfl
      | some u =>
        exfalso
        unfold World.cell? World.setCell at h2
        unfold World.cell? at h
        simp only [Array.getElem?_modify, if_true] at h2
        cases hb : w.heap[a.block]? with
        | none => rw [hb] at h2; simp at h2
        | some o =>
          rw [hb] at h2 h
          cases o <;> simp_all
  · rw [World.cell?_setCell_other w a b v e]

theorem region_still_tail {P : Program} {id : Nat} {Q : Exit → Act → World → Prop} {a : Act} {w : World} {l : List Oper} (n : Nat) (hm : P.follows .mixedOrders = true) (hB : Region.lexTailB .any l.toArray n = true)
    (h : wpStill P l.toArray w.drew (fun a' => wpList P l.toArray Q (l.drop n) a' w.drew) (l.take n) a) : (Code.region id l.toArray true).wp P Q a w := wp_region_still_tail n hm hB h

/-! ### A slice that reads as a list -/
theorem add_zero (a : Addr) : a.add 0 = a := rfl
theorem add_block (a : Addr) (n : Nat) : (a.add n).block = a.block := by unfold Addr.add; split <;> rfl

/-- The address A leads to the cells xs (where there are any). -/
def Row (w : World) (A : Option Addr) (xs : List Value) : Prop := ∀ j u, xs[j]? = some u → ∃ ad, A = some ad ∧ w.cell? (ad.add j) = some u
theorem Row.nil (w : World) (A : Option Addr) : Row w A [] := fun j u h => by simp at h
theorem Row.at_ {w : World} {A : Option Addr} {xs : List Value} {k : Nat} (h : Row w A xs) (hk : k < xs.length) : ∃ ad, A = some ad ∧ w.cell? (ad.add k) = some xs[k] := h k _ (List.getElem?_eq_getElem hk)
theorem Row.below {w w' : World} {A : Option Addr} {xs : List Value} (h : Row w A xs) (hb : Below w.heap.size w w') : Row w' A xs := fun j u hu => by
  obtain ⟨ad, e, hc⟩ := h j u hu
  exact ⟨ad, e, (hb.cell (World.block_lt_of_cell? w _ hc)).trans hc⟩

/-- .. the integers xs. -/
def Ints (w : World) (A : Option Addr) (xs : List Int) : Prop := Row w A (xs.map (Value.int .i64))
theorem Ints.nil (w : World) (A : Option Addr) : Ints w A [] := Row.nil w A
theorem Ints.below {w w' : World} {A : Option Addr} {xs : List Int} (h : Ints w A xs) (hb : Below w.heap.size w w') : Ints w' A xs := Row.below h hb
theorem Ints.at_ {w : World} {A : Option Addr} {xs : List Int} {k : Nat} (h : Ints w A xs) (hk : k < xs.length) : ∃ ad x, A = some ad ∧ Hid (xs[k]? = some x) ∧ w.cell? (ad.add k) = some (.int .i64 x) := by
  obtain ⟨ad, e, hc⟩ := Row.at_ (xs := xs.map (Value.int .i64)) h (by simpa using hk)
  exact ⟨ad, xs[k], e, Lib.hid (List.getElem?_eq_getElem hk), by simpa using hc⟩

/-- .. the bools xs. -/
def Bools (w : World) (A : Option Addr) (xs : List Bool) : Prop := Row w A (xs.map Value.bool)
theorem Bools.below {w w' : World} {A : Option Addr} {xs : List Bool} (h : Bools w A xs) (hb : Below w.heap.size w w') : Bools w' A xs := Row.below h hb
theorem Bools.at_ {w : World} {A : Option Addr} {xs : List Bool} {k : Nat} (h : Bools w A xs) (hk : k < xs.length) : ∃ ad x, A = some ad ∧ Hid (xs[k]? = some x) ∧ w.cell? (ad.add k) = some (.bool x) := by
  obtain ⟨ad, e, hc⟩ := Row.at_ (xs := xs.map Value.bool) h (by simpa using hk)
  exact ⟨ad, xs[k], e, Lib.hid (List.getElem?_eq_getElem hk), by simpa using hc⟩


/-! ### A block of the call's own that is known whole -/
/-- Block g holds the cells xs, and can be written. -/
def Arr (w : World) (g : Nat) (e : TypeId) (xs : List Value) : Prop := w.heap[g]? = some (.cells xs.toArray e (0, 0))
section
variable {w w' : World} {g : Nat} {e : TypeId} {xs : List Value}
theorem Arr.lt (h : Arr w g e xs) : g < w.heap.size := by
  rcases Nat.lt_or_ge g w.heap.size with hlt | hge
  · exact hlt
  · unfold Arr at h; rw [Array.getElem?_eq_none hge] at h; cases h
theorem Arr.cell (h : Arr w g e xs) (i : Nat) : w.cell? ⟨g, i, none⟩ = xs[i]? := by
  unfold Arr at h
  simp [World.cell?, h]
theorem Arr.free (h : Arr w g e xs) (i : Nat) : w.frozen? ⟨g, i, none⟩ = false := by
  unfold Arr at h
  simp [World.frozen?, h]
theorem Arr.new (w : World) (e : TypeId) (xs : List Value) : Arr (w.alloc (.cells xs.toArray e)) w.heap.size e xs := by
  show (w.heap.push _)[w.heap.size]? = _
  simp
theorem Arr.below (h : Arr w g e xs) (hb : Below w.heap.size w w') : Arr w' g e xs := (hb.block g h.lt).trans h
theorem Arr.set_ (h : Arr w g e xs) (i : Nat) (u : Value) : Arr (w.setCell ⟨g, i, none⟩ u) g e (xs.set i u) := by
  unfold Arr at h ⊢
  simp [World.setCell, Array.getElem?_modify, h]
theorem Arr.far (h : Arr w g e xs) {p : Addr} (hp : p.block ≠ g) (u : Value) : Arr (w.setCell p u) g e xs := (Below.heap_setCell w p u g (fun e => hp e.symm)).trans h
theorem Arr.drew (h : Arr w g e xs) : Arr w.drew g e xs := h
theorem Arr.alloc (h : Arr w g e xs) (o : Obj) : Arr (w.alloc o) g e xs := (Below.heap_alloc w o g h.lt).trans h
theorem Arr.row (h : Arr w g e xs) : Row w (some ⟨g, 0, none⟩) xs := fun j u hu => ⟨_, rfl, by
  have : ((⟨g, 0, none⟩ : Addr).add j) = ⟨g, j, none⟩ := by
    unfold Addr.add
    split
    · rename_i hj; subst hj; rfl
    · simp
  rw [this, h.cell]; exact hu⟩
end
theorem Cls.far {w : World} {l : List (Nat × Nat × Value)} (h : Cls w l) (p : Addr) (u : Value) (hp : ∀ x ∈ l, x.1 ≠ p.block) : Cls (w.setCell p u) l := by
  induction l with
  | nil => trivial
  | cons x r ih =>
    obtain ⟨b, k, v⟩ := x
    obtain ⟨⟨h1, h2⟩, h3⟩ := h
    have hne : b ≠ p.block := hp (b, k, v) (by simp)
    refine ⟨⟨?_, ?_⟩, ih h3 (fun x hx => hp x (by simp [hx]))⟩
    · rw [World.cell?_setCell_other w p ⟨b, k, none⟩ u (fun e => hne (by rw [e]))]; exact h1
    · rw [World.frozen?_setCell]; exact h2
/-- Block g holds the integers xs. -/
def IArr (w : World) (g : Nat) (xs : List Int) : Prop := Arr w g 3 (xs.map (Value.int .i64))
theorem IArr.ints {w : World} {g : Nat} {xs : List Int} (h : IArr w g xs) : Ints w (some ⟨g, 0, none⟩) xs := Arr.row h
theorem IArr.below {w w' : World} {g : Nat} {xs : List Int} (h : IArr w g xs) (hb : Below w.heap.size w w') : IArr w' g xs := Arr.below h hb
theorem IArr.cell {w : World} {g : Nat} {xs : List Int} (h : IArr w g xs) {i : Nat} (hi : i < xs.length) : ∃ x, Hid (xs[i]? = some x) ∧ w.cell? ⟨g, i, none⟩ = some (.int .i64 x) ∧ w.frozen? ⟨g, i, none⟩ = false := by
  refine ⟨xs[i], Lib.hid (List.getElem?_eq_getElem hi), ?_, Arr.free h i⟩
  rw [Arr.cell h i]; simp [hi]
theorem IArr.set_ {w : World} {g : Nat} {xs : List Int} (h : IArr w g xs) (i : Nat) (x : Int) : IArr (w.setCell ⟨g, i, none⟩ (.int .i64 x)) g (xs.set i x) := by
  unfold IArr; rw [List.map_set]; exact Arr.set_ h i _
theorem IArr.far {w : World} {g : Nat} {xs : List Int} (h : IArr w g xs) {p : Addr} (hp : p.block ≠ g) (u : Value) : IArr (w.setCell p u) g xs := Arr.far h hp u
/-- Block g holds the bools xs. -/
def BArr (w : World) (g : Nat) (xs : List Bool) : Prop := Arr w g 4 (xs.map Value.bool)
theorem BArr.bools {w : World} {g : Nat} {xs : List Bool} (h : BArr w g xs) : Bools w (some ⟨g, 0, none⟩) xs := Arr.row h
theorem BArr.below {w w' : World} {g : Nat} {xs : List Bool} (h : BArr w g xs) (hb : Below w.heap.size w w') : BArr w' g xs := Arr.below h hb
theorem BArr.cell {w : World} {g : Nat} {xs : List Bool} (h : BArr w g xs) {i : Nat} (hi : i < xs.length) : ∃ x, Hid (xs[i]? = some x) ∧ w.cell? ⟨g, i, none⟩ = some (.bool x) ∧ w.frozen? ⟨g, i, none⟩ = false := by
  refine ⟨xs[i], Lib.hid (List.getElem?_eq_getElem hi), ?_, Arr.free h i⟩
  rw [Arr.cell h i]; simp [hi]
theorem BArr.set_ {w : World} {g : Nat} {xs : List Bool} (h : BArr w g xs) (i : Nat) (x : Bool) : BArr (w.setCell ⟨g, i, none⟩ (.bool x)) g (xs.set i x) := by
  unfold BArr; rw [List.map_set]; exact Arr.set_ h i _

theorem IArr.made (w : World) (n g : Nat) (hg : g = w.heap.size) : IArr (w.alloc (.cells (Array.replicate n (.int .i64 0)) 3)) g (List.replicate n 0) := by
  subst hg
  have h := Arr.new w 3 (List.replicate n (Value.int .i64 0))
  unfold IArr
  rw [List.map_replicate]
  rw [List.toArray_replicate] at h
  exact h
theorem BArr.made (w : World) (n g : Nat) (hg : g = w.heap.size) : BArr (w.alloc (.cells (Array.replicate n (.bool false)) 4)) g (List.replicate n false) := by
  subst hg
  have h := Arr.new w 4 (List.replicate n (Value.bool false))
  unfold BArr
  rw [List.map_replicate]
  rw [List.toArray_replicate] at h
  exact h
theorem madeCells_one (z : Value) (n : Nat) : madeCells #[z] n = (List.replicate n z).toArray := by
  apply Array.ext'
  apply List.ext_getElem?
  intro i
  unfold madeCells
  by_cases h : i < n
  · simp [h, Nat.mod_one]
  · simp [h]
theorem info_int : (Try.prog.info? 3).map (fun i => (i.zero, i.size, i.bytes)) = some (some (.int .i64 0), 1, 8) := by kernel_rfl
theorem make_ints (n : Nat) (hn : n ≤ 1000000000000) (w : World) :
    (Instr.makeSlice 23 (.int .i64 (n : Int)) (.int .i64 (n : Int))).run Try.prog w = .ok (.slice (some ⟨w.heap.size, 0, none⟩) n n) (w.alloc (.cells (List.replicate n (Value.int .i64 0)).toArray 3)) := by
  rw [← madeCells_one]
  exact run_make_row' 23 3 (.int .i64 0) 8 Try.underlying23 info_int rfl .i64 .i64 n (by omega) (by omega) w
/-! ### A row of the call's own: it is appended to -/
theorem own_below {w w' : World} {base : Nat} {e : TypeId} {size n : Nat} {v : Value} {xs : List Value} (h : w.ownsRow base e size v n xs) (hb : Below w.heap.size w w') : w'.ownsRow base e size v n xs := by
  obtain ⟨h1, h2⟩ := h
  refine ⟨h1, ?_⟩
  rcases h2 with h2 | ⟨g, cap, cur, hv, hg, hh, r⟩
  · exact Or.inl h2
  · refine Or.inr ⟨g, cap, cur, hv, hg, ?_, r⟩
    have hlt : g < w.heap.size := by
      rcases Nat.lt_or_ge g w.heap.size with hl | hl
      · exact hl
      · rw [Array.getElem?_eq_none hl] at hh; cases hh
    exact (hb.block g hlt).trans hh
theorem own_row {w : World} {base : Nat} {e : TypeId} {n : Nat} {v : Value} {xs : List Value} (h : w.ownsRow base e 1 v n xs) : ∃ A c, v = .slice A xs.length c ∧ Row w A xs := by
  have hl : xs.length = n := by have := h.1; omega
  rcases h.2 with ⟨hv, hn⟩ | ⟨g, cap, cur, hv, hg, hh, hnc, hcm, hs, ht⟩
  · subst hn
    have : xs = [] := List.eq_nil_of_length_eq_zero hl
    subst this
    exact ⟨none, 0, hv, Row.nil _ _⟩
  · refine ⟨some ⟨g, 0, none⟩, cap, by rw [hl]; exact hv, fun j u hu => ⟨_, rfl, ?_⟩⟩
    exact h.cells (g := g) (by rw [hv]; rfl) j u hu

/-- The value v is a slice of the call's own that holds the integers xs. -/
def OwnI (base : Nat) (w : World) (v : Value) (xs : List Int) : Prop := w.ownsRow base 3 1 v xs.length (xs.map (Value.int .i64))
theorem OwnI.nil (base : Nat) (w : World) : OwnI base w (.slice none 0 0) [] := World.ownsRow_nil w base _ _
theorem OwnI.below {base : Nat} {w w' : World} {v : Value} {xs : List Int} (h : OwnI base w v xs) (hb : Below w.heap.size w w') : OwnI base w' v xs := own_below h hb
theorem OwnI.far {base : Nat} {w : World} {v : Value} {xs : List Int} (h : OwnI base w v xs) {p : Addr} (hp : p.block < base) (u : Value) : OwnI base (w.setCell p u) v xs := by
  obtain ⟨h1, h2⟩ := h
  refine ⟨h1, ?_⟩
  rcases h2 with h2 | ⟨g, cap, cur, hv, hg, hh, r⟩
  · exact Or.inl h2
  · exact Or.inr ⟨g, cap, cur, hv, hg, (Below.heap_setCell w p u g (fun e => by omega)).trans hh, r⟩
theorem OwnI.mono {base base' : Nat} {w : World} {v : Value} {xs : List Int} (h : OwnI base w v xs) (hb : base' ≤ base) : OwnI base' w v xs := by
  obtain ⟨h1, h2⟩ := h
  refine ⟨h1, ?_⟩
  rcases h2 with h2 | ⟨g, cap, cur, hv, hg, r⟩
  · exact Or.inl h2
  · exact Or.inr ⟨g, cap, cur, hv, by omega, r⟩
theorem OwnI.ints {base : Nat} {w : World} {v : Value} {xs : List Int} (h : OwnI base w v xs) : ∃ A c, v = .slice A xs.length c ∧ Ints w A xs := by
  obtain ⟨A, c, hv, hr⟩ := own_row h
  exact ⟨A, c, by simpa using hv, hr⟩
theorem own_grown {base : Nat} {e : TypeId} {size n : Nat} {w0 w w' : World} {v : Value} {xs : List Value} (hB : Below base w0 w) (h : w.ownsRow base e size v n xs) (hg : w.grownBy w' v.ownBlock) (hb : base ≤ w.heap.size) : Below base w0 w' :=
  hB.grown hg hb (fun k hk => (h.lt k hk).1)
theorem Cls.grown {base : Nat} {e : TypeId} {size n : Nat} {w w' : World} {v : Value} {xs : List Value} {l : List (Nat × Nat × Value)} (hC : Cls w l) (h : w.ownsRow base e size v n xs) (hg : w.grownBy w' v.ownBlock) (hl : ∀ x ∈ l, x.1 < base) : Cls w' l := by
  induction l with
  | nil => trivial
  | cons x r ih =>
    obtain ⟨b, k, u⟩ := x
    obtain ⟨⟨h1, h2⟩, h3⟩ := hC
    have hlt := World.block_lt_of_cell? w ⟨b, k, none⟩ h1
    have hne : w'.heap[b]? = w.heap[b]? := hg.block b hlt (fun e => by
      have h4 := (h.lt b e.symm).1
      have h5 : b < base := hl (b, k, u) (by simp)
      omega)
    exact ⟨⟨(World.cell?_of_block (w := w) hne).trans h1, (World.frozen?_of_block (w := w) hne).trans h2⟩, ih h3 (fun x hx => hl x (by simp [hx]))⟩

theorem wpList_push_int {ops : Array Oper} {rest : List Oper} {o : Oper} {a : Act} {w : World} {Q : Exit → Act → World → Prop} (hgd : o.guard = none) (s x : Operand)
    (ho : o.op = .call { callee := .builtin .append, args := #[s, x], argTypes := #[23, 23] })
    (base : Nat) (v : Value) (xs : List Int) (y : Int) (hs : a.eval s = v) (hown : OwnI base w v xs) (ad : Addr) (m : Nat) (hx : a.eval x = .slice (some ad) 1 m) (hc : w.cell? ad = some (.int .i64 y))
    (hlen : xs.length < 1000000000000) (hbase : base ≤ w.heap.size)
    (h : ∀ v' w', OwnI base w' v' (xs ++ [y]) → w.grownBy w' v.ownBlock → wpList Try.prog ops Q rest (a.put o.dst v') w') : wpList Try.prog ops Q (o :: rest) a w := by
  obtain ⟨i0, hi0, hz⟩ := Option.map_eq_some_iff.1 info_int
  simp only [Prod.mk.injEq] at hz
  refine wpList_append_own w hgd s x 23 ho base 3 i0 (.int .i64 0) 1 8 Try.underlying23 hi0 hz.1 hz.2.1 hz.2.2 rfl (by decide) v xs.length (xs.map (Value.int .i64)) hs hown ad 1 m [.int .i64 y] hx rfl ?_ ?_ ?_ ?_ hbase ?_
  · intro j u hu
    cases j with
    | zero => simp at hu; subst hu; rw [add_zero]; exact hc
    | succ j => simp at hu
  · intro u hu; simp at hu; subst hu; rfl
  · simp only [maxLen]; omega
  · omega
  · intro v' w' h1 h2 _
    refine h v' w' ?_ h2
    unfold OwnI
    rw [List.length_append, List.map_append]
    exact h1

/-- .. with what the rest of the walk wants: the old memory, the call's own cells. -/
theorem wpList_push {ops : Array Oper} {rest : List Oper} {o : Oper} {a : Act} {w : World} {Q : Exit → Act → World → Prop} (hgd : o.guard = none) (s x : Operand)
    (ho : o.op = .call { callee := .builtin .append, args := #[s, x], argTypes := #[23, 23] })
    (w0 : World) (l : List (Nat × Nat × Value)) (base : Nat) (v : Value) (xs : List Int) (y : Int) (hs : a.eval s = v) (hown : OwnI base w v xs) (ad : Addr) (m : Nat) (hx : a.eval x = .slice (some ad) 1 m) (hc : w.cell? ad = some (.int .i64 y))
    (hlen : xs.length < 1000000000000) (hbase : base ≤ w.heap.size) (h0 : w0.heap.size ≤ base) (hB : Below w0.heap.size w0 w) (hC : Cls w l) (hl : ∀ x ∈ l, x.1 < base)
    (h : ∀ v' w', OwnI base w' v' (xs ++ [y]) → Below w0.heap.size w0 w' → Cls w' l → w.heap.size ≤ w'.heap.size → wpList Try.prog ops Q rest (a.put o.dst v') w') : wpList Try.prog ops Q (o :: rest) a w :=
  wpList_push_int hgd s x ho base v xs y hs hown ad m hx hc hlen hbase fun v' w' h1 h2 =>
    h v' w' h1 (own_grown hB (OwnI.mono hown h0) h2 (Nat.le_trans h0 hbase)) (hC.grown hown h2 hl) h2.size

/-- The value of an own row, its address and its cells. -/
theorem OwnI.form {base : Nat} {w : World} {v : Value} {xs : List Int} (h : OwnI base w v xs) : ∃ A c, v = .slice A xs.length c ∧ (A = none → xs = [] ∧ c = 0) ∧ Ints w A xs := by
  obtain ⟨A, c, hv, hI⟩ := h.ints
  refine ⟨A, c, hv, fun hA => ?_, hI⟩
  rcases h.2 with ⟨h1, h2⟩ | ⟨g, cap, cur, h1, _⟩
  · rw [hv] at h1
    injection h1 with _ h3 h4
    exact ⟨List.eq_nil_of_length_eq_zero h3, h4⟩
  · rw [hv, hA] at h1
    injection h1 with h1
    cases h1
theorem OwnI.at_ {base n c k : Nat} {w : World} {A : Option Addr} {xs : List Int} (h : OwnI base w (.slice A n c) xs) (hk : k < xs.length) :
    ∃ g x, A = some ⟨g, 0, none⟩ ∧ base ≤ g ∧ g < w.heap.size ∧ Hid (xs[k]? = some x) ∧ w.cell? ⟨g, k, none⟩ = some (.int .i64 x) ∧ w.frozen? ⟨g, k, none⟩ = false := by
  have h' := h
  rcases h.2 with ⟨h1, h2⟩ | ⟨g, cap, cur, h1, hb, hg, r⟩
  · omega
  · injection h1 with h1 h2 h3
    subst h1; subst h2; subst h3
    have hlt : g < w.heap.size := by
      rcases Nat.lt_or_ge g w.heap.size with hl | hl
      · exact hl
      · rw [Array.getElem?_eq_none hl] at hg; cases hg
    refine ⟨g, xs[k], rfl, hb, hlt, Lib.hid (List.getElem?_eq_getElem hk), ?_, World.ownsRow.frozenAt h' k⟩
    rw [World.ownsRow.cellAt h' k (by omega)]
    simp [hk]
theorem OwnI.set_ {base n c g : Nat} {w : World} {xs : List Int} (h : OwnI base w (.slice (some ⟨g, 0, none⟩) n c) xs) (hn : xs.length = n) (k : Nat) (x : Int) :
    OwnI base (w.setCell ⟨g, k, none⟩ (.int .i64 x)) (.slice (some ⟨g, 0, none⟩) n c) (xs.set k x) := by
  subst hn
  unfold OwnI at h ⊢
  rw [List.map_set, List.length_set]
  exact (World.ownsRow.stored h k _).1
/-- append(nil, x...): a copy. -/
theorem wpList_copy {ops : Array Oper} {rest : List Oper} {o : Oper} {a : Act} {w : World} {Q : Exit → Act → World → Prop} (hgd : o.guard = none) (s x : Operand)
    (ho : o.op = .call { callee := .builtin .append, args := #[s, x], argTypes := #[23, 23] })
    (A : Option Addr) (c n : Nat) (xs : List Int) (hs : a.eval s = .slice none 0 0) (hx : a.eval x = .slice A n c) (hn : xs.length = n) (hnil : A = none → xs = [] ∧ c = 0) (hI : Ints w A xs)
    (hlen : n ≤ 1000000000000)
    (h : ∀ A' c' w', OwnI w.heap.size w' (.slice A' n c') xs → (A' = none → xs = [] ∧ c' = 0) → Below w.heap.size w w' → wpList Try.prog ops Q rest (a.put o.dst (.slice A' n c')) w') : wpList Try.prog ops Q (o :: rest) a w := by
  obtain ⟨i0, hi0, hz⟩ := Option.map_eq_some_iff.1 info_int
  simp only [Prod.mk.injEq] at hz
  subst hn
  have e0 : OwnI w.heap.size w (.slice none 0 0) [] := OwnI.nil _ _
  cases A with
  | none =>
    obtain ⟨rfl, rfl⟩ := hnil rfl
    refine wpList_append_own_none hgd s x 23 ho w.heap.size 3 i0 1 Try.underlying23 hi0 (.slice none 0 0) 0 [] hs e0 hx ?_
    exact h none 0 w e0 (fun _ => ⟨rfl, rfl⟩) (Below.refl _ _)
  | some ad =>
    refine wpList_append_own w hgd s x 23 ho w.heap.size 3 i0 (.int .i64 0) 1 8 Try.underlying23 hi0 hz.1 hz.2.1 hz.2.2 rfl (by decide) (.slice none 0 0) 0 [] hs e0 ad xs.length c (xs.map (Value.int .i64)) hx (by simp) ?_ ?_ ?_ ?_ (Nat.le_refl _) ?_
    · intro j u hu
      obtain ⟨ad', e, hc⟩ := hI j u hu
      rw [Option.some.inj e]
      exact hc
    · intro u hu
      obtain ⟨y, _, rfl⟩ := List.mem_map.1 hu
      rfl
    · show 0 + xs.length ≤ maxLen
      simp only [maxLen]; omega
    · omega
    · intro v' w' h1 h2 _
      have h3 : OwnI w.heap.size w' v' xs := by
        unfold OwnI
        rw [Nat.zero_add, List.nil_append] at h1
        exact h1
      obtain ⟨A', c', rfl, hn', _⟩ := h3.form
      exact h A' c' w' h3 hn' (own_grown (Below.refl _ _) e0 h2 (Nat.le_refl _))

end Go.Proofs.Ytkepfmglljkjhaa

namespace Go.Proofs.Ytkepfmglljkjhaa
open Go.RowKit
set_option linter.unusedVariables false
set_option linter.unusedSimpArgs false

/-- An operator, as lists. -/
structure OpV where
  pre : List Int
  add : List Int
  del : List Int
  cost : Int
/-- A task, as lists. -/
structure TaskV where
  facts : Int
  init : List Int
  goal : List Int
  ops : List OpV

/-- The greatest length of a slice that was read. -/
def lenOk (n : Nat) : Prop := n ≤ 9223372036854775807
theorem lenOk.le {n : Nat} (h : lenOk n) : n ≤ 9223372036854775807 := by unfold lenOk at h; omega
theorem lenOk.le2 {n : Nat} (h : lenOk n) : n ≤ 9223372036854775807 := h

/-- The lists of an operator lie at three addresses. -/
structure OpMem (w : World) (A0 A1 A2 : Option Addr) (o : OpV) : Prop where
  pre : Ints w A0 o.pre
  add : Ints w A1 o.add
  del : Ints w A2 o.del
  lpre : lenOk o.pre.length
  ladd : lenOk o.add.length
  ldel : lenOk o.del.length
theorem OpMem.below {w w' : World} {A0 A1 A2 : Option Addr} {o : OpV} (h : OpMem w A0 A1 A2 o) (hb : Below w.heap.size w w') : OpMem w' A0 A1 A2 o :=
  ⟨h.pre.below hb, h.add.below hb, h.del.below hb, h.lpre, h.ladd, h.ldel⟩

/-- The operators lie one behind the other. -/
def OpsAt (w : World) (A : Option Addr) (ops : List OpV) : Prop :=
  ∀ (k : Nat) (o : OpV), ops[k]? = some o → ∃ ad A0 c0 A1 c1 A2 c2, A = some ad ∧ w.cell? (ad.add (k * 4)) = some (.slice A0 o.pre.length c0) ∧ w.cell? ⟨(ad.add (k * 4)).block, (ad.add (k * 4)).off + 1, none⟩ = some (.slice A1 o.add.length c1) ∧
    w.cell? ⟨(ad.add (k * 4)).block, (ad.add (k * 4)).off + 2, none⟩ = some (.slice A2 o.del.length c2) ∧ w.cell? ⟨(ad.add (k * 4)).block, (ad.add (k * 4)).off + 3, none⟩ = some (.int .i64 o.cost) ∧ OpMem w A0 A1 A2 o
theorem OpsAt.below {w w' : World} {A : Option Addr} {ops : List OpV} (h : OpsAt w A ops) (hb : Below w.heap.size w w') : OpsAt w' A ops := fun k o hk => by
  obtain ⟨ad, A0, c0, A1, c1, A2, c2, e, h0, h1, h2, h3, hm⟩ := h k o hk
  exact ⟨ad, A0, c0, A1, c1, A2, c2, e, (hb.cell (World.block_lt_of_cell? w _ h0)).trans h0, (hb.cell (World.block_lt_of_cell? w _ h1)).trans h1, (hb.cell (World.block_lt_of_cell? w _ h2)).trans h2, (hb.cell (World.block_lt_of_cell? w _ h3)).trans h3, hm.below hb⟩
theorem OpsAt.at_ {w : World} {A : Option Addr} {ops : List OpV} {k : Nat} (h : OpsAt w A ops) (hk : k < ops.length) : ∃ ad o A0 c0 A1 c1 A2 c2, A = some ad ∧ Hid (ops[k]? = some o) ∧ w.cell? (ad.add (k * 4)) = some (.slice A0 o.pre.length c0) ∧ w.cell? ⟨(ad.add (k * 4)).block, (ad.add (k * 4)).off + 1, none⟩ = some (.slice A1 o.add.length c1) ∧
    w.cell? ⟨(ad.add (k * 4)).block, (ad.add (k * 4)).off + 2, none⟩ = some (.slice A2 o.del.length c2) ∧ w.cell? ⟨(ad.add (k * 4)).block, (ad.add (k * 4)).off + 3, none⟩ = some (.int .i64 o.cost) ∧ OpMem w A0 A1 A2 o := by
  obtain ⟨ad, A0, c0, A1, c1, A2, c2, r⟩ := h k _ (List.getElem?_eq_getElem hk)
  exact ⟨ad, ops[k], A0, c0, A1, c1, A2, c2, r.1, Lib.hid (List.getElem?_eq_getElem hk), r.2⟩
/-- .. the cells in a later world, the lists in the first one. -/
theorem OpsAt.at2 {w w' : World} {A : Option Addr} {ops : List OpV} {k : Nat} (h : OpsAt w A ops) (hb : Below w.heap.size w w') (hk : k < ops.length) : ∃ ad o A0 c0 A1 c1 A2 c2, A = some ad ∧ Hid (ops[k]? = some o) ∧ w'.cell? (ad.add (k * 4)) = some (.slice A0 o.pre.length c0) ∧ w'.cell? ⟨(ad.add (k * 4)).block, (ad.add (k * 4)).off + 1, none⟩ = some (.slice A1 o.add.length c1) ∧
    w'.cell? ⟨(ad.add (k * 4)).block, (ad.add (k * 4)).off + 2, none⟩ = some (.slice A2 o.del.length c2) ∧ w'.cell? ⟨(ad.add (k * 4)).block, (ad.add (k * 4)).off + 3, none⟩ = some (.int .i64 o.cost) ∧ OpMem w A0 A1 A2 o := by
  obtain ⟨ad, A0, c0, A1, c1, A2, c2, e, h0, h1, h2, h3, hm⟩ := h k _ (List.getElem?_eq_getElem hk)
  exact ⟨ad, ops[k], A0, c0, A1, c1, A2, c2, e, Lib.hid (List.getElem?_eq_getElem hk), (hb.cell (World.block_lt_of_cell? w _ h0)).trans h0, (hb.cell (World.block_lt_of_cell? w _ h1)).trans h1, (hb.cell (World.block_lt_of_cell? w _ h2)).trans h2, (hb.cell (World.block_lt_of_cell? w _ h3)).trans h3, hm⟩

/-- A task: the lists of its fields lie at three addresses. -/
structure TaskMem (w : World) (Ai Ag Ao : Option Addr) (t : TaskV) : Prop where
  init : Ints w Ai t.init
  goal : Ints w Ag t.goal
  ops : OpsAt w Ao t.ops
  linit : lenOk t.init.length
  lgoal : lenOk t.goal.length
  lops : lenOk t.ops.length
theorem TaskMem.below {w w' : World} {Ai Ag Ao : Option Addr} {t : TaskV} (h : TaskMem w Ai Ag Ao t) (hb : Below w.heap.size w w') : TaskMem w' Ai Ag Ao t :=
  ⟨h.init.below hb, h.goal.below hb, h.ops.below hb, h.linit, h.lgoal, h.lops⟩

end Go.Proofs.Ytkepfmglljkjhaa

namespace Go.Proofs.Ytkepfmglljkjhaa
open Go.Joins Go.ChangeShapes Go.WideShapes Go.RowKit Go.Deep
set_option linter.unusedVariables false
set_option linter.unusedSimpArgs false

section
variable {H : Type} {enc : TypeId × Value → H} {P : Program} {w : World} {base : Nat} {spare : Nat → Bool} {held : Bool}
end

section
variable {H : Type} {enc : TypeId × Value → H} {w : World}
def In64 (n : Int) : Prop := -9223372036854775808 ≤ n ∧ n ≤ 9223372036854775807
theorem in64_of {n : Int} (h : (Lit.int .i64 n).wf = true) : In64 n := by
  have h2 := (Lit.wf_int_iff .i64 n).1 h
  have e1 : IntKind.i64.min = -9223372036854775808 := by decide
  have e2 : IntKind.i64.max = 9223372036854775807 := by decide
  rw [e1, e2] at h2
  exact h2
theorem read_ints {fuel : Nat} {cs : List Value} {x : DataW H × List MemPlace} (h : DataW.trod enc Try.prog w 0 (fun _ => true) true fuel 23 cs = some x) :
    ∃ A c xs, cs = [.slice A xs.length c] ∧ xs.length ≤ c ∧ lenOk c ∧ (A = none → xs = [] ∧ c = 0) ∧ Ints w A xs ∧ ∀ n ∈ xs, In64 n := by
  rcases open_ints Try.underlying23 Try.underlying3 (by kernel_rfl) h with ⟨rfl, rfl⟩ | ⟨a, len, cap, zs, rfl, hb, hl, hm, hz, hx, hc, hw⟩
  · exact ⟨none, 0, [], rfl, Nat.le_refl _, by unfold lenOk; omega, fun _ => ⟨rfl, rfl⟩, Ints.nil _ _, by simp⟩
  · simp only [if_true] at hz
    have hl' : (zs.take len).length = len := by rw [List.length_take]; omega
    refine ⟨some a, cap, zs.take len, by rw [hl'], by omega, by unfold lenOk; simp only [maxLen] at hm; omega, (fun h => by cases h), fun j u hu => ⟨a, rfl, ?_⟩, fun n hn => in64_of (hw n (List.mem_of_mem_take hn))⟩
    obtain ⟨hj, rfl⟩ := List.getElem?_eq_some_iff.1 hu
    rw [List.length_map, hl'] at hj
    rw [hc j (by omega)]
    simp [List.getD_eq_getElem?_getD, show j < zs.length by omega]
/-- Where the lists of an operator are nil, they have no room. -/
def NilOk (A : Option Addr) (xs : List Int) (c : Nat) : Prop := (A = none → xs = [] ∧ c = 0) ∧ xs.length ≤ c ∧ c ≤ 9223372036854775807
/-- All that is read of the operators. -/
def OpsRead (w : World) (A : Option Addr) (ops : List OpV) : Prop :=
  ∀ (k : Nat) (o : OpV), ops[k]? = some o → ∃ ad A0 c0 A1 c1 A2 c2, A = some ad ∧ w.cell? (ad.add (k * 4)) = some (.slice A0 o.pre.length c0) ∧ w.cell? ⟨(ad.add (k * 4)).block, (ad.add (k * 4)).off + 1, none⟩ = some (.slice A1 o.add.length c1) ∧
    w.cell? ⟨(ad.add (k * 4)).block, (ad.add (k * 4)).off + 2, none⟩ = some (.slice A2 o.del.length c2) ∧ w.cell? ⟨(ad.add (k * 4)).block, (ad.add (k * 4)).off + 3, none⟩ = some (.int .i64 o.cost) ∧ OpMem w A0 A1 A2 o ∧
    NilOk A0 o.pre c0 ∧ NilOk A1 o.add c1 ∧ NilOk A2 o.del c2 ∧ In64 o.cost
theorem OpsRead.at_ {A : Option Addr} {ops : List OpV} (h : OpsRead w A ops) : OpsAt w A ops := fun k o hk => by
  obtain ⟨ad, A0, c0, A1, c1, A2, c2, e, h0, h1, h2, h3, hm, _⟩ := h k o hk
  exact ⟨ad, A0, c0, A1, c1, A2, c2, e, h0, h1, h2, h3, hm⟩
end

end Go.Proofs.Ytkepfmglljkjhaa

namespace Go.Proofs.Ytkepfmglljkjhaa
open Go.RowKit
set_option linter.unusedVariables false
set_option linter.unusedSimpArgs false

theorem OwnI.cap_le {base n c : Nat} {w : World} {A : Option Addr} {xs : List Int} (h : OwnI base w (.slice A n c) xs) : n ≤ c := by
  rcases h.2 with ⟨h1, h2⟩ | ⟨g, cap, cur, h1, _, _, h3, _⟩
  · injection h1 with _ h3 h4; omega
  · injection h1 with _ h4 h5; omega
theorem OwnI.cap_max {base n c : Nat} {w : World} {A : Option Addr} {xs : List Int} (h : OwnI base w (.slice A n c) xs) : c ≤ 9223372036854775807 := by
  rcases h.2 with ⟨h1, h2⟩ | ⟨g, cap, cur, h1, _, _, h3, h4, _⟩
  · injection h1 with _ h3 h4; omega
  · injection h1 with _ h5 h6; simp only [maxLen] at h4; omega
theorem OwnI.len {base n c : Nat} {w : World} {A : Option Addr} {xs : List Int} (h : OwnI base w (.slice A n c) xs) : n = xs.length := by
  rcases h.2 with ⟨h1, h2⟩ | ⟨g, cap, cur, h1, _, _, h3, h4, _⟩
  · injection h1 with _ h3 h4; omega
  · injection h1 with _ h5 h6
theorem Ints.drop {w : World} {A : Option Addr} {xs : List Int} (h : Ints w A xs) (k : Nat) : Ints w (A.map (·.add k)) (xs.drop k) := fun j u hu => by
  rw [List.map_drop, List.getElem?_drop] at hu
  obtain ⟨ad, rfl, hc⟩ := h (k + j) u hu
  exact ⟨ad.add k, rfl, by rw [Go.Deep.add_add]; exact hc⟩
end Go.Proofs.Ytkepfmglljkjhaa

namespace Go.Proofs.Ytkepfmglljkjhaa
open Go.RowKit
set_option linter.unusedVariables false
set_option linter.unusedSimpArgs false

/-- How the cells of an element read (row: the block of the row that it lies in). -/
structure Stable {α : Type} (P : World → Option Nat → List Value → α → Prop) : Prop where
  below : ∀ {w w' : World} {row : Option Nat} {cs : List Value} {a : α}, P w row cs a → Below w.heap.size w w' → P w' row cs a
  grown : ∀ {w w' : World} {row : Option Nat} {cs : List Value} {a : α}, P w row cs a → w.grownBy w' row → P w' row cs a ∧ P w' (some w.heap.size) cs a
def OwnEs {α : Type} (P : World → Option Nat → List Value → α → Prop) (e : TypeId) (size base : Nat) (w : World) (v : Value) (els : List α) : Prop :=
  ∃ cells, w.ownsRow base e size v els.length cells ∧ ∀ i a, els[i]? = some a → P w v.ownBlock ((cells.drop (i * size)).take size) a
section
variable {α : Type} {P : World → Option Nat → List Value → α → Prop} {e : TypeId} {size base : Nat} {w w' : World} {v : Value} {els : List α}
theorem OwnEs.nil (base : Nat) (w : World) : OwnEs P e size base w (.slice none 0 0) [] := ⟨[], World.ownsRow_nil w base _ _, fun i a h => by simp at h⟩
theorem OwnEs.below (hP : Stable P) (h : OwnEs P e size base w v els) (hb : Below w.heap.size w w') : OwnEs P e size base w' v els := by
  obtain ⟨cells, h1, h2⟩ := h
  exact ⟨cells, own_below h1 hb, fun i a ha => hP.below (h2 i a ha) hb⟩
theorem OwnEs.mono {base' : Nat} (h : OwnEs P e size base w v els) (hb : base' ≤ base) : OwnEs P e size base' w v els := by
  obtain ⟨cells, ⟨h1, h2⟩, h3⟩ := h
  refine ⟨cells, ⟨h1, ?_⟩, h3⟩
  rcases h2 with h2 | ⟨g, cap, cur, hv, hg, r⟩
  · exact Or.inl h2
  · exact Or.inr ⟨g, cap, cur, hv, by omega, r⟩
theorem OwnEs.form (h : OwnEs P e size base w v els) : ∃ A c, v = .slice A els.length c := by
  obtain ⟨cells, ⟨h1, h2⟩, h3⟩ := h
  rcases h2 with ⟨h2, h4⟩ | ⟨g, cap, cur, hv, r⟩
  · exact ⟨none, 0, by rw [h4]; exact h2⟩
  · exact ⟨_, _, hv⟩
theorem OwnEs.lt (h : OwnEs P e size base w v els) : ∀ k, v.ownBlock = some k → base ≤ k ∧ k < w.heap.size := by
  obtain ⟨cells, h1, _⟩ := h
  exact h1.lt
theorem OwnEs.at_ {A : Option Addr} {n c i : Nat} (h : OwnEs P e size base w (.slice A n c) els) (hi : i < els.length) :
    ∃ g cs a, A = some ⟨g, 0, none⟩ ∧ base ≤ g ∧ g < w.heap.size ∧ Hid (els[i]? = some a) ∧ cs.length = size ∧ (∀ j u, cs[j]? = some u → w.cell? ⟨g, i * size + j, none⟩ = some u) ∧ P w (some g) cs a := by
  obtain ⟨cells, h1, h3⟩ := h
  have h0 := h1
  rcases h1.2 with ⟨h2, h4⟩ | ⟨g, cap, cur, hv, hb, hg, r⟩
  · omega
  · injection hv with e1 e2 e3
    subst e1; subst e2; subst e3
    have hlt : g < w.heap.size := by
      rcases Nat.lt_or_ge g w.heap.size with hl | hl
      · exact hl
      · rw [Array.getElem?_eq_none hl] at hg; cases hg
    have hl := h0.1
    have hle : i * size + size ≤ els.length * size := by
      have := Nat.mul_le_mul_right size (show i + 1 ≤ els.length from hi)
      rw [Nat.succ_mul] at this; exact this
    refine ⟨g, (cells.drop (i * size)).take size, els[i], rfl, hb, hlt, Lib.hid (List.getElem?_eq_getElem hi), ?_, fun j u hu => ?_, h3 i _ (List.getElem?_eq_getElem hi)⟩
    · rw [List.length_take, List.length_drop]; omega
    · have hj : j < size := by
        have := (List.getElem?_eq_some_iff.1 hu).1
        rw [List.length_take] at this; omega
      rw [List.getElem?_take_of_lt hj, List.getElem?_drop] at hu
      rw [World.ownsRow.cellAt h0 _ (by omega)]
      exact hu
theorem OwnEs.free {A : Option Addr} {n c g : Nat} (h : OwnEs P e size base w (.slice (some ⟨g, 0, none⟩) n c) els) (j : Nat) : w.frozen? ⟨g, j, none⟩ = false := by
  obtain ⟨cells, h1, _⟩ := h
  rcases h1.2 with ⟨h2, h4⟩ | ⟨g', cap, cur, hv, hb, hg, r⟩
  · cases h2
  · injection hv with e1 e2 e3
    injection e1 with e1
    injection e1 with e1
    subst e1
    simp [World.frozen?, hg]
theorem OwnEs.far (h : OwnEs P e size base w v els) (hP : ∀ {w : World} {row : Option Nat} {cs : List Value} {a : α} {p : Addr} {u : Value}, P w row cs a → p.block < base → P (w.setCell p u) row cs a) {p : Addr} (hp : p.block < base) (u : Value) : OwnEs P e size base (w.setCell p u) v els := by
  obtain ⟨cells, ⟨h1, h2⟩, h3⟩ := h
  refine ⟨cells, ⟨h1, ?_⟩, fun i a ha => hP (h3 i a ha) hp⟩
  rcases h2 with h2 | ⟨g, cap, cur, hv, hg, hh, r⟩
  · exact Or.inl h2
  · exact Or.inr ⟨g, cap, cur, hv, hg, (Below.heap_setCell w p u g (fun e => by omega)).trans hh, r⟩
set_option maxRecDepth 100000 in
/-- append(v, x) of one element whose cells lie at ad. -/
theorem wpList_el (hP : Stable P) (T : TypeId) (bytes : Nat) (z : Value) (hT : Try.prog.underlying T = some (.slice e)) (hinf : (Try.prog.info? e).map (fun i => (i.zero, i.size, i.bytes)) = some (some z, size, bytes)) (hzs : z.cells.size = size) (hsz : 0 < size) (hby : bytes ≤ 64)
    {ops : Array Oper} {rest : List Oper} {o : Oper} {a : Act} {Q : Exit → Act → World → Prop} (hgd : o.guard = none) (s x : Operand)
    (ho : o.op = .call { callee := .builtin .append, args := #[s, x], argTypes := #[T, T] })
    (w0 : World) (l : List (Nat × Nat × Value)) (hs : a.eval s = v) (hown : OwnEs P e size base w v els) (ad : Addr) (m : Nat) (hx : a.eval x = .slice (some ad) 1 m) (news : List Value) (y : α) (hnl : news.length = size) (hnews : ∀ j u, news[j]? = some u → w.cell? (ad.add j) = some u) (h1 : ∀ u ∈ news, u.oneCell' = true) (hy : P w v.ownBlock news y)
    (hlen : els.length < 1000000000000) (hbase : base ≤ w.heap.size) (h0 : w0.heap.size ≤ base) (hB : Below w0.heap.size w0 w) (hC : Cls w l) (hl : ∀ x ∈ l, x.1 < base)
    (h : ∀ v' w', OwnEs P e size base w' v' (els ++ [y]) → Below w0.heap.size w0 w' → Cls w' l → w.heap.size ≤ w'.heap.size → w.grownBy w' v.ownBlock → (v'.ownBlock = v.ownBlock ∨ v'.ownBlock = some w.heap.size) → wpList Try.prog ops Q rest (a.put o.dst v') w') :
    wpList Try.prog ops Q (o :: rest) a w := by
  obtain ⟨i0, hi0, hz⟩ := Option.map_eq_some_iff.1 hinf
  simp only [Prod.mk.injEq] at hz
  obtain ⟨cells, hr, hcs⟩ := hown
  have hcl := hr.1
  refine wpList_append_own_at w hgd s x T ho base e i0 z size bytes hT hi0 hz.1 hz.2.1 hz.2.2 hzs hsz v els.length cells hs hr ad 1 m news hx (by omega) hnews h1 ?_ ?_ hbase ?_
  · simp only [maxLen]; omega
  · have := Nat.mul_le_mul_left (els.length + 1) hby
    omega
  · intro v' w' h2 h3 _ h4
    refine h v' w' ⟨cells ++ news, by rw [List.length_append]; exact h2, fun i a ha => ?_⟩ ?_ ?_ h3.size h3 h4
    · have key : ∀ {cs : List Value} {a : α}, P w v.ownBlock cs a → P w' v'.ownBlock cs a := fun hp => by
        rcases h4 with h4 | h4
        · rw [h4]; exact (hP.grown hp h3).1
        · rw [h4]; exact (hP.grown hp h3).2
      rcases Nat.lt_or_ge i els.length with hi | hi
      · rw [List.getElem?_append_left hi] at ha
        have hle : i * size + size ≤ els.length * size := by
          have := Nat.mul_le_mul_right size (show i + 1 ≤ els.length from hi)
          rw [Nat.succ_mul] at this; exact this
        have e1 : ((cells ++ news).drop (i * size)).take size = (cells.drop (i * size)).take size := by
          rw [List.drop_append_of_le_length (by omega), List.take_append_of_le_length (by rw [List.length_drop]; omega)]
        rw [e1]
        exact key (hcs i a ha)
      · have hie : i = els.length := by
          have := (List.getElem?_eq_some_iff.1 ha).1
          rw [List.length_append] at this
          simp at this; omega
        subst hie
        rw [List.getElem?_append_right (Nat.le_refl _)] at ha
        simp at ha
        subst ha
        have e1 : ((cells ++ news).drop (els.length * size)).take size = news := by
          rw [← hcl, List.drop_left, List.take_of_length_le (by omega)]
        rw [e1]
        exact key hy
    · exact hB.grown h3 (Nat.le_trans h0 hbase) (fun k hk => Nat.le_trans h0 (hr.lt k hk).1)
    · exact hC.grown hr h3 hl
end

theorem OwnI.blk_ {base n c : Nat} {w : World} {A : Option Addr} {xs : List Int} (h : OwnI base w (.slice A n c) xs) : ∀ ad, A = some ad → base ≤ ad.block ∧ ad.block < w.heap.size := fun ad e => by
  subst e
  exact h.lt ad.block rfl
theorem cells_one {w : World} {ad : Addr} {v : Value} (h : w.cell? ad = some v) : ∀ j u, [v][j]? = some u → w.cell? (ad.add j) = some u := fun j u hu => by
  cases j with
  | zero => simp at hu; subst hu; exact h
  | succ j => simp at hu
theorem cells_two {w : World} {g : Nat} {v u : Value} (h : w.cell? ⟨g, 0, none⟩ = some v) (h1 : w.cell? ⟨g, 1, none⟩ = some u) : ∀ j x, [v, u][j]? = some x → w.cell? ((⟨g, 0, none⟩ : Addr).add j) = some x := fun j x hx => by
  cases j with
  | zero => simp at hx; subst hx; exact h
  | succ j =>
    cases j with
    | zero => simp at hx; subst hx; exact h1
    | succ j => simp at hx
/-- A cell that leads to a list of integers. -/
def PList (B : Nat) (w : World) (row : Option Nat) (cs : List Value) (r : List Int) : Prop :=
  ∃ A c, cs = [.slice A r.length c] ∧ Ints w A r ∧ (A = none → r = [] ∧ c = 0) ∧ r.length ≤ c ∧ c ≤ 9223372036854775807 ∧ ∀ ad, A = some ad → some ad.block ≠ row ∧ ad.block < w.heap.size ∧ B ≤ ad.block
theorem Ints.grown {w w' : World} {A : Option Addr} {xs : List Int} {row : Option Nat} (h : Ints w A xs) (hg : w.grownBy w' row) (hne : ∀ ad, A = some ad → some ad.block ≠ row) : Ints w' A xs := fun j u hu => by
  obtain ⟨ad, e, hc⟩ := h j u hu
  exact ⟨ad, e, hg.cell hc (by rw [add_block]; exact hne ad e)⟩
theorem plist_stable (B : Nat) : Stable (PList B) := by
  constructor
  · rintro w w' row cs r ⟨A, c, e, hI, hn, h1, h2, ha⟩ hb
    exact ⟨A, c, e, hI.below hb, hn, h1, h2, fun ad h => ⟨(ha ad h).1, Nat.lt_of_lt_of_le (ha ad h).2.1 hb.size, (ha ad h).2.2⟩⟩
  · rintro w w' row cs r ⟨A, c, e, hI, hn, h1, h2, ha⟩ hg
    have hI' := hI.grown hg (fun ad h => (ha ad h).1)
    exact ⟨⟨A, c, e, hI', hn, h1, h2, fun ad h => ⟨(ha ad h).1, Nat.lt_of_lt_of_le (ha ad h).2.1 hg.size, (ha ad h).2.2⟩⟩,
      ⟨A, c, e, hI', hn, h1, h2, fun ad h => ⟨fun e => by injection e with e; have := (ha ad h).2.1; omega, Nat.lt_of_lt_of_le (ha ad h).2.1 hg.size, (ha ad h).2.2⟩⟩⟩
theorem Ints.far {w : World} {A : Option Addr} {xs : List Int} (h : Ints w A xs) {p : Addr} (hp : ∀ ad, A = some ad → ad.block ≠ p.block) (u : Value) : Ints (w.setCell p u) A xs := fun j x hx => by
  obtain ⟨ad, e, hc⟩ := h j x hx
  refine ⟨ad, e, ?_⟩
  rw [World.cell?_setCell_other w p (ad.add j) u (fun k => hp ad e (by rw [k, add_block]))]
  exact hc
theorem plist_far {B : Nat} {w : World} {row : Option Nat} {cs : List Value} {r : List Int} {p : Addr} {u : Value} (h : PList B w row cs r) (hp : p.block < B) : PList B (w.setCell p u) row cs r := by
  obtain ⟨A, c, e, hI, hn, h1, h2, ha⟩ := h
  refine ⟨A, c, e, hI.far (fun ad h => by have := (ha ad h).2.2; omega) u, hn, h1, h2, fun ad h => ⟨(ha ad h).1, ?_, (ha ad h).2.2⟩⟩
  have := (ha ad h).2.1
  simpa using this
/-- A list of lists of the call's own. -/
def OwnLL (base : Nat) (w : World) (v : Value) (rows : List (List Int)) : Prop := OwnEs (PList base) 23 1 base w v rows
theorem OwnLL.far {base : Nat} {w : World} {v : Value} {rows : List (List Int)} (h : OwnLL base w v rows) {p : Addr} (hp : p.block < base) (u : Value) : OwnLL base (w.setCell p u) v rows :=
  OwnEs.far h (fun h hp => plist_far h hp) hp u
theorem OwnLL.below {base : Nat} {w w' : World} {v : Value} {rows : List (List Int)} (h : OwnLL base w v rows) (hb : Below w.heap.size w w') : OwnLL base w' v rows := OwnEs.below (plist_stable _) h hb
theorem info_list : (Try.prog.info? 23).map (fun i => (i.zero, i.size, i.bytes)) = some (some (.slice none 0 0), 1, 24) := by kernel_rfl
theorem Arr.grown {w w' : World} {g : Nat} {e : TypeId} {xs : List Value} {row : Option Nat} (h : Arr w g e xs) (hg : w.grownBy w' row) (hne : row ≠ some g) : Arr w' g e xs := (hg.block g h.lt (fun e => hne e.symm)).trans h


end Go.Proofs.Ytkepfmglljkjhaa

namespace Go.Proofs.Ytkepfmglljkjhaa
open Go.RowKit
set_option linter.unusedVariables false
set_option linter.unusedSimpArgs false

/-- A list in memory of its own, from block B on. -/
def Fresh (B : Nat) (w : World) (A : Option Addr) (c : Nat) (xs : List Int) : Prop := PList B w none [.slice A xs.length c] xs
theorem Fresh.below {B : Nat} {w w' : World} {A : Option Addr} {c : Nat} {xs : List Int} (h : Fresh B w A c xs) (hb : Below w.heap.size w w') : Fresh B w' A c xs := (plist_stable B).below h hb
theorem Fresh.ints {B : Nat} {w : World} {A : Option Addr} {c : Nat} {xs : List Int} (h : Fresh B w A c xs) : Ints w A xs := by
  obtain ⟨A', c', e, hI, _⟩ := h
  injection e with e
  injection e with e1 e2 e3
  rw [e1]; exact hI
theorem Fresh.mono {B B' : Nat} {w : World} {A : Option Addr} {c : Nat} {xs : List Int} (h : Fresh B w A c xs) (hb : B' ≤ B) : Fresh B' w A c xs := by
  obtain ⟨A', c', e, hI, hn, h1, h2, h3⟩ := h
  exact ⟨A', c', e, hI, hn, h1, h2, fun ad he => ⟨(h3 ad he).1, (h3 ad he).2.1, by have := (h3 ad he).2.2; omega⟩⟩
end Go.Proofs.Ytkepfmglljkjhaa
