/-
  strips.Can, Next, Steps, PlanFault; R.StepsFault, R.PlanFault: what they return.
  Several own rows side by side; the states that are reached from a state: plain and in memory.
  A law's argument of type [][]int, as the walk wants it.
  Rows of lists that lie anywhere: append of a whole [][]int, of one list; the reading of an argument [][]int with its size.
  The memory of a tableau.
  linear.vector: a vector without common divisors.
  (*tableau).point: the values of the variables in a column.
  linear.Validate: the fault of a linear program.
-/
import Derived.Test.YtkepfmglljkjhaaS2
import Derived.Test.YtkepfmglljkjhaaChecked
import Derived.Test.YtkepfmglljkjhaaS3
import Derived.Shelf.Sort.Plain
import Derived.Shelf.Slices.CompactI
import Derived.Shelf.Slices.In.SortNone
import Derived.Sort.OwnSortedInts
import Derived.SizedLaws
import Derived.Test.YtkepfmglljkjhaaS5
namespace Go.Proofs.Ytkepfmglljkjhaa
open Go.RowKit
set_option linter.unusedVariables false
set_option linter.unusedSimpArgs false

theorem OpsRead.below {w w' : World} {A : Option Addr} {ops : List OpV} (h : OpsRead w A ops) (hb : Below w.heap.size w w') : OpsRead w' A ops := fun k o hk => by
  obtain ⟨ad, A0, c0, A1, c1, A2, c2, e, h0, h1, h2, h3, hm, hr⟩ := h k o hk
  exact ⟨ad, A0, c0, A1, c1, A2, c2, e, (hb.cell (World.block_lt_of_cell? w _ h0)).trans h0, (hb.cell (World.block_lt_of_cell? w _ h1)).trans h1, (hb.cell (World.block_lt_of_cell? w _ h2)).trans h2, (hb.cell (World.block_lt_of_cell? w _ h3)).trans h3, hm.below hb, hr⟩
theorem OpsRead.at2 {w w' : World} {A : Option Addr} {ops : List OpV} {k : Nat} (h : OpsRead w A ops) (hb : Below w.heap.size w w') (hk : k < ops.length) : ∃ ad o A0 c0 A1 c1 A2 c2, A = some ad ∧ Hid (ops[k]? = some o) ∧ w'.cell? (ad.add (k * 4)) = some (.slice A0 o.pre.length c0) ∧ w'.cell? ⟨(ad.add (k * 4)).block, (ad.add (k * 4)).off + 1, none⟩ = some (.slice A1 o.add.length c1) ∧
    w'.cell? ⟨(ad.add (k * 4)).block, (ad.add (k * 4)).off + 2, none⟩ = some (.slice A2 o.del.length c2) ∧ w'.cell? ⟨(ad.add (k * 4)).block, (ad.add (k * 4)).off + 3, none⟩ = some (.int .i64 o.cost) ∧ OpMem w A0 A1 A2 o ∧ Hid (A1 = none → c1 = 0) := by
  obtain ⟨ad, A0, c0, A1, c1, A2, c2, e, h0, h1, h2, h3, hm, hr⟩ := h k _ (List.getElem?_eq_getElem hk)
  exact ⟨ad, ops[k], A0, c0, A1, c1, A2, c2, e, Lib.hid (List.getElem?_eq_getElem hk), (hb.cell (World.block_lt_of_cell? w _ h0)).trans h0, (hb.cell (World.block_lt_of_cell? w _ h1)).trans h1, (hb.cell (World.block_lt_of_cell? w _ h2)).trans h2, (hb.cell (World.block_lt_of_cell? w _ h3)).trans h3, hm, Lib.hid (fun e => (hr.2.1.1 e).2)⟩
end Go.Proofs.Ytkepfmglljkjhaa

namespace Go.Proofs.Ytkepfmglljkjhaa
open Go.RowKit
set_option linter.unusedVariables false
set_option linter.unusedSimpArgs false

/-! ### Rows side by side -/
def Sep (u v : Value) : Prop := ∀ k, u.ownBlock = some k → v.ownBlock ≠ some k
theorem Sep.symm {u v : Value} (h : Sep u v) : Sep v u := fun k h1 h2 => h k h2 h1
theorem sep_nil (v : Value) : Sep (.slice none 0 0) v := fun k h => by cases h
theorem Sep.next {u v v' : Value} {K : Nat} (h : Sep u v) (hv : v'.ownBlock = v.ownBlock ∨ v'.ownBlock = some K) (hu : ∀ k, u.ownBlock = some k → k < K) : Sep u v' := fun k h1 h2 => by
  rcases hv with e | e
  · exact h k h1 (by rw [← e]; exact h2)
  · rw [e] at h2; injection h2 with h2; have := hu k h1; omega
theorem own_grown_i {base : Nat} {w w' : World} {v u : Value} {xs : List Int} (h : OwnI base w v xs) (hg : w.grownBy w' u.ownBlock) (hne : Sep u v) : OwnI base w' v xs := by
  obtain ⟨h1, h2⟩ := h
  refine ⟨h1, ?_⟩
  rcases h2 with h2 | ⟨g, cap, cur, hv, hb, hh, r⟩
  · exact Or.inl h2
  · refine Or.inr ⟨g, cap, cur, hv, hb, (hg.block g ?_ (fun e => hne g e.symm (by rw [hv]; rfl))).trans hh, r⟩
    rcases Nat.lt_or_ge g w.heap.size with hl | hl
    · exact hl
    · rw [Array.getElem?_eq_none hl] at hh; cases hh
/-- append(v, y): what it does to the rows beside it. -/
theorem wpList_push_at {ops : Array Oper} {rest : List Oper} {o : Oper} {a : Act} {w : World} {Q : Exit → Act → World → Prop} (hgd : o.guard = none) (s x : Operand)
    (ho : o.op = .call { callee := .builtin .append, args := #[s, x], argTypes := #[23, 23] })
    (w0 : World) (l : List (Nat × Nat × Value)) (base : Nat) (v : Value) (xs : List Int) (y : Int) (hs : a.eval s = v) (hown : OwnI base w v xs) (ad : Addr) (m : Nat) (hx : a.eval x = .slice (some ad) 1 m) (hc : w.cell? ad = some (.int .i64 y))
    (hlen : xs.length < 1000000000000) (hbase : base ≤ w.heap.size) (h0 : w0.heap.size ≤ base) (hB : Below w0.heap.size w0 w) (hC : Cls w l) (hl : ∀ x ∈ l, x.1 < base)
    (h : ∀ v' w', OwnI base w' v' (xs ++ [y]) → Below w0.heap.size w0 w' → Cls w' l → w.heap.size ≤ w'.heap.size → w.grownBy w' v.ownBlock → (v'.ownBlock = v.ownBlock ∨ v'.ownBlock = some w.heap.size) → wpList Try.prog ops Q rest (a.put o.dst v') w') : wpList Try.prog ops Q (o :: rest) a w := by
  obtain ⟨i0, hi0, hz⟩ := Option.map_eq_some_iff.1 info_int
  simp only [Prod.mk.injEq] at hz
  have hown' : w.ownsRow base 3 1 v xs.length (xs.map (Value.int .i64)) := hown
  refine wpList_append_own_at w hgd s x 23 ho base 3 i0 (.int .i64 0) 1 8 Try.underlying23 hi0 hz.1 hz.2.1 hz.2.2 rfl (by decide) v xs.length (xs.map (Value.int .i64)) hs hown' ad 1 m [.int .i64 y] hx rfl ?_ ?_ ?_ ?_ hbase ?_
  · intro j u hu
    cases j with
    | zero => simp at hu; subst hu; rw [add_zero]; exact hc
    | succ j => simp at hu
  · intro u hu; simp at hu; subst hu; rfl
  · simp only [maxLen]; omega
  · omega
  · intro v' w' h1 h2 _ h4
    refine h v' w' ?_ (own_grown hB (OwnI.mono hown h0) h2 (Nat.le_trans h0 hbase)) (hC.grown hown' h2 hl) h2.size h2 h4
    unfold OwnI
    rw [List.length_append, List.map_append]
    exact h1
/-! ### A row of lists beside a row of integers -/
/-- The element leads to a list that lies apart from block u. -/
def PWl (u : Option Nat) (w : World) (row : Option Nat) (cs : List Value) (r : List Int) : Prop := ∃ A c, cs = [.slice A r.length c] ∧ Ints w A r ∧ (r ≠ [] → ∀ ad, A = some ad → some ad.block ≠ row ∧ some ad.block ≠ u ∧ ad.block < w.heap.size)
theorem ints_emp {w : World} {A : Option Addr} {r : List Int} (h : r = []) : Ints w A r := by subst h; exact Ints.nil _ _
theorem pwl_stable (u : Option Nat) : Stable (PWl u) := by
  constructor
  · rintro w w' row cs r ⟨A, c, e, hI, hn⟩ hb
    exact ⟨A, c, e, hI.below hb, fun h ad he => ⟨(hn h ad he).1, (hn h ad he).2.1, Nat.lt_of_lt_of_le (hn h ad he).2.2 hb.size⟩⟩
  · rintro w w' row cs r ⟨A, c, e, hI, hn⟩ hg
    have hI' : Ints w' A r := by
      by_cases h : r = []
      · exact ints_emp h
      · exact Ints.grown hI hg (fun ad he => (hn h ad he).1)
    refine ⟨⟨A, c, e, hI', fun h ad he => ⟨(hn h ad he).1, (hn h ad he).2.1, Nat.lt_of_lt_of_le (hn h ad he).2.2 hg.size⟩⟩, ⟨A, c, e, hI', fun h ad he => ⟨fun hc => ?_, (hn h ad he).2.1, Nat.lt_of_lt_of_le (hn h ad he).2.2 hg.size⟩⟩⟩
    injection hc with hc
    have := (hn h ad he).2.2
    omega
def OwnW (u : Option Nat) (base : Nat) (w : World) (v : Value) (ls : List (List Int)) : Prop := OwnEs (PWl u) 23 1 base w v ls
theorem OwnW.below {u : Option Nat} {base : Nat} {w w' : World} {v : Value} {ls : List (List Int)} (h : OwnW u base w v ls) (hb : Below w.heap.size w w') : OwnW u base w' v ls := OwnEs.below (pwl_stable u) h hb
/-- The row of integers is appended to. -/
theorem OwnW.other {u u' : Option Nat} {base : Nat} {w w' : World} {v : Value} {ls : List (List Int)} (h : OwnW u base w v ls) (hg : w.grownBy w' u) (hne : ∀ k, u = some k → v.ownBlock ≠ some k) (hu : u' = u ∨ u' = some w.heap.size) : OwnW u' base w' v ls := by
  obtain ⟨cells, ⟨h1, h2⟩, h3⟩ := h
  refine ⟨cells, ⟨h1, ?_⟩, fun i a ha => ?_⟩
  · rcases h2 with h2 | ⟨g, cap, cur, hv, hb, hh, r⟩
    · exact Or.inl h2
    · refine Or.inr ⟨g, cap, cur, hv, hb, (hg.block g ?_ (fun e => hne g e.symm (by rw [hv]; rfl))).trans hh, r⟩
      rcases Nat.lt_or_ge g w.heap.size with hl | hl
      · exact hl
      · rw [Array.getElem?_eq_none hl] at hh; cases hh
  · obtain ⟨A, c, e, hI, hn⟩ := h3 i a ha
    have hI' : Ints w' A a := by
      by_cases h : a = []
      · exact ints_emp h
      · exact Ints.grown hI hg (fun ad he => (hn h ad he).2.1)
    refine ⟨A, c, e, hI', fun h ad he => ⟨(hn h ad he).1, fun hc => ?_, Nat.lt_of_lt_of_le (hn h ad he).2.2 hg.size⟩⟩
    rcases hu with hu | hu
    · rw [hu] at hc; exact (hn h ad he).2.1 hc
    · rw [hu] at hc
      injection hc with hc
      have := (hn h ad he).2.2
      omega
/-- A slice of lists that is only read. -/
def LLR (w : World) (A : Option Addr) (ls : List (List Int)) : Prop := ∀ (i : Nat) (r : List Int), ls[i]? = some r → ∃ ad B c, A = some ad ∧ w.cell? (ad.add i) = some (.slice B r.length c) ∧ Ints w B r
theorem LLR.below {w w' : World} {A : Option Addr} {ls : List (List Int)} (h : LLR w A ls) (hb : Below w.heap.size w w') : LLR w' A ls := fun i r hr => by
  obtain ⟨ad, B, c, e, h1, h2⟩ := h i r hr
  exact ⟨ad, B, c, e, (hb.cell (World.block_lt_of_cell? w _ h1)).trans h1, h2.below hb⟩
theorem LLR.at_ {w : World} {A : Option Addr} {ls : List (List Int)} {k : Nat} (h : LLR w A ls) (hk : k < ls.length) : ∃ ad r B c, A = some ad ∧ Hid (ls[k]? = some r) ∧ w.cell? (ad.add k) = some (.slice B r.length c) ∧ Ints w B r := by
  obtain ⟨ad, B, c, e, h1, h2⟩ := h k _ (List.getElem?_eq_getElem hk)
  exact ⟨ad, _, B, c, e, Lib.hid (List.getElem?_eq_getElem hk), h1, h2⟩
theorem OwnW.llr {u : Option Nat} {base n c : Nat} {w : World} {A : Option Addr} {ls : List (List Int)} (h : OwnW u base w (.slice A n c) ls) : LLR w A ls := fun i r hr => by
  obtain ⟨g, cs, a, rfl, _, _, ha, _, hc, B, c', rfl, hI, _⟩ := OwnEs.at_ h (i := i) (List.getElem?_eq_some_iff.1 hr).1
  have : a = r := by have := ha.out; rw [hr] at this; injection this with this; exact this.symm
  subst this
  refine ⟨⟨g, 0, none⟩, B, c', rfl, ?_, hI⟩
  have h1 := hc 0 _ rfl
  rw [Nat.mul_one, Nat.add_zero] at h1
  have e : (⟨g, 0, none⟩ : Addr).add i = ⟨g, i, none⟩ := by
    unfold Addr.add
    split
    · rename_i hj; rw [hj]
    · simp
  rw [e]; exact h1
/-! ### The reached states -/
inductive Rch (n : Nat) (ops : List OpV) (s : List Int) : List Int → Prop
  | init : Rch n ops s s
  | step {r : List Int} {op : Nat} : Rch n ops s r → op < ops.length → CanV ops r (op : Int) → Rch n ops s (nextV n r (opAt ops (op : Int)))
structure RSt (n : Nat) (ops : List OpV) (st : List Int) (ls : List (List Int)) (k p : Nat) : Prop where
  head : ls[0]? = some st
  set : ∀ l ∈ ls, SetP l (n : Int)
  rch : ∀ l ∈ ls, Rch n ops st l
  nodup : ls.Nodup
  done : ∀ (j q : Nat) (l : List Int), (j < k ∨ (j = k ∧ q < p)) → q < ops.length → ls[j]? = some l → CanV ops l (q : Int) → nextV n l (opAt ops (q : Int)) ∈ ls
section
variable {n : Nat} {ops : List OpV} {st : List Int} {ls : List (List Int)} {k p : Nat}
theorem RSt.start (h : SetP st (n : Int)) : RSt n ops st [st] 0 0 := ⟨rfl, fun l hl => by rw [List.mem_singleton.1 hl]; exact h, fun l hl => by rw [List.mem_singleton.1 hl]; exact .init, by simp, fun j q l h => by omega⟩
theorem RSt.skip (h : RSt n ops st ls k p) {r : List Int} (hr : ls[k]? = some r) (hc : CanV ops r (p : Int) → nextV n r (opAt ops (p : Int)) ∈ ls) : RSt n ops st ls k (p + 1) :=
  ⟨h.head, h.set, h.rch, h.nodup, fun j q l hjq hq hl hcan => by
    by_cases e : j = k ∧ q = p
    · obtain ⟨rfl, rfl⟩ := e
      rw [hr] at hl
      injection hl with hl
      subst hl
      exact hc hcan
    · exact h.done j q l (by omega) hq hl hcan⟩
theorem RSt.add (h : RSt n ops st ls k p) {r : List Int} (hr : ls[k]? = some r) (hp : p < ops.length) (hc : CanV ops r (p : Int)) (hn : nextV n r (opAt ops (p : Int)) ∉ ls) : RSt n ops st (ls ++ [nextV n r (opAt ops (p : Int))]) k (p + 1) := by
  have hk := (List.getElem?_eq_some_iff.1 hr).1
  refine ⟨?_, fun l hl => ?_, fun l hl => ?_, ?_, fun j q l hjq hq hl hcan => ?_⟩
  · rw [List.getElem?_append_left (by omega)]; exact h.head
  · rcases List.mem_append.1 hl with e | e
    · exact h.set l e
    · rw [List.mem_singleton.1 e]; exact nextV_set n r _
  · rcases List.mem_append.1 hl with e | e
    · exact h.rch l e
    · rw [List.mem_singleton.1 e]; exact .step (h.rch r (List.mem_of_getElem? hr)) hp hc
  · rw [List.nodup_append]
    exact ⟨h.nodup, by simp, fun a ha b hb => by rw [List.mem_singleton.1 hb]; intro e; exact hn (e ▸ ha)⟩
  · rw [List.getElem?_append_left (by omega)] at hl
    by_cases e : j = k ∧ q = p
    · obtain ⟨rfl, rfl⟩ := e
      rw [hr] at hl
      injection hl with hl
      subst hl
      exact List.mem_append_right _ (List.mem_singleton.2 rfl)
    · exact List.mem_append_left _ (h.done j q l (by omega) hq hl hcan)
theorem RSt.row (h : RSt n ops st ls k p) (hp : ops.length ≤ p) : RSt n ops st ls (k + 1) 0 := ⟨h.head, h.set, h.rch, h.nodup, fun j q l hjq hq hl hc => h.done j q l (by omega) hq hl hc⟩
end

end Go.Proofs.Ytkepfmglljkjhaa

namespace Go.Proofs.Ytkepfmglljkjhaa
open Go.Joins Go.ChangeShapes Go.WideShapes Go.RowKit Go.Deep
set_option linter.unusedVariables false
set_option linter.unusedSimpArgs false

section
variable {H : Type} {enc : TypeId × Value → H} {w : World}
/-- All that is read of rows. -/
def RowsRead (w : World) (A : Option Addr) (ls : List (List Int)) : Prop := ∀ (i : Nat) (r : List Int), ls[i]? = some r → ∃ ad B c, A = some ad ∧ w.cell? (ad.add i) = some (.slice B r.length c) ∧ Ints w B r ∧ NilOk B r c
theorem RowsRead.llr {A : Option Addr} {ls : List (List Int)} (h : RowsRead w A ls) : LLR w A ls := fun i r hr => by
  obtain ⟨ad, B, c, e, h1, h2, _⟩ := h i r hr
  exact ⟨ad, B, c, e, h1, h2⟩
theorem RowsRead.lens {A : Option Addr} {ls : List (List Int)} (h : RowsRead w A ls) : ∀ s ∈ ls, s.length ≤ 9223372036854775807 := fun s hs => by
  obtain ⟨i, hi⟩ := List.getElem?_of_mem hs
  obtain ⟨_, _, _, _, _, _, h3⟩ := h i s hi
  exact Nat.le_trans h3.2.1 h3.2.2
theorem read_rows {fuel : Nat} {cs : List Value} {x : DataW H × List MemPlace} (h : DataW.trod enc Try.prog w 0 (fun _ => true) true fuel 22 cs = some x) :
    ∃ A c ls, cs = [.slice A ls.length c] ∧ ls.length ≤ c ∧ lenOk c ∧ (A = none → ls = [] ∧ c = 0) ∧ RowsRead w A ls := by
  rcases open_slice1 Try.underlying22 (by kernel_rfl) h with ⟨rfl, rfl⟩ | ⟨a, len, cap, m, n, V, D, Pl, rfl, hb, hl, hm, hmm, hx, hi⟩
  · exact ⟨none, 0, [], rfl, Nat.le_refl _, by unfold lenOk; omega, fun _ => ⟨rfl, rfl⟩, fun k o hk => by simp at hk⟩
  · simp only [if_true] at hmm
    subst hmm
    have each : ∀ i : Nat, ∃ r : List Int, i < m → ∃ B c, w.cell? (a.add i) = some (.slice B r.length c) ∧ Ints w B r ∧ NilOk B r c := by
      intro i
      by_cases him : i < m
      · obtain ⟨hc, t0⟩ := hi i him
        obtain ⟨B, c, r, e0, q0, m0, n0, I0, _⟩ := read_ints t0
        injection e0 with e0
        rw [e0] at hc
        exact ⟨r, fun _ => ⟨B, c, hc, I0, n0, q0, m0⟩⟩
      · exact ⟨[], fun h => absurd h him⟩
    obtain ⟨f, hf⟩ := Classical.axiomOfChoice each
    refine ⟨some a, m, (List.range len).map f, by simp, by simpa using hl, by unfold lenOk; simp only [maxLen] at hm; omega, (fun h => by cases h), fun k o hk => ?_⟩
    obtain ⟨hk1, rfl⟩ := List.getElem?_eq_some_iff.1 hk
    rw [List.length_map, List.length_range] at hk1
    obtain ⟨B, c, r⟩ := hf k (by omega)
    exact ⟨a, B, c, rfl, by simpa using r⟩
end

end Go.Proofs.Ytkepfmglljkjhaa

namespace Go.Proofs.Ytkepfmglljkjhaa
open Go.Joins Go.ChangeShapes Go.WideShapes Go.RowKit Go.Deep
set_option linter.unusedVariables false
set_option linter.unusedSimpArgs false

/-- A cell that leads to a list of integers, wherever it lies. -/
def PAny (w : World) (row : Option Nat) (cs : List Value) (r : List Int) : Prop :=
  ∃ A c, cs = [.slice A r.length c] ∧ Ints w A r ∧ NilOk A r c ∧ (r ≠ [] → ∀ ad, A = some ad → some ad.block ≠ row)
theorem ints_lt {w : World} {ad : Addr} {r : List Int} (h : Ints w (some ad) r) (hr : r ≠ []) : ad.block < w.heap.size := by
  cases r with
  | nil => exact absurd rfl hr
  | cons x r =>
    obtain ⟨ad', e, hc⟩ := h 0 (.int .i64 x) rfl
    injection e with e
    subst e
    exact World.block_lt_of_cell? w _ hc
theorem Ints.grown2 {w w' : World} {A : Option Addr} {xs : List Int} {row : Option Nat} (h : Ints w A xs) (hg : w.grownBy w' row) (hne : xs ≠ [] → ∀ ad, A = some ad → some ad.block ≠ row) : Ints w' A xs := by
  by_cases e : xs = []
  · subst e; exact Ints.nil _ _
  · exact h.grown hg (hne e)
theorem pany_stable : Stable PAny := by
  constructor
  · rintro w w' row cs r ⟨A, c, e, hI, hn, ha⟩ hb
    exact ⟨A, c, e, hI.below hb, hn, ha⟩
  · rintro w w' row cs r ⟨A, c, e, hI, hn, ha⟩ hg
    have hI' := hI.grown2 hg ha
    refine ⟨⟨A, c, e, hI', hn, ha⟩, ⟨A, c, e, hI', hn, fun hr ad h k => ?_⟩⟩
    subst h
    have := ints_lt hI hr
    injection k with k
    omega
def OwnLA (base : Nat) (w : World) (v : Value) (rows : List (List Int)) : Prop := OwnEs PAny 23 1 base w v rows
theorem OwnLA.below {base : Nat} {w w' : World} {v : Value} {rows : List (List Int)} (h : OwnLA base w v rows) (hb : Below w.heap.size w w') : OwnLA base w' v rows := OwnEs.below pany_stable h hb
theorem OwnLA.read {base n c : Nat} {w : World} {A : Option Addr} {ls : List (List Int)} (h : OwnLA base w (.slice A n c) ls) : RowsRead w A ls := fun i r hr => by
  obtain ⟨g, cs, a, rfl, _, _, ha, _, hc, B, c', rfl, hI, hn, _⟩ := OwnEs.at_ h (i := i) (List.getElem?_eq_some_iff.1 hr).1
  have : a = r := by have := ha.out; rw [hr] at this; injection this with this; exact this.symm
  subst this
  refine ⟨⟨g, 0, none⟩, B, c', rfl, ?_, hI, hn⟩
  have h1 := hc 0 _ rfl
  have e : ((⟨g, 0, none⟩ : Addr).add i) = ⟨g, i, none⟩ := by
    unfold Addr.add; split
    · rename_i hj; subst hj; rfl
    · simp
  rw [e]
  simpa using h1
theorem RowsRead.below {w w' : World} {A : Option Addr} {ls : List (List Int)} (h : RowsRead w A ls) (hb : Below w.heap.size w w') : RowsRead w' A ls := fun i r hr => by
  obtain ⟨ad, B, c, e, h1, h2, h3⟩ := h i r hr
  exact ⟨ad, B, c, e, (hb.cell (World.block_lt_of_cell? w _ h1)).trans h1, h2.below hb, h3⟩
theorem RowsRead.nil (w : World) (A : Option Addr) : RowsRead w A [] := fun i r h => by simp at h
/-- The cells of rows. -/
theorem RowsRead.cells {w : World} {ad : Addr} {ls : List (List Int)} (h : RowsRead w (some ad) ls) : ∃ cs : List Value, cs.length = ls.length ∧ (∀ j u, cs[j]? = some u → w.cell? (ad.add j) = some u) ∧ (∀ u ∈ cs, u.oneCell' = true) ∧
    ∀ (i : Nat) (r : List Int), ls[i]? = some r → ∃ B c, cs[i]? = some (.slice B r.length c) ∧ Ints w B r ∧ NilOk B r c := by
  have each : ∀ i : Nat, ∃ u : Value, ∀ r, ls[i]? = some r → ∃ B c, u = .slice B r.length c ∧ w.cell? (ad.add i) = some u ∧ Ints w B r ∧ NilOk B r c := fun i => by
    cases hi : ls[i]? with
    | none => exact ⟨default, fun r hr => by cases hr⟩
    | some r =>
      obtain ⟨ad', B, c, e, h1, h2, h3⟩ := h i r hi
      injection e with e
      subst e
      exact ⟨.slice B r.length c, fun r' hr => by injection hr with hr; subst hr; exact ⟨B, c, rfl, h1, h2, h3⟩⟩
  obtain ⟨f, hf⟩ := Classical.axiomOfChoice each
  have hat : ∀ (j : Nat) (u : Value), ((List.range ls.length).map f)[j]? = some u → ∃ r, ls[j]? = some r ∧ u = f j := fun j u hu => by
    obtain ⟨hj, rfl⟩ := List.getElem?_eq_some_iff.1 hu
    rw [List.length_map, List.length_range] at hj
    exact ⟨ls[j], List.getElem?_eq_getElem hj, by simp⟩
  refine ⟨(List.range ls.length).map f, by simp, fun j u hu => ?_, fun u hu => ?_, fun i r hr => ?_⟩
  · obtain ⟨r, hr, rfl⟩ := hat j u hu
    obtain ⟨B, c, e, hc, _⟩ := hf j r hr
    exact hc
  · obtain ⟨j, hj⟩ := List.getElem?_of_mem hu
    obtain ⟨r, hr, rfl⟩ := hat j u hj
    obtain ⟨B, c, e, hc, _⟩ := hf j r hr
    rw [e]; rfl
  · obtain ⟨B, c, e, hc, hI, hn⟩ := hf i r hr
    have hi := (List.getElem?_eq_some_iff.1 hr).1
    exact ⟨B, c, by rw [List.getElem?_map, List.getElem?_range hi]; simp [e], hI, hn⟩
set_option maxRecDepth 100000 in
/-- append(v, x...) of rows. -/
theorem wpList_catL {ops : Array Oper} {rest : List Oper} {o : Oper} {a : Act} {w : World} {Q : Exit → Act → World → Prop} (hgd : o.guard = none) (s x : Operand)
    (ho : o.op = .call { callee := .builtin .append, args := #[s, x], argTypes := #[22, 22] })
    (w0 : World) (l : List (Nat × Nat × Value)) (base : Nat) (v : Value) (xs : List (List Int)) (hs : a.eval s = v) (hown : OwnLA base w v xs) (A : Option Addr) (c m : Nat) (ys : List (List Int)) (hx : a.eval x = .slice A m c) (hm : ys.length = m) (hnil : A = none → ys = [] ∧ c = 0) (hR : RowsRead w A ys)
    (zs : List (List Int)) (hzs : xs ++ ys = zs) (hfar : ∀ (i : Nat) (r : List Int) (B : Addr) (cc : Nat), ys[i]? = some r → r ≠ [] → (∃ ad, A = some ad ∧ w.cell? (ad.add i) = some (.slice (some B) r.length cc)) → some B.block ≠ v.ownBlock)
    (hlen : (xs.length + m) * 24 ≤ 140737488355328) (hbase : base ≤ w.heap.size) (h0 : w0.heap.size ≤ base) (hB : Below w0.heap.size w0 w) (hC : Cls w l) (hl : ∀ x ∈ l, x.1 < base)
    (h : ∀ v' w', OwnLA base w' v' zs → Below w0.heap.size w0 w' → Cls w' l → w.heap.size ≤ w'.heap.size → wpList Try.prog ops Q rest (a.put o.dst v') w') : wpList Try.prog ops Q (o :: rest) a w := by
  obtain ⟨i0, hi0, hz⟩ := Option.map_eq_some_iff.1 info_list
  simp only [Prod.mk.injEq] at hz
  obtain ⟨cells, hr, hcs⟩ := hown
  have hcl := hr.1
  subst hm
  subst hzs
  cases A with
  | none =>
    obtain ⟨rfl, rfl⟩ := hnil rfl
    refine wpList_append_own_none hgd s x 22 ho base 23 i0 1 Try.underlying22 hi0 v xs.length cells hs hr hx ?_
    exact h v w (by rw [List.append_nil]; exact ⟨cells, hr, hcs⟩) hB hC (Nat.le_refl _)
  | some ad =>
    obtain ⟨news, hnl, hat, h1, hrd⟩ := hR.cells
    refine wpList_append_own_at w hgd s x 22 ho base 23 i0 (.slice none 0 0) 1 24 Try.underlying22 hi0 hz.1 hz.2.1 hz.2.2 rfl (by decide) v xs.length cells hs hr ad ys.length c news hx (by omega) hat h1 ?_ hlen hbase ?_
    · simp only [maxLen]; omega
    · intro v' w' h2 h3 _ h4
      refine h v' w' ⟨cells ++ news, by rw [List.length_append]; exact h2, fun i r ha => ?_⟩ ?_ ?_ h3.size
      · have key : ∀ {cs : List Value} {a : List Int}, PAny w v.ownBlock cs a → PAny w' v'.ownBlock cs a := fun hp => by
          rcases h4 with h4 | h4
          · rw [h4]; exact (pany_stable.grown hp h3).1
          · rw [h4]; exact (pany_stable.grown hp h3).2
        rw [Nat.mul_one] at *
        rcases Nat.lt_or_ge i xs.length with hi | hi
        · rw [List.getElem?_append_left hi] at ha
          have e1 : ((cells ++ news).drop i).take 1 = (cells.drop (i * 1)).take 1 := by
            rw [Nat.mul_one, List.drop_append_of_le_length (by omega), List.take_append_of_le_length (by rw [List.length_drop]; omega)]
          rw [e1]
          exact key (hcs i r ha)
        · rw [List.getElem?_append_right hi] at ha
          obtain ⟨B, cc, e2, hI, hn⟩ := hrd _ _ ha
          have e1 : ((cells ++ news).drop i).take 1 = [.slice B r.length cc] := by
            rw [List.drop_append, List.drop_eq_nil_of_le (by omega), List.nil_append, show i - cells.length = i - xs.length by omega]
            have hlt := (List.getElem?_eq_some_iff.1 e2).1
            rw [List.drop_eq_getElem_cons hlt]
            obtain ⟨_, e3⟩ := List.getElem?_eq_some_iff.1 e2
            rw [e3]; rfl
          rw [e1]
          exact key ⟨B, cc, rfl, hI, hn, fun hne ad' hB' => by
            subst hB'
            exact hfar _ _ ad' cc ha hne ⟨ad, rfl, hat _ _ e2⟩⟩
      · exact hB.grown h3 (Nat.le_trans h0 hbase) (fun k hk => Nat.le_trans h0 (hr.lt k hk).1)
      · exact hC.grown hr h3 hl

section
variable {H : Type} {enc : TypeId × Value → H} {w : World}
end
/-- A single row. -/
theorem rows_one {w : World} {g : Nat} {B : Option Addr} {r : List Int} {c : Nat} (h : w.cell? ⟨g, 0, none⟩ = some (.slice B r.length c)) (hI : Ints w B r) (hn : NilOk B r c) : RowsRead w (some ⟨g, 0, none⟩) [r] := fun i x hx => by
  match i, hx with
  | 0, hx => simp at hx; subst hx; exact ⟨_, B, c, rfl, h, hI, hn⟩
  | i + 1, hx => simp at hx
end Go.Proofs.Ytkepfmglljkjhaa

namespace Go.Proofs.Ytkepfmglljkjhaa
open Go.RowKit
set_option linter.unusedVariables false
set_option linter.unusedSimpArgs false

/-- Where a tableau lies. -/
structure TbLay where
  b : Nat
  gR : Nat
  cR : Nat
  blk : Nat → Nat
  AB : Option Addr
  cB : Nat
def tbRow (N : Nat) (f : Nat → Int) : List Int := (List.range N).map f
theorem tbRow_len (N : Nat) (f : Nat → Int) : (tbRow N f).length = N := by unfold tbRow; rw [List.length_map, List.length_range]
theorem tbRow_at {N j : Nat} (f : Nat → Int) (h : j < N) : (tbRow N f)[j]? = some (f j) := by
  unfold tbRow; rw [List.getElem?_map, List.getElem?_range h]; rfl
theorem tbRow_set {N j : Nat} (f : Nat → Int) (x : Int) : (tbRow N f).set j x = tbRow N fun k => if k = j then x else f k := by
  apply List.ext_getElem?
  intro i
  rw [List.getElem?_set]
  unfold tbRow
  rw [List.length_map, List.length_range, List.getElem?_map, List.getElem?_map]
  rcases Nat.lt_or_ge i N with h | h
  · rw [List.getElem?_range h]
    by_cases e : j = i
    · subst e; simp [h]
    · rw [if_neg e]; simp [Ne.symm e]
  · rw [List.getElem?_eq_none (by rw [List.length_range]; exact h)]
    by_cases e : j = i
    · subst e; simp; omega
    · rw [if_neg e]; rfl
theorem tbRow_congr {N : Nat} {f g : Nat → Int} (h : ∀ j, j < N → f j = g j) : tbRow N f = tbRow N g := by
  unfold tbRow
  exact List.map_congr_left fun j hj => h j (List.mem_range.1 hj)
def tbBas (m : Nat) (bs : Nat → Nat) : List Int := tbRow m fun i => (bs i : Int)
structure TbMem (base : Nat) (w : World) (L : TbLay) (m N : Nat) (bs : Nat → Nat) (T : Nat → Nat → Int) (den : Int) : Prop where
  box0 : w.cell? ⟨L.b, 0, none⟩ = some (.slice (some ⟨L.gR, 0, none⟩) (m + 2) L.cR)
  box1 : w.cell? ⟨L.b, 1, none⟩ = some (.slice L.AB m L.cB)
  box2 : w.cell? ⟨L.b, 2, none⟩ = some (.int .i64 den)
  free2 : w.frozen? ⟨L.b, 2, none⟩ = false
  out : ∀ i, i < m + 2 → w.cell? ⟨L.gR, i, none⟩ = some (.slice (some ⟨L.blk i, 0, none⟩) N N)
  row : ∀ i, i < m + 2 → IArr w (L.blk i) (tbRow N (T i))
  basis : OwnI base w (.slice L.AB m L.cB) (tbBas m bs)
  sep : ∀ i, i < m + 2 → base ≤ L.blk i ∧ L.blk i ≠ L.b ∧ L.blk i ≠ L.gR ∧ ∀ ad, L.AB = some ad → ad.block ≠ L.blk i
  inj : ∀ i k, i < m + 2 → k < m + 2 → i ≠ k → L.blk i ≠ L.blk k
  sepB : base ≤ L.b ∧ base ≤ L.gR ∧ L.b ≠ L.gR ∧ ∀ ad, L.AB = some ad → ad.block ≠ L.b ∧ ad.block ≠ L.gR
section
variable {base m N : Nat} {w w' : World} {L : TbLay} {bs : Nat → Nat} {T : Nat → Nat → Int} {den : Int}
theorem TbMem.below (h : TbMem base w L m N bs T den) (hb : Below w.heap.size w w') : TbMem base w' L m N bs T den :=
  { box0 := (hb.cell (World.block_lt_of_cell? w _ h.box0)).trans h.box0
    box1 := (hb.cell (World.block_lt_of_cell? w _ h.box1)).trans h.box1
    box2 := (hb.cell (World.block_lt_of_cell? w _ h.box2)).trans h.box2
    free2 := (hb.frozen (World.block_lt_of_cell? w _ h.box2)).trans h.free2
    out := fun i hi => (hb.cell (World.block_lt_of_cell? w _ (h.out i hi))).trans (h.out i hi)
    row := fun i hi => (h.row i hi).below hb
    basis := h.basis.below hb
    sep := h.sep, inj := h.inj, sepB := h.sepB }
theorem TbMem.cell (h : TbMem base w L m N bs T den) {i j : Nat} (hi : i < m + 2) (hj : j < N) : w.cell? ⟨L.blk i, j, none⟩ = some (.int .i64 (T i j)) ∧ w.frozen? ⟨L.blk i, j, none⟩ = false := by
  obtain ⟨x, hx, hc, hf⟩ := (h.row i hi).cell (i := j) (by rw [tbRow_len]; exact hj)
  have := hx.out
  rw [tbRow_at _ hj] at this
  injection this with this
  subst this
  exact ⟨hc, hf⟩
theorem OwnI.apart {base : Nat} {w : World} {v : Value} {xs : List Int} (h : OwnI base w v xs) {p : Addr} (hp : v.ownBlock ≠ some p.block) (u : Value) : OwnI base (w.setCell p u) v xs := by
  obtain ⟨h1, h2⟩ := h
  refine ⟨h1, ?_⟩
  rcases h2 with h2 | ⟨g, cap, cur, hv, hg, hh, r⟩
  · exact Or.inl h2
  · exact Or.inr ⟨g, cap, cur, hv, hg, (Below.heap_setCell w p u g (fun e => hp (by rw [hv, e]; rfl))).trans hh, r⟩
/-- An entry is written. -/
theorem TbMem.set (h : TbMem base w L m N bs T den) {i j : Nat} (hi : i < m + 2) (x : Int) {T' : Nat → Nat → Int} (hT : ∀ a, a < m + 2 → ∀ c, c < N → T' a c = if a = i ∧ c = j then x else T a c) :
    TbMem base (w.setCell ⟨L.blk i, j, none⟩ (.int .i64 x)) L m N bs T' den := by
  obtain ⟨s1, s2, s3, s4⟩ := h.sep i hi
  have hne : ∀ {p : Addr} {v : Value}, p.block ≠ L.blk i → w.cell? p = some v → (w.setCell ⟨L.blk i, j, none⟩ (.int .i64 x)).cell? p = some v := fun {p v} hp hc => by
    rw [World.cell?_setCell_other w _ p _ (fun e => hp (by rw [← e]))]; exact hc
  refine { box0 := hne (Ne.symm s2) h.box0, box1 := hne (Ne.symm s2) h.box1, box2 := hne (Ne.symm s2) h.box2, free2 := by rw [World.frozen?_setCell]; exact h.free2, out := fun k hk => hne (Ne.symm s3) (h.out k hk), row := fun k hk => ?_, basis := ?_, sep := h.sep, inj := h.inj, sepB := h.sepB }
  · by_cases e : k = i
    · subst e
      have h1 := (h.row k hk).set_ j x
      rw [tbRow_set] at h1
      rw [tbRow_congr (g := fun c => if c = j then x else T k c) fun c hc => by rw [hT k hk c hc]; simp]
      exact h1
    · rw [tbRow_congr (g := T k) fun c hc => by rw [hT k hk c hc]; simp [e]]
      exact (h.row k hk).far (h.inj i k hi hk (Ne.symm e)) _
  · refine OwnI.apart h.basis (fun e => ?_) _
    cases hA : L.AB with
    | none => rw [hA] at e; cases e
    | some ad =>
      rw [hA] at e
      have e2 : ad.block = L.blk i := by simpa [Value.ownBlock] using e
      exact s4 ad hA e2
/-- The common denominator is written. -/
theorem TbMem.setDen (h : TbMem base w L m N bs T den) (x : Int) : TbMem base (w.setCell ⟨L.b, 2, none⟩ (.int .i64 x)) L m N bs T x := by
  obtain ⟨t1, t2, t3, t4⟩ := h.sepB
  have hoff : ∀ {k : Nat} {v : Value}, k ≠ 2 → w.cell? ⟨L.b, k, none⟩ = some v → (w.setCell ⟨L.b, 2, none⟩ (.int .i64 x)).cell? ⟨L.b, k, none⟩ = some v := fun {k v} hk hc => by
    rw [World.cell?_setCell_other w _ _ _ (fun e => hk (by injection e with _ e _; exact e.symm))]; exact hc
  refine { box0 := hoff (by omega) h.box0, box1 := hoff (by omega) h.box1, box2 := World.cell?_setCell_same w _ _ h.box2, free2 := by rw [World.frozen?_setCell]; exact h.free2, out := fun k hk => ?_, row := fun k hk => (h.row k hk).far (Ne.symm (h.sep k hk).2.1) _, basis := ?_, sep := h.sep, inj := h.inj, sepB := h.sepB }
  · rw [World.cell?_setCell_other w _ _ _ (fun e => t3 (by injection e))]; exact h.out k hk
  · refine OwnI.apart h.basis (fun e => ?_) _
    cases hA : L.AB with
    | none => rw [hA] at e; cases e
    | some ad =>
      rw [hA] at e
      have e2 : ad.block = L.b := by simpa [Value.ownBlock] using e
      exact (t4 ad hA).1 e2
/-- A variable of the basis is written. -/
theorem TbMem.setBas (h : TbMem base w L m N bs T den) {g r : Nat} (hA : L.AB = some ⟨g, 0, none⟩) (c : Nat) :
    TbMem base (w.setCell ⟨g, r, none⟩ (.int .i64 c)) L m N (LA.pivB bs r c) T den := by
  obtain ⟨t1, t2, t3, t4⟩ := h.sepB
  have hb := (t4 _ hA).1
  have hg := (t4 _ hA).2
  have hne : ∀ {p : Addr} {v : Value}, p.block ≠ g → w.cell? p = some v → (w.setCell ⟨g, r, none⟩ (.int .i64 c)).cell? p = some v := fun {p v} hp hc => by
    rw [World.cell?_setCell_other w _ p _ (fun e => hp (by rw [← e]))]; exact hc
  refine { box0 := hne (Ne.symm hb) h.box0, box1 := hne (Ne.symm hb) h.box1, box2 := hne (Ne.symm hb) h.box2, free2 := by rw [World.frozen?_setCell]; exact h.free2, out := fun k hk => hne (Ne.symm hg) (h.out k hk), row := fun k hk => (h.row k hk).far (p := ⟨g, r, none⟩) (show g ≠ L.blk k from (h.sep k hk).2.2.2 _ hA) _, basis := ?_, sep := h.sep, inj := h.inj, sepB := h.sepB }
  have h1 := h.basis
  rw [hA] at h1 ⊢
  have h2 := h1.set_ (by unfold tbBas; rw [tbRow_len]) r (c : Int)
  have e : (tbBas m bs).set r (c : Int) = tbBas m (LA.pivB bs r c) := by
    unfold tbBas
    rw [tbRow_set]
    exact tbRow_congr fun j _ => by unfold LA.pivB; split <;> rfl
  rw [e] at h2
  exact h2
theorem TbMem.bas (h : TbMem base w L m N bs T den) {i : Nat} (hi : i < m) : ∃ g, L.AB = some ⟨g, 0, none⟩ ∧ base ≤ g ∧ g < w.heap.size ∧ w.cell? ⟨g, i, none⟩ = some (.int .i64 (bs i)) ∧ w.frozen? ⟨g, i, none⟩ = false := by
  have hb := h.basis
  obtain ⟨g, x, hA, h1, h2, h3, h4, h5⟩ := hb.at_ (k := i) (by unfold tbBas; rw [tbRow_len]; exact hi)
  have := h3.out
  unfold tbBas at this
  rw [tbRow_at _ hi] at this
  injection this with this
  subst this
  exact ⟨g, hA, h1, h2, h4, h5⟩
theorem TbMem.congr (h : TbMem base w L m N bs T den) {T' : Nat → Nat → Int} {bs' : Nat → Nat} (hb : ∀ i, i < m → bs' i = bs i) (hT : ∀ a, a < m + 2 → ∀ c, c < N → T' a c = T a c) : TbMem base w L m N bs' T' den :=
  { h with
    row := fun i hi => by rw [tbRow_congr (g := T i) fun c hc => hT i hi c hc]; exact h.row i hi
    basis := by
      have e : tbBas m bs' = tbBas m bs := tbRow_congr fun i hi => by rw [hb i hi]
      rw [e]; exact h.basis }
end

end Go.Proofs.Ytkepfmglljkjhaa

namespace Go.Proofs.Ytkepfmglljkjhaa
open Go.RowKit
set_option linter.unusedVariables false
set_option linter.unusedSimpArgs false

theorem tbRow_zero (n : Nat) : List.replicate n (0 : Int) = tbRow n fun _ => 0 := by
  unfold tbRow
  apply List.ext_getElem?
  intro i
  rw [List.getElem?_map]
  rcases Nat.lt_or_ge i n with h | h
  · rw [List.getElem?_range h, List.getElem?_replicate, if_pos h]; rfl
  · rw [List.getElem?_eq_none (by rw [List.length_replicate]; exact h), List.getElem?_eq_none (by rw [List.length_range]; exact h)]; rfl
theorem tbRow_list (xs : List Int) : tbRow xs.length (fun j => (xs[j]?).getD 0) = xs := by
  unfold tbRow
  apply List.ext_getElem?
  intro i
  rw [List.getElem?_map]
  rcases Nat.lt_or_ge i xs.length with h | h
  · rw [List.getElem?_range h, List.getElem?_eq_getElem h]; simp [h]
  · rw [List.getElem?_eq_none h, List.getElem?_eq_none (by rw [List.length_range]; exact h)]; rfl
set_option maxRecDepth 100000 in
set_option maxHeartbeats 2000000 in
theorem vector_any (w : World) (A : Option Addr) (cA : Nat) (xs : List Int) (d : Int) (hI : Ints w A xs) (hn : xs.length ≤ 100) (hx : ∀ x ∈ xs, -1000000000 ≤ x ∧ x ≤ 1000000000) (hd0 : 0 < d) (hd1 : d ≤ 1000000000) :
    Calls Try.prog 35 #[.slice A xs.length cA, .int .i64 d] w fun e w' => ∃ g : Nat, e = .returned (.agg #[.slice (some ⟨g, 0, none⟩) xs.length xs.length, .int .i64 (d.tdiv (vgcd d xs))]) ∧ w.heap.size ≤ g ∧ IArr w' g (vdiv d xs) ∧ Below w.heap.size w w' := by
  have HX := Lib.hid hx
  have HLE := Lib.hid (fun k => vgcd_le (xs := xs.take k) hd0)
  have HPO := Lib.hid (fun k => vgcd_pos (xs := xs.take k) hd0)
  have hmk := make_ints xs.length (by omega)
  clear hx
  go_enter Try.func35, Try.ntmps35
  go_wp2_with fail
  go_loopw [5, 14] (fun g x wr => ∃ k : Nat, k ≤ xs.length ∧ x = .int .i64 k ∧ g = .int .i64 (vgcd d (xs.take k)) ∧ Below w.heap.size w wr ∧ Cls wr [(w.heap.size, 0, .slice none 0 0), (w.heap.size, 1, .int .i64 0)]) (fun _ x _ => xs.length - (intOf x).toNat)
  case atStart => exact ⟨0, Nat.zero_le _, rfl, rfl, by repeat (first | with_reducible exact Below.refl _ _ | with_reducible apply bdrew | with_reducible apply bdrewN | with_reducible apply balloc | ((with_reducible refine bset ?_ ?_ _); rotate_left; (first | omega | (simp <;> omega)))), by simp [Cls, go_sem]⟩
  case round =>
    obtain ⟨k, hk, rfl, rfl, hB1, hC1⟩ := hrel
    obtain ⟨w1, rfl⟩ : ∃ wo : World, wo = wr := ⟨_, rfl⟩
    have F1 := hC1
    simp only [Cls, and_true] at F1
    have y1 : w.heap.size < w1.heap.size := hC1.blk (b := w.heap.size) (k := 0) (v := .slice none 0 0) (by simp)
    have hg1 := HLE.out k
    have hg0 := HPO.out k
    by_cases hlt : k < xs.length
    · obtain ⟨ad, x, rfl, hx, hxc⟩ := (hI.below hB1).at_ hlt
      have hxb := HX.out x (List.mem_of_getElem? hx.out)
      have HT := Lib.hid (vgcd_take (d := d) hx.out)
      obtain ⟨g, hg⟩ : ∃ g, Hid (vgcd d (xs.take k) = g) := ⟨_, Lib.hid rfl⟩
      rw [hg.out] at HT hg0 hg1 ⊢
      go_wp2_with fail
      refine (lgcd_any _ _ _ (by omega) (by omega)).mono ?_
      rintro e w2 ⟨rfl, hB2⟩
      have D2 := dstep w hB2 (by repeat (first | with_reducible exact hB1 | with_reducible apply bdrew | with_reducible apply bdrewN | with_reducible apply balloc | ((with_reducible refine bset ?_ ?_ _); rotate_left; (first | omega | (simp <;> omega)))))
      have C2 := Cls.below (l := [(w.heap.size, 0, .slice none 0 0), (w.heap.size, 1, .int .i64 0)]) hB2 (by simp [Cls, go_sem, F1, y1])
      go_wp2
      go_roundw
      case rel => exact ⟨k + 1, by omega, by go_num, by rw [HT.out], by repeat (first | with_reducible exact D2 | with_reducible apply bdrew | with_reducible apply bdrewN | with_reducible apply balloc | ((with_reducible refine bset ?_ ?_ _); rotate_left; (first | omega | (simp <;> omega)))), Cls.below (w := w2) (by repeat (first | with_reducible exact Below.refl _ _ | with_reducible apply bdrew | with_reducible apply bdrewN | with_reducible apply balloc | ((with_reducible refine bset ?_ ?_ _); rotate_left; (first | omega | (simp <;> omega))))) C2⟩
      case measure => simp [intOf]; omega
    · obtain rfl : k = xs.length := by omega
      have HG := Lib.hid (show vgcd d (xs.take xs.length) = vgcd d xs by rw [List.take_length])
      rw [HG.out] at hg0 hg1 ⊢
      obtain ⟨g, hg⟩ : ∃ g, Hid (vgcd d xs = g) := ⟨_, Lib.hid rfl⟩
      rw [hg.out] at hg0 hg1 ⊢
      have hgn : ¬ g = 0 := by omega
      have hq : -9223372036854775808 ≤ d.tdiv g ∧ d.tdiv g ≤ 9223372036854775807 := by
        have e1 : g * d.tdiv g = d := by rw [← hg.out]; exact tdiv_mul_of_dvd (vgcd_dvd xs d).1
        have := abs_of_mul (B := 1000000000) hg0 e1 (by omega)
        omega
      obtain ⟨q, hqe⟩ : ∃ q, d.tdiv g = q := ⟨_, rfl⟩
      rw [hqe] at hq
      have HQ := Lib.hid hqe
      obtain ⟨hq1, hq2⟩ := hq
      have HLN := Lib.hid (vdiv_len d xs)
      have HMP := Lib.hid (tbRow_zero xs.length)
      go_upto_region 7 with fail
      go_cut [8] (fun p wx => ∃ gb gm : Nat, p = .pointer (some ⟨gb, 0, none⟩) ∧ w.heap.size < gb ∧ w.heap.size < gm ∧ gm ≠ gb ∧ IArr wx gm (tbRow xs.length fun _ => 0) ∧ Below w.heap.size w wx ∧ Cls wx [(w.heap.size, 0, .slice none 0 0), (w.heap.size, 1, .int .i64 0), (gb, 0, .slice (some ⟨gm, 0, none⟩) xs.length xs.length), (gb, 1, .int .i64 q)])
      case first =>
        go_region
        all_goals
          go_wp2_with fail
          go_meet
          first
            | exact ⟨w1.heap.size, w1.heap.size + 1, rfl, y1, by omega, by omega, by rw [← HMP.out]; have h := IArr.made (w1.alloc (.cells #[.slice (some ⟨w1.heap.size + 1, 0, none⟩) xs.length xs.length, .int .i64 q] 30)) xs.length (w1.heap.size + 1) (by simp); exact h, by repeat (first | with_reducible exact hB1 | with_reducible apply bdrew | with_reducible apply bdrewN | with_reducible apply balloc | ((with_reducible refine bset ?_ ?_ _); rotate_left; (first | omega | (simp <;> omega)))), by simp [Cls, go_sem, F1, y1]⟩
            | exact ⟨w1.heap.size + 1, w1.heap.size, rfl, by omega, y1, by omega, by rw [← HMP.out]; have h := (IArr.made w1 xs.length w1.heap.size rfl).alloc (.cells #[.slice (some ⟨w1.heap.size, 0, none⟩) xs.length xs.length, .int .i64 q] 30); exact h, by repeat (first | with_reducible exact hB1 | with_reducible apply bdrew | with_reducible apply bdrewN | with_reducible apply balloc | ((with_reducible refine bset ?_ ?_ _); rotate_left; (first | omega | (simp <;> omega)))), by simp [Cls, go_sem, F1, y1]⟩
      case rest =>
        obtain ⟨w3, rfl⟩ : ∃ wo : World, wo = wc := ⟨_, rfl⟩
        obtain ⟨gb, gm, rfl, hgb, hgm, hne, hA3, hB3, hC3⟩ := hcut
        go_wp2_with fail
        go_loopw [31] (fun x wr => ∃ k : Nat, k ≤ xs.length ∧ x = .int .i64 k ∧ IArr wr gm (tbRow xs.length fun j => if j < k then ((vdiv d xs)[j]?).getD 0 else 0) ∧ Below w.heap.size w wr ∧ Cls wr [(w.heap.size, 0, .slice none 0 0), (w.heap.size, 1, .int .i64 0), (gb, 0, .slice (some ⟨gm, 0, none⟩) xs.length xs.length), (gb, 1, .int .i64 q)]) (fun x _ => xs.length - (intOf x).toNat)
        case atStart => exact ⟨0, Nat.zero_le _, rfl, by rw [tbRow_congr (g := fun _ => 0) fun j _ => if_neg (by omega)]; exact hA3.below (by repeat (first | with_reducible exact Below.refl _ _ | with_reducible apply bdrew | with_reducible apply bdrewN | with_reducible apply balloc | ((with_reducible refine bset ?_ ?_ _); rotate_left; (first | omega | (simp <;> omega))))), by repeat (first | with_reducible exact hB3 | with_reducible apply bdrew | with_reducible apply bdrewN | with_reducible apply balloc | ((with_reducible refine bset ?_ ?_ _); rotate_left; (first | omega | (simp <;> omega)))), Cls.below (w := w3) (by repeat (first | with_reducible exact Below.refl _ _ | with_reducible apply bdrew | with_reducible apply bdrewN | with_reducible apply balloc | ((with_reducible refine bset ?_ ?_ _); rotate_left; (first | omega | (simp <;> omega))))) hC3⟩
        case round =>
          obtain ⟨k, hk, rfl, hA4, hB4, hC4⟩ := hrel
          obtain ⟨w4, rfl⟩ : ∃ wo : World, wo = wr := ⟨_, rfl⟩
          have F4 := hC4
          simp only [Cls, and_true] at F4
          have y4 : gb < w4.heap.size := hC4.blk (b := gb) (k := 0) (v := .slice (some ⟨gm, 0, none⟩) xs.length xs.length) (by simp)
          by_cases hlt : k < xs.length
          · obtain ⟨ad, x, rfl, hx, hxc⟩ := (hI.below hB4).at_ hlt
            have hxb := HX.out x (List.mem_of_getElem? hx.out)
            obtain ⟨y, hy, hye⟩ := vdiv_at (d := d) hx.out
            have HY := Lib.hid hy
            rw [hg.out] at hye
            have hyb := abs_of_mul (B := 1000000000) hg0 hye hxb
            have hyt : x.tdiv g = y := by rw [← hye]; exact Int.mul_tdiv_cancel_left _ hgn
            obtain ⟨hyb1, hyb2⟩ := hyb
            obtain ⟨z, hz, hzc, hzf⟩ := hA4.cell (i := k) (by rw [tbRow_len]; exact hlt)
            have hn1 : ¬ w.heap.size = gm := by omega
            have hn2 : ¬ gm = w.heap.size := by omega
            have hn3 : ¬ gb = gm := fun e => hne e.symm
            have hn4 : ¬ gm = gb := hne
            clear hx hy hye hz
            go_wp2_with fail
            refine region_still_tail 7 (by kernel_rfl) (by kernel_rfl) ?_
            simp only [List.take_succ_cons, List.take_zero, List.drop_succ_cons, List.drop_zero]
            repeat still_step
            refine wpStill_nil ?_
            go_wp2
            go_roundw
            case rel => exact ⟨k + 1, by omega, by go_num, (by
              have h := hA4.set_ k y
              rw [tbRow_set] at h
              rw [tbRow_congr (g := fun j => if j = k then y else if j < k then ((vdiv d xs)[j]?).getD 0 else 0) fun j _ => by
                by_cases e : j = k
                · subst e; rw [if_pos (by omega), if_pos rfl, HY.out]; rfl
                · rw [if_neg e]
                  by_cases e2 : j < k
                  · rw [if_pos e2, if_pos (by omega)]
                  · rw [if_neg e2, if_neg (by omega)]]
              exact h.below (by repeat (first | with_reducible exact Below.refl _ _ | with_reducible apply bdrew | with_reducible apply bdrewN | with_reducible apply balloc | ((with_reducible refine bset ?_ ?_ _); rotate_left; (first | omega | (simp <;> omega)))))), by repeat (first | with_reducible exact hB4 | with_reducible apply bdrew | with_reducible apply bdrewN | with_reducible apply balloc | ((with_reducible refine bset ?_ ?_ _); rotate_left; (first | omega | (simp <;> omega)))), by simp [Cls, go_sem, F4, y4, hn1, hn2, hn3, hn4]⟩
            case measure => simp [intOf]; omega
          · obtain rfl : k = xs.length := by omega
            have hA5 : IArr w4 gm (vdiv d xs) := by
              have e : tbRow xs.length (fun j => if j < xs.length then ((vdiv d xs)[j]?).getD 0 else 0) = vdiv d xs := by
                rw [tbRow_congr (g := fun j => ((vdiv d xs)[j]?).getD 0) fun j hj => if_pos hj, ← HLN.out, tbRow_list]
              rw [← e]; exact hA4
            have HA5 := Lib.hid hA5
            have hn1 : ¬ gm = w.heap.size := by omega
            have hn2 : ¬ gb = w.heap.size := by omega
            have hn3 : ¬ w.heap.size = gb := by omega
            clear hA5 hA4
            go_wp2_with fail
            refine bodyPost_ret (v := .agg #[.slice (some ⟨gm, 0, none⟩) xs.length xs.length, .int .i64 q]) ?_ rfl ⟨gm, by rw [hg.out, HQ.out], by omega, ?_, by repeat (first | with_reducible exact hB4 | with_reducible apply bdrew | with_reducible apply bdrewN | with_reducible apply balloc | ((with_reducible refine bset ?_ ?_ _); rotate_left; (first | omega | (simp <;> omega))))⟩
            · simp [results, Try.results35, go_sem, F4, y4, hn2, hn3]
            · have h := HA5.out
              repeat (first | exact h | refine IArr.far ?_ (by dsimp only; omega) _)


end Go.Proofs.Ytkepfmglljkjhaa

namespace Go.Proofs.Ytkepfmglljkjhaa
open Go.RowKit
set_option linter.unusedVariables false
set_option linter.unusedSimpArgs false

def ptTo (bs : Nat → Nat) (T : Nat → Nat → Int) (col i j : Nat) : Int := LA.sumN i fun k => if bs k = j then T k col else 0
theorem ptTo_hit {bs : Nat → Nat} {T : Nat → Nat → Int} {col i : Nat} (h : ∀ k, k < i → bs k ≠ bs i) : ptTo bs T col (i + 1) (bs i) = T i col := by
  show LA.sumN i _ + _ = _
  rw [LA.sumN_eq_zero fun k hk => if_neg (h k hk)]; simp
theorem ptTo_miss {bs : Nat → Nat} {T : Nat → Nat → Int} {col i j : Nat} (h : bs i ≠ j) : ptTo bs T col (i + 1) j = ptTo bs T col i j := by
  show LA.sumN i _ + (if bs i = j then T i col else 0) = _
  rw [if_neg h, Int.add_zero]; rfl
set_option maxRecDepth 100000 in
set_option maxHeartbeats 4000000 in
theorem point_walk (w : World) (base : Nat) (L : TbLay) (m N n : Nat) (bs : Nat → Nat) (T : Nat → Nat → Int) (den : Int) (col : Nat) (sg : Int) (hM : TbMem base w L m N bs T den) (hcol : col < N) (hsg : sg = 1 ∨ sg = -1) (hTB : ∀ i, i < m → -1000000000 ≤ T i col ∧ T i col ≤ 1000000000) (hinj : ∀ i k, i < m → k < m → bs i = bs k → i = k) (hm6 : m ≤ 6) (hn6 : n ≤ 100) :
    Calls Try.prog 37 #[.pointer (some ⟨L.b, 0, none⟩), .int .i64 n, .int .i64 col, .int .i64 sg] w fun e w' => ∃ g : Nat, e = .returned (.slice (some ⟨g, 0, none⟩) n n) ∧ w.heap.size ≤ g ∧ IArr w' g (tbRow n fun j => sg * ptTo bs T col m j) ∧ Below w.heap.size w w' := by
  obtain ⟨Lb, LgR, LcR, Lblk, LAB, LcB⟩ := L
  have HTB := Lib.hid hTB
  have HIN := Lib.hid hinj
  have HM := Lib.hid hM
  have hsb := hM.sepB
  have hx1 := hM.box1
  have hlt1 := World.block_lt_of_cell? w _ hx1
  have hx0 := hM.box0
  have hlt0 := World.block_lt_of_cell? w _ (hM.out 0 (by omega))
  dsimp only at hx1 hlt1 hx0 hlt0
  have hmk := make_ints n (by omega)
  have HMP := Lib.hid (tbRow_zero n)
  have HSG := Lib.hid hsg
  have hsg1 : -1 ≤ sg ∧ sg ≤ 1 := by omega
  clear hTB hinj hM hsb hsg
  go_enter Try.func37, Try.ntmps37
  go_wp2_with fail
  go_loopw [19] (fun x wr => ∃ i : Nat, i ≤ m ∧ x = .int .i64 i ∧ Below w.heap.size w wr ∧ IArr wr w.heap.size (tbRow n fun j => sg * ptTo bs T col i j)) (fun x _ => m - (intOf x).toNat)
  case atStart => exact ⟨0, Nat.zero_le _, rfl, by repeat (first | with_reducible exact Below.refl _ _ | with_reducible apply bdrew | with_reducible apply bdrewN | with_reducible apply balloc | ((with_reducible refine bset ?_ ?_ _); rotate_left; (first | omega | (simp <;> omega)))), by
    have h := IArr.made w n w.heap.size rfl
    rw [HMP.out, tbRow_congr (g := fun j => sg * ptTo bs T col 0 j) fun j _ => by unfold ptTo; simp [LA.sumN]] at h
    simpa using h⟩
  case round =>
    obtain ⟨i, hi, rfl, hB1, hA1⟩ := hrel
    obtain ⟨w1, rfl⟩ : ∃ wo : World, wo = wr := ⟨_, rfl⟩
    have hM1 := HM.out.below hB1
    have hs1 := hA1.lt
    by_cases hlt : i < m
    · have hi2 : i < m + 2 := by omega
      have hi3 : (i : Int) < (m : Int) + 2 := by omega
      obtain ⟨g, hA, hg1, hg2, hg3, hg4⟩ := hM1.bas hlt
      have hy0 := hM1.box0
      have hyo := hM1.out i hi2
      have hyc := (hM1.cell (i := i) (j := col) hi2 hcol).1
      dsimp only at hA hy0 hyo hyc
      subst hA
      have hTb := HTB.out i hlt
      obtain ⟨v, hv⟩ : ∃ v, Hid (bs i = v) := ⟨_, Lib.hid rfl⟩
      obtain ⟨x, hx⟩ : ∃ x, Hid (T i col = x) := ⟨_, Lib.hid rfl⟩
      rw [hv.out] at hg3
      rw [hx.out] at hyc hTb
      have hmul := LA.abs_mul hsg1 hTb
      obtain ⟨hmul1, hmul2⟩ := hmul
      obtain ⟨p, hp⟩ : ∃ p, Hid (sg * x = p) := ⟨_, Lib.hid rfl⟩
      have hwp : IntKind.i64.wrap (sg * x) = p := by rw [hp.out] at hmul1 hmul2 ⊢; exact Go.IntWalk.i64_in _ (by omega)
      by_cases hvn : v < n
      · have hvn' : decide ((v : Int) < (n : Int)) = true := decide_eq_true (by omega)
        obtain ⟨z, hz, hzc, hzf⟩ := hA1.cell (i := v) (by rw [tbRow_len]; exact hvn)
        clear hz
        go_wp2
        go_roundw
        case rel => exact ⟨i + 1, by omega, by go_num, by repeat (first | with_reducible exact hB1 | with_reducible apply bdrew | with_reducible apply bdrewN | with_reducible apply balloc | ((with_reducible refine bset ?_ ?_ _); rotate_left; (first | omega | (simp <;> omega)))), (by
          have h := hA1.set_ v p
          rw [tbRow_set] at h
          rw [tbRow_congr (g := fun j => if j = v then p else sg * ptTo bs T col i j) fun j _ => by
            by_cases e : j = v
            · rw [if_pos e, e, ← hv.out, ptTo_hit (fun k hk e2 => by have := HIN.out k i (by omega) hlt e2; omega), hx.out, hp.out]
            · rw [if_neg e, ptTo_miss (by rw [hv.out]; exact fun e2 => e e2.symm)]]
          exact h.below (by repeat (first | with_reducible exact Below.refl _ _ | with_reducible apply bdrew | with_reducible apply bdrewN | with_reducible apply balloc | ((with_reducible refine bset ?_ ?_ _); rotate_left; (first | omega | (simp <;> omega))))))⟩
        case measure => simp [intOf]; omega
      · have hvn' : decide ((v : Int) < (n : Int)) = false := decide_eq_false (by omega)
        go_wp2
        go_roundw
        case rel => exact ⟨i + 1, by omega, by go_num, by repeat (first | with_reducible exact hB1 | with_reducible apply bdrew | with_reducible apply bdrewN | with_reducible apply balloc | ((with_reducible refine bset ?_ ?_ _); rotate_left; (first | omega | (simp <;> omega)))), (by
          rw [tbRow_congr (g := fun j => sg * ptTo bs T col i j) fun j hj => by rw [ptTo_miss (by rw [hv.out]; omega)]]
          exact hA1.below (by repeat (first | with_reducible exact Below.refl _ _ | with_reducible apply bdrew | with_reducible apply bdrewN | with_reducible apply balloc | ((with_reducible refine bset ?_ ?_ _); rotate_left; (first | omega | (simp <;> omega))))))⟩
        case measure => simp [intOf]; omega
    · obtain rfl : m = i := by omega
      go_wp2
      go_ret
      exact ⟨w.heap.size, rfl, Nat.le_refl _, hA1.below (by repeat (first | with_reducible exact Below.refl _ _ | with_reducible apply bdrew | with_reducible apply bdrewN | with_reducible apply balloc | ((with_reducible refine bset ?_ ?_ _); rotate_left; (first | omega | (simp <;> omega))))), by repeat (first | with_reducible exact hB1 | with_reducible apply bdrew | with_reducible apply bdrewN | with_reducible apply balloc | ((with_reducible refine bset ?_ ?_ _); rotate_left; (first | omega | (simp <;> omega))))⟩


end Go.Proofs.Ytkepfmglljkjhaa

namespace Go.Proofs.Ytkepfmglljkjhaa
open Go.RowKit
set_option linter.unusedVariables false
set_option linter.unusedSimpArgs false

/-- A linear program. -/
structure LpV where
  rows : List (List Int)
  bounds : List Int
  obj : List Int
def LpV.lp (p : LpV) : LA.LP := ⟨p.rows.length, p.obj.length, fun i j => (((p.rows[i]?).getD [])[j]?).getD 0, fun i => (p.bounds[i]?).getD 0, fun j => (p.obj[j]?).getD 0⟩
def rowF (row : List Int) (b : Int) (n : Nat) : Int := if row.length ≠ n then 9 else if ¬ (-20 ≤ b ∧ b ≤ 20) then 3 else if ∀ a ∈ row, -4 ≤ a ∧ a ≤ 4 then 0 else 3
def LpV.rowC (p : LpV) (i : Nat) : Int := rowF ((p.rows[i]?).getD []) ((p.bounds[i]?).getD 0) p.obj.length
def lpF (p : LpV) : Int × Int :=
  if 6 < p.rows.length ∨ 6 < p.obj.length then (2, -1)
  else if p.bounds.length ≠ p.rows.length then (9, -2)
  else if ¬ ∀ c ∈ p.obj, -20 ≤ c ∧ c ≤ 20 then (3, -3)
  else match (List.range p.rows.length).find? fun i => decide (p.rowC i ≠ 0) with
    | none => (0, 0)
    | some i => (p.rowC i, (i : Int))
structure LpOk (p : LpV) : Prop where
  m : p.rows.length ≤ 6
  n : p.obj.length ≤ 6
  b : p.bounds.length = p.rows.length
  c : ∀ c ∈ p.obj, -20 ≤ c ∧ c ≤ 20
  r : ∀ i, i < p.rows.length → p.rowC i = 0
theorem lpF_1 {p : LpV} (h : 6 < p.rows.length ∨ 6 < p.obj.length) : lpF p = (2, -1) := by unfold lpF; rw [if_pos h]
theorem lpF_2 {p : LpV} (h : ¬ (6 < p.rows.length ∨ 6 < p.obj.length)) (h2 : p.bounds.length ≠ p.rows.length) : lpF p = (9, -2) := by unfold lpF; rw [if_neg h, if_pos h2]
theorem lpF_3 {p : LpV} (h : ¬ (6 < p.rows.length ∨ 6 < p.obj.length)) (h2 : p.bounds.length = p.rows.length) (h3 : ¬ ∀ c ∈ p.obj, -20 ≤ c ∧ c ≤ 20) : lpF p = (3, -3) := by
  unfold lpF; rw [if_neg h, if_neg (fun e => e h2), if_pos h3]
theorem find_first {n i : Nat} {f : Nat → Bool} (hi : i < n) (h1 : f i = true) (h0 : ∀ k, k < i → f k = false) : (List.range n).find? f = some i := by
  rw [List.find?_range_eq_some]
  exact ⟨h1, List.mem_range.2 hi, fun k hk => by rw [h0 k hk]; rfl⟩
theorem lpF_4 {p : LpV} (h : ¬ (6 < p.rows.length ∨ 6 < p.obj.length)) (h2 : p.bounds.length = p.rows.length) (h3 : ∀ c ∈ p.obj, -20 ≤ c ∧ c ≤ 20) {i : Nat} {c : Int} (hi : i < p.rows.length) (hc : p.rowC i = c) (hc0 : ¬ c = 0) (h0 : ∀ k, k < i → p.rowC k = 0) : lpF p = (c, (i : Int)) := by
  unfold lpF; rw [if_neg h, if_neg (fun e => e h2), if_neg (fun e => e h3), find_first hi (by rw [hc]; exact decide_eq_true hc0) fun k hk => by rw [h0 k hk]; rfl]
  simp only [hc]
theorem lpF_ok {p : LpV} (h : LpOk p) : lpF p = (0, 0) := by
  unfold lpF; rw [if_neg (by have := h.m; have := h.n; omega), if_neg (fun e => e h.b), if_neg (fun e => e h.c)]
  have e : (List.range p.rows.length).find? (fun i => decide (p.rowC i ≠ 0)) = none := by
    rw [List.find?_eq_none]
    intro k hk
    rw [h.r k (List.mem_range.1 hk)]
    simp
  rw [e]
theorem lpF_zero {p : LpV} (h : (lpF p).1 = 0) : LpOk p := by
  unfold lpF at h
  by_cases h1 : 6 < p.rows.length ∨ 6 < p.obj.length
  · rw [if_pos h1] at h; simp at h
  rw [if_neg h1] at h
  by_cases h2 : p.bounds.length ≠ p.rows.length
  · rw [if_pos h2] at h; simp at h
  rw [if_neg h2] at h
  by_cases h3 : ¬ ∀ c ∈ p.obj, -20 ≤ c ∧ c ≤ 20
  · rw [if_pos h3] at h; simp at h
  rw [if_neg h3] at h
  refine ⟨by omega, by omega, Classical.byContradiction h2, Classical.byContradiction h3, fun i hi => ?_⟩
  cases e : (List.range p.rows.length).find? (fun i => decide (p.rowC i ≠ 0)) with
  | none =>
    rw [List.find?_eq_none] at e
    have := e i (List.mem_range.2 hi)
    simpa using this
  | some k =>
    rw [e] at h
    have h4 := List.find?_some e
    have h5 : p.rowC k ≠ 0 := of_decide_eq_true h4
    exact absurd h h5
theorem rowF_zero {row : List Int} {b : Int} {n : Nat} (h : rowF row b n = 0) : row.length = n ∧ (-20 ≤ b ∧ b ≤ 20) ∧ ∀ a ∈ row, -4 ≤ a ∧ a ≤ 4 := by
  unfold rowF at h
  by_cases h1 : row.length ≠ n
  · rw [if_pos h1] at h; omega
  rw [if_neg h1] at h
  by_cases h2 : ¬ (-20 ≤ b ∧ b ≤ 20)
  · rw [if_pos h2] at h; omega
  rw [if_neg h2] at h
  by_cases h3 : ∀ a ∈ row, -4 ≤ a ∧ a ≤ 4
  · exact ⟨by omega, by omega, h3⟩
  · rw [if_neg h3] at h; omega
theorem LpOk.row {p : LpV} (h : LpOk p) {i : Nat} {row : List Int} (hr : p.rows[i]? = some row) : row.length = p.obj.length ∧ ∀ a ∈ row, -4 ≤ a ∧ a ≤ 4 := by
  have h1 := h.r i (List.getElem?_eq_some_iff.1 hr).1
  unfold LpV.rowC at h1
  rw [hr] at h1
  have h2 := rowF_zero h1
  exact ⟨h2.1, h2.2.2⟩
theorem LpOk.bound {p : LpV} (h : LpOk p) {i : Nat} {b : Int} (hb : p.bounds[i]? = some b) : -20 ≤ b ∧ b ≤ 20 := by
  have hi := (List.getElem?_eq_some_iff.1 hb).1
  have h1 := h.r i (by rw [← h.b]; exact hi)
  unfold LpV.rowC at h1
  rw [hb] at h1
  exact (rowF_zero h1).2.1
theorem LpOk.lpin {p : LpV} (h : LpOk p) : LA.LPIn p.lp := by
  refine ⟨h.m, h.n, fun i hi j hj => ?_, fun i hi => ?_, fun j hj => ?_⟩
  · have hi' : i < p.rows.length := hi
    have hj' : j < p.obj.length := hj
    show -4 ≤ (((p.rows[i]?).getD [])[j]?).getD 0 ∧ (((p.rows[i]?).getD [])[j]?).getD 0 ≤ 4
    rw [List.getElem?_eq_getElem hi', Option.getD_some]
    have hr := h.row (List.getElem?_eq_getElem hi')
    rw [List.getElem?_eq_getElem (by rw [hr.1]; exact hj'), Option.getD_some]
    exact hr.2 _ (List.getElem_mem _)
  · have hi' : i < p.bounds.length := by rw [h.b]; exact hi
    show -20 ≤ (p.bounds[i]?).getD 0 ∧ (p.bounds[i]?).getD 0 ≤ 20
    rw [List.getElem?_eq_getElem hi', Option.getD_some]
    exact h.bound (List.getElem?_eq_getElem hi')
  · have hj' : j < p.obj.length := hj
    show -20 ≤ (p.obj[j]?).getD 0 ∧ (p.obj[j]?).getD 0 ≤ 20
    rw [List.getElem?_eq_getElem hj', Option.getD_some]
    exact h.c _ (List.getElem_mem _)
/-- The memory of a linear program. -/
structure LpMem (w : World) (AR AB AO : Option Addr) (p : LpV) : Prop where
  rows : RowsRead w AR p.rows
  bounds : Ints w AB p.bounds
  obj : Ints w AO p.obj
  nr : p.rows.length ≤ 9223372036854775807
  nb : p.bounds.length ≤ 9223372036854775807
  no : p.obj.length ≤ 9223372036854775807
theorem LpMem.below {w w' : World} {AR AB AO : Option Addr} {p : LpV} (h : LpMem w AR AB AO p) (hb : Below w.heap.size w w') : LpMem w' AR AB AO p := ⟨h.rows.below hb, h.bounds.below hb, h.obj.below hb, h.nr, h.nb, h.no⟩
set_option maxRecDepth 100000 in
theorem lfault_any (c d : Int) (w : World) :
    Calls Try.prog 39 #[.int .i64 c, .int .i64 d] w fun e w' => e = .returned (.agg #[.int .i64 c, .int .i64 d]) ∧ Below w.heap.size w w' := by
  go_enter Try.func39, Try.ntmps39
  go_wp2
  refine bodyPost_ret (v := .agg #[.int .i64 c, .int .i64 d]) ?_ rfl ⟨rfl, (Below.refl _ _).alloc (Nat.le_refl _) _⟩
  simp [results, Try.results39, go_sem]
theorem lwithin_yes (x k : Int) (w : World) (h0 : 0 ≤ k) (h1 : k ≤ 1000000000) (h : -k ≤ x ∧ x ≤ k) :
    Calls Try.prog 40 #[.int .i64 x, .int .i64 k] w fun e w' => e = .returned (.bool true) ∧ w = w' := by
  obtain ⟨h2, h3⟩ := h
  go_enter Try.func40, Try.ntmps40
  go_wp2
  go_ret
  exact ⟨by (first | (simp; done) | (simp; omega)), rfl⟩
theorem lwithin_no (x k : Int) (w : World) (h0 : 0 ≤ k) (h1 : k ≤ 1000000000) (h : ¬ (-k ≤ x ∧ x ≤ k)) :
    Calls Try.prog 40 #[.int .i64 x, .int .i64 k] w fun e w' => e = .returned (.bool false) ∧ w = w' := by
  by_cases h2 : -k ≤ x
  · have h3 : ¬ x ≤ k := fun e => h ⟨h2, e⟩
    go_enter Try.func40, Try.ntmps40
    go_wp2
    go_ret
    exact ⟨by (first | (simp; done) | (simp; omega)), rfl⟩
  · go_enter Try.func40, Try.ntmps40
    go_wp2
    go_ret
    exact ⟨by (first | (simp; done) | (simp; omega)), rfl⟩
set_option maxRecDepth 100000 in
set_option maxHeartbeats 4000000 in
theorem lvalidate_core (w : World) (AR AB AO : Option Addr) (cr cb co : Nat) (p : LpV) (hM : LpMem w AR AB AO p) (m n : Nat) (hrl : Hid (p.rows.length = m)) (hbl : Hid (p.bounds.length = m)) (hol : Hid (p.obj.length = n)) (hm6 : m ≤ 6) (hn6 : n ≤ 6) :
    Calls Try.prog 15 #[.agg #[.slice AR m cr, .slice AB m cb, .slice AO n co]] w fun e w' => e = .returned (.agg #[.int .i64 (lpF p).1, .int .i64 (lpF p).2]) ∧ Below w.heap.size w w' := by
  have HRL := hrl
  have HOB := Lib.hid hM.obj
  have HBO := Lib.hid hM.bounds
  have HRO := Lib.hid hM.rows.llr
  have HNB := Lib.hid (show ¬ (6 < p.rows.length ∨ 6 < p.obj.length) by have := hrl.out; have := hol.out; omega)
  have HBE := Lib.hid (show p.bounds.length = p.rows.length by rw [hrl.out, hbl.out])
  have hd1 : decide ((m : Int) > 6) = false := decide_eq_false (by omega)
  have hd2 : decide ((n : Int) > 6) = false := decide_eq_false (by omega)
  clear hM
  go_enter Try.func15, Try.ntmps15
  go_wp2_with fail
  go_loopw [33] (fun x wr => ∃ k : Nat, k ≤ n ∧ x = .int .i64 k ∧ Hid (∀ c ∈ p.obj.take k, -20 ≤ c ∧ c ≤ 20) ∧ Below w.heap.size w wr ∧ Cls wr [(w.heap.size, 0, .slice AR m cr), (w.heap.size, 1, .slice AB m cb), (w.heap.size, 2, .slice AO n co), (w.heap.size + 1, 0, .int .i64 0), (w.heap.size + 1, 1, .int .i64 0)]) (fun x _ => n - (intOf x).toNat)
  case atStart => exact ⟨0, Nat.zero_le _, rfl, Lib.hid (by simp), (by repeat (first | with_reducible exact Below.refl _ _ | with_reducible apply bdrew | with_reducible apply bdrewN | with_reducible apply balloc | ((with_reducible refine bset ?_ ?_ _); rotate_left; (first | omega | (simp <;> omega))))), (by simp [Cls, go_sem])⟩
  case round =>
    obtain ⟨k, hk, rfl, HC, hBr, hCr⟩ := hrel
    obtain ⟨w1, rfl⟩ : ∃ wo : World, wo = wr := ⟨_, rfl⟩
    have drs := hBr.size
    have Fr := hCr
    simp only [Cls, and_true] at Fr
    have yrw1 : w.heap.size + 1 < w1.heap.size := hCr.blk (b := w.heap.size + 1) (k := 0) (v := .int .i64 0) (by simp)
    have yrw0 : w.heap.size < w1.heap.size := (by omega)
    have yrwp1 : w.heap.size < w1.heap.size + 1 := (by omega)
    have yrwp2 : w.heap.size < w1.heap.size + 1 + 1 := (by omega)
    by_cases hlt : k < n
    · obtain ⟨ad, x, rfl, hx, hxc⟩ := (HOB.out.below hBr).at_ (k := k) (by rw [hol.out]; exact hlt)
      by_cases hin : -20 ≤ x ∧ x ≤ 20
      · have HIN := Lib.hid hin
        clear hin
        go_wp2_with fail
        refine (lwithin_yes _ _ _ (by omega) (by omega) HIN.out).mono ?_
        rintro e w' ⟨rfl, rfl⟩
        go_wp2
        go_roundw
        case rel => exact ⟨k + 1, by omega, by go_num, Lib.hid (fun c hc => by
          rw [List.take_add_one, hx.out] at hc
          rcases List.mem_append.1 hc with h | h
          · exact HC.out c h
          · have : c = x := by simpa using h
            rw [this]; exact HIN.out), (by repeat (first | with_reducible exact hBr | with_reducible apply bdrew | with_reducible apply bdrewN | with_reducible apply balloc | ((with_reducible refine bset ?_ ?_ _); rotate_left; (first | omega | (simp <;> omega))))), (Cls.below (w := w1) (by repeat (first | with_reducible exact Below.refl _ _ | with_reducible apply bdrew | with_reducible apply bdrewN | with_reducible apply balloc | ((with_reducible refine bset ?_ ?_ _); rotate_left; (first | omega | (simp <;> omega))))) hCr)⟩
        case measure => simp [intOf]; omega
      · have HF := Lib.hid (lpF_3 HNB.out HBE.out (fun h => hin (h x (List.mem_of_getElem? hx.out))))
        have HIN := Lib.hid hin
        clear hin
        go_wp2_with fail
        refine (lwithin_no _ _ _ (by omega) (by omega) HIN.out).mono ?_
        rintro e w' ⟨rfl, rfl⟩
        go_wp2_with fail
        refine (lfault_any _ _ _).mono ?_
        rintro e w1 ⟨rfl, hB1⟩
        have D1 := dstep w hB1 (by repeat (first | with_reducible exact hBr | with_reducible apply bdrew | with_reducible apply bdrewN | with_reducible apply balloc | ((with_reducible refine bset ?_ ?_ _); rotate_left; (first | omega | (simp <;> omega)))))
        have d1s := D1.size
        have C1 := Cls.below (l := [(w.heap.size, 0, .slice AR m cr), (w.heap.size, 1, .slice AB m cb), (w.heap.size, 2, .slice (some ad) n co), (w.heap.size + 1, 0, .int .i64 0), (w.heap.size + 1, 1, .int .i64 0)]) hB1 (by simp [Cls, go_sem, Fr, yrw1, yrw0, yrwp1, yrwp2])
        have F1 := C1
        simp only [Cls, and_true] at F1
        have y1w1 : w.heap.size + 1 < w1.heap.size := C1.blk (b := w.heap.size + 1) (k := 0) (v := .int .i64 0) (by simp)
        have y1w0 : w.heap.size < w1.heap.size := (by omega)
        have y1wp1 : w.heap.size < w1.heap.size + 1 := (by omega)
        have y1wp2 : w.heap.size < w1.heap.size + 1 + 1 := (by omega)
        go_wp2
        refine bodyPost_ret (v := .agg #[.int .i64 3, .int .i64 (-3)]) ?_ rfl ⟨by rw [HF.out], by repeat (first | with_reducible exact D1 | with_reducible apply bdrew | with_reducible apply bdrewN | with_reducible apply balloc | ((with_reducible refine bset ?_ ?_ _); rotate_left; (first | omega | (simp <;> omega))))⟩
        simp [results, Try.results15, go_sem, F1, y1w1, y1w0, y1wp1, y1wp2]
    · obtain rfl : n = k := by omega
      have HCO := Lib.hid (show ∀ c ∈ p.obj, -20 ≤ c ∧ c ≤ 20 from fun c hc => HC.out c (by rw [List.take_of_length_le (by rw [hol.out]; exact Nat.le_refl _)]; exact hc))
      go_wp2_with fail
      go_loopw [45] (fun x wr => ∃ i : Nat, i ≤ m ∧ x = .int .i64 i ∧ Hid (∀ k, k < i → p.rowC k = 0) ∧ Below w1.heap.size w1 wr ∧ Cls wr [(w.heap.size, 0, .slice AR m cr), (w.heap.size, 1, .slice AB m cb), (w.heap.size, 2, .slice AO n co), (w.heap.size + 1, 0, .int .i64 0), (w.heap.size + 1, 1, .int .i64 0)]) (fun x _ => m - (intOf x).toNat)
      case atStart => exact ⟨0, Nat.zero_le _, rfl, Lib.hid (fun k hk => by omega), (by repeat (first | with_reducible exact Below.refl _ _ | with_reducible apply bdrew | with_reducible apply bdrewN | with_reducible apply balloc | ((with_reducible refine bset ?_ ?_ _); rotate_left; (first | omega | (simp <;> omega))))), (by simp [Cls, go_sem, Fr, yrw1, yrw0, yrwp1, yrwp2])⟩
      case round =>
        obtain ⟨i, hi, rfl, HR, hBs, hCs⟩ := hrel
        obtain ⟨w2, rfl⟩ : ∃ wo : World, wo = wr := ⟨_, rfl⟩
        have dss := hBs.size
        have Fs := hCs
        simp only [Cls, and_true] at Fs
        have ysw1 : w.heap.size + 1 < w2.heap.size := hCs.blk (b := w.heap.size + 1) (k := 0) (v := .int .i64 0) (by simp)
        have ysw0 : w.heap.size < w2.heap.size := (by omega)
        have yswp1 : w.heap.size < w2.heap.size + 1 := (by omega)
        have yswp2 : w.heap.size < w2.heap.size + 1 + 1 := (by omega)
        have DS := hBr.trans (hBs.mono hBr.size)
        by_cases hlt : i < m
        · obtain ⟨ad, r, R, cR, rfl, hr, hrc, hI⟩ := (HRO.out.below DS).at_ (k := i) (by rw [hrl.out]; exact hlt)
          obtain ⟨ad2, y, rfl, hy, hyc⟩ := (HBO.out.below DS).at_ (k := i) (by rw [hbl.out]; exact hlt)
          have HRC := Lib.hid (show p.rowC i = rowF r y n by unfold LpV.rowC; rw [hr.out, hy.out, hol.out]; rfl)
          have HF4 := Lib.hid (fun c (h1 : p.rowC i = c) (h2 : ¬ c = 0) => lpF_4 HNB.out HBE.out HCO.out (i := i) (by rw [hrl.out]; exact hlt) h1 h2 HR.out)
          by_cases hrn : r.length = n
          · have HRN := Lib.hid hrn
            rw [hrn] at hrc
            clear hrn
            by_cases hyb : -20 ≤ y ∧ y ≤ 20
            · have HYB := Lib.hid hyb
              clear hyb
              go_wp2_with fail
              refine (lwithin_yes _ _ _ (by omega) (by omega) HYB.out).mono ?_
              rintro e w' ⟨rfl, rfl⟩
              go_wp2_with fail
              go_loopw [69] (fun x wr => ∃ j : Nat, j ≤ n ∧ x = .int .i64 j ∧ Hid (∀ a ∈ r.take j, -4 ≤ a ∧ a ≤ 4) ∧ Below w2.heap.size w2 wr ∧ Cls wr [(w.heap.size, 0, .slice (some ad) m cr), (w.heap.size, 1, .slice (some ad2) m cb), (w.heap.size, 2, .slice AO n co), (w.heap.size + 1, 0, .int .i64 0), (w.heap.size + 1, 1, .int .i64 0)]) (fun x _ => n - (intOf x).toNat)
              case atStart => exact ⟨0, Nat.zero_le _, rfl, Lib.hid (by simp), (by repeat (first | with_reducible exact Below.refl _ _ | with_reducible apply bdrew | with_reducible apply bdrewN | with_reducible apply balloc | ((with_reducible refine bset ?_ ?_ _); rotate_left; (first | omega | (simp <;> omega))))), (by simp [Cls, go_sem, Fs, ysw1, ysw0, yswp1, yswp2])⟩
              case round =>
                obtain ⟨j, hj, rfl, HA, hBv, hCv⟩ := hrel
                obtain ⟨w3, rfl⟩ : ∃ wo : World, wo = wr := ⟨_, rfl⟩
                have dvs := hBv.size
                have Fv := hCv
                simp only [Cls, and_true] at Fv
                have yvw1 : w.heap.size + 1 < w3.heap.size := hCv.blk (b := w.heap.size + 1) (k := 0) (v := .int .i64 0) (by simp)
                have yvw0 : w.heap.size < w3.heap.size := (by omega)
                have yvwp1 : w.heap.size < w3.heap.size + 1 := (by omega)
                have yvwp2 : w.heap.size < w3.heap.size + 1 + 1 := (by omega)
                have DV := DS.trans (hBv.mono DS.size)
                by_cases hlt3 : j < n
                · obtain ⟨ad3, x, rfl, hx, hxc⟩ := (hI.below hBv).at_ (k := j) (by rw [HRN.out]; exact hlt3)
                  by_cases hin : -4 ≤ x ∧ x ≤ 4
                  · have HIN := Lib.hid hin
                    clear hin
                    go_wp2_with fail
                    refine (lwithin_yes _ _ _ (by omega) (by omega) HIN.out).mono ?_
                    rintro e w' ⟨rfl, rfl⟩
                    go_wp2
                    go_roundw
                    case rel => exact ⟨j + 1, by omega, by go_num, Lib.hid (fun c hc => by
                      rw [List.take_add_one, hx.out] at hc
                      rcases List.mem_append.1 hc with h | h
                      · exact HA.out c h
                      · have : c = x := by simpa using h
                        rw [this]; exact HIN.out), (by repeat (first | with_reducible exact hBv | with_reducible apply bdrew | with_reducible apply bdrewN | with_reducible apply balloc | ((with_reducible refine bset ?_ ?_ _); rotate_left; (first | omega | (simp <;> omega))))), (Cls.below (w := w3) (by repeat (first | with_reducible exact Below.refl _ _ | with_reducible apply bdrew | with_reducible apply bdrewN | with_reducible apply balloc | ((with_reducible refine bset ?_ ?_ _); rotate_left; (first | omega | (simp <;> omega))))) hCv)⟩
                    case measure => simp [intOf]; omega
                  · have HF := Lib.hid (HF4.out 3 (by rw [HRC.out]; unfold rowF; rw [if_neg (fun e => e HRN.out), if_neg (fun e => e HYB.out), if_neg (fun h => hin (h x (List.mem_of_getElem? hx.out)))]) (by omega))
                    have HIN := Lib.hid hin
                    clear hin
                    go_wp2_with fail
                    refine (lwithin_no _ _ _ (by omega) (by omega) HIN.out).mono ?_
                    rintro e w' ⟨rfl, rfl⟩
                    go_wp2_with fail
                    refine (lfault_any _ _ _).mono ?_
                    rintro e w4 ⟨rfl, hB4⟩
                    have D4 := dstep w hB4 (by repeat (first | with_reducible exact DV | with_reducible apply bdrew | with_reducible apply bdrewN | with_reducible apply balloc | ((with_reducible refine bset ?_ ?_ _); rotate_left; (first | omega | (simp <;> omega)))))
                    have d4s := D4.size
                    have C4 := Cls.below (l := [(w.heap.size, 0, .slice (some ad) m cr), (w.heap.size, 1, .slice (some ad2) m cb), (w.heap.size, 2, .slice AO n co), (w.heap.size + 1, 0, .int .i64 0), (w.heap.size + 1, 1, .int .i64 0)]) hB4 (by simp [Cls, go_sem, Fv, yvw1, yvw0, yvwp1, yvwp2])
                    have F4 := C4
                    simp only [Cls, and_true] at F4
                    have y4w1 : w.heap.size + 1 < w4.heap.size := C4.blk (b := w.heap.size + 1) (k := 0) (v := .int .i64 0) (by simp)
                    have y4w0 : w.heap.size < w4.heap.size := (by omega)
                    have y4wp1 : w.heap.size < w4.heap.size + 1 := (by omega)
                    have y4wp2 : w.heap.size < w4.heap.size + 1 + 1 := (by omega)
                    go_wp2
                    refine bodyPost_ret (v := .agg #[.int .i64 3, .int .i64 i]) ?_ rfl ⟨by rw [HF.out], by repeat (first | with_reducible exact D4 | with_reducible apply bdrew | with_reducible apply bdrewN | with_reducible apply balloc | ((with_reducible refine bset ?_ ?_ _); rotate_left; (first | omega | (simp <;> omega))))⟩
                    simp [results, Try.results15, go_sem, F4, y4w1, y4w0, y4wp1, y4wp2]
                · obtain rfl : n = j := by omega
                  have HR0 := Lib.hid (show p.rowC i = 0 by
                    rw [HRC.out]; unfold rowF; rw [if_neg (fun e => e HRN.out), if_neg (fun e => e HYB.out), if_pos (fun a ha => HA.out a (by rw [List.take_of_length_le (by rw [HRN.out]; exact Nat.le_refl _)]; exact ha))])
                  go_wp2
                  go_roundw
                  case rel => exact ⟨i + 1, by omega, by go_num, Lib.hid (fun k hk => by
                    by_cases e : k = i
                    · rw [e]; exact HR0.out
                    · exact HR.out k (by omega)), (hBs.trans ((show Below w2.heap.size w2 w3 from hBv).mono hBs.size)), (Cls.below (w := w3) (by repeat (first | with_reducible exact Below.refl _ _ | with_reducible apply bdrew | with_reducible apply bdrewN | with_reducible apply balloc | ((with_reducible refine bset ?_ ?_ _); rotate_left; (first | omega | (simp <;> omega))))) hCv)⟩
                  case measure => simp [intOf]; omega
            · have HF := Lib.hid (HF4.out 3 (by rw [HRC.out]; unfold rowF; rw [if_neg (fun e => e HRN.out), if_pos hyb]) (by omega))
              have HYB := Lib.hid hyb
              clear hyb
              go_wp2_with fail
              refine (lwithin_no _ _ _ (by omega) (by omega) HYB.out).mono ?_
              rintro e w' ⟨rfl, rfl⟩
              go_wp2_with fail
              refine (lfault_any _ _ _).mono ?_
              rintro e w1 ⟨rfl, hB1⟩
              have D1 := dstep w hB1 (by repeat (first | with_reducible exact DS | with_reducible apply bdrew | with_reducible apply bdrewN | with_reducible apply balloc | ((with_reducible refine bset ?_ ?_ _); rotate_left; (first | omega | (simp <;> omega)))))
              have d1s := D1.size
              have C1 := Cls.below (l := [(w.heap.size, 0, .slice (some ad) m cr), (w.heap.size, 1, .slice (some ad2) m cb), (w.heap.size, 2, .slice AO n co), (w.heap.size + 1, 0, .int .i64 0), (w.heap.size + 1, 1, .int .i64 0)]) hB1 (by simp [Cls, go_sem, Fs, ysw1, ysw0, yswp1, yswp2])
              have F1 := C1
              simp only [Cls, and_true] at F1
              have y1w1 : w.heap.size + 1 < w1.heap.size := C1.blk (b := w.heap.size + 1) (k := 0) (v := .int .i64 0) (by simp)
              have y1w0 : w.heap.size < w1.heap.size := (by omega)
              have y1wp1 : w.heap.size < w1.heap.size + 1 := (by omega)
              have y1wp2 : w.heap.size < w1.heap.size + 1 + 1 := (by omega)
              go_wp2
              refine bodyPost_ret (v := .agg #[.int .i64 3, .int .i64 i]) ?_ rfl ⟨by rw [HF.out], by repeat (first | with_reducible exact D1 | with_reducible apply bdrew | with_reducible apply bdrewN | with_reducible apply balloc | ((with_reducible refine bset ?_ ?_ _); rotate_left; (first | omega | (simp <;> omega))))⟩
              simp [results, Try.results15, go_sem, F1, y1w1, y1w0, y1wp1, y1wp2]
          · have HF := Lib.hid (HF4.out 9 (by rw [HRC.out]; unfold rowF; rw [if_pos hrn]) (by omega))
            have hrn' : ¬ ((r.length : Int) = (n : Int)) := by omega
            go_wp2_with fail
            go_wp2_with fail
            refine (lfault_any _ _ _).mono ?_
            rintro e w1 ⟨rfl, hB1⟩
            have D1 := dstep w hB1 (by repeat (first | with_reducible exact DS | with_reducible apply bdrew | with_reducible apply bdrewN | with_reducible apply balloc | ((with_reducible refine bset ?_ ?_ _); rotate_left; (first | omega | (simp <;> omega)))))
            have d1s := D1.size
            have C1 := Cls.below (l := [(w.heap.size, 0, .slice (some ad) m cr), (w.heap.size, 1, .slice (some ad2) m cb), (w.heap.size, 2, .slice AO n co), (w.heap.size + 1, 0, .int .i64 0), (w.heap.size + 1, 1, .int .i64 0)]) hB1 (by simp [Cls, go_sem, Fs, ysw1, ysw0, yswp1, yswp2])
            have F1 := C1
            simp only [Cls, and_true] at F1
            have y1w1 : w.heap.size + 1 < w1.heap.size := C1.blk (b := w.heap.size + 1) (k := 0) (v := .int .i64 0) (by simp)
            have y1w0 : w.heap.size < w1.heap.size := (by omega)
            have y1wp1 : w.heap.size < w1.heap.size + 1 := (by omega)
            have y1wp2 : w.heap.size < w1.heap.size + 1 + 1 := (by omega)
            go_wp2
            refine bodyPost_ret (v := .agg #[.int .i64 9, .int .i64 i]) ?_ rfl ⟨by rw [HF.out], by repeat (first | with_reducible exact D1 | with_reducible apply bdrew | with_reducible apply bdrewN | with_reducible apply balloc | ((with_reducible refine bset ?_ ?_ _); rotate_left; (first | omega | (simp <;> omega))))⟩
            simp [results, Try.results15, go_sem, F1, y1w1, y1w0, y1wp1, y1wp2]
        · obtain rfl : m = i := by omega
          have HF := Lib.hid (lpF_ok ⟨by have := HNB.out; omega, by have := HNB.out; omega, HBE.out, HCO.out, fun k hk => HR.out k (by rw [← hrl.out]; exact hk)⟩)
          go_wp2_with fail
          refine bodyPost_ret (v := .agg #[.int .i64 0, .int .i64 0]) ?_ rfl ⟨by rw [HF.out], by repeat (first | with_reducible exact DS | with_reducible apply bdrew | with_reducible apply bdrewN | with_reducible apply balloc | ((with_reducible refine bset ?_ ?_ _); rotate_left; (first | omega | (simp <;> omega))))⟩
          simp [results, Try.results15, go_sem, Fs, ysw1, ysw0, yswp1, yswp2]

set_option maxRecDepth 100000 in
set_option maxHeartbeats 4000000 in
theorem lvalidate_any (w : World) (AR AB AO : Option Addr) (cr cb co : Nat) (p : LpV) (hM : LpMem w AR AB AO p) :
    Calls Try.prog 15 #[.agg #[.slice AR p.rows.length cr, .slice AB p.bounds.length cb, .slice AO p.obj.length co]] w fun e w' => e = .returned (.agg #[.int .i64 (lpF p).1, .int .i64 (lpF p).2]) ∧ Below w.heap.size w w' := by
  have hnr := hM.nr
  have hnb := hM.nb
  have hno := hM.no
  by_cases h1 : (p.rows.length : Int) > 6
  · have h1' : decide ((p.rows.length : Int) > 6) = true := decide_eq_true h1
    rw [lpF_1 (.inl (by omega))]
    go_enter Try.func15, Try.ntmps15
    go_wp2_with fail
    refine (lfault_any _ _ _).mono ?_
    rintro e w1 ⟨rfl, hB1⟩
    have D1 := dstep w hB1 (by repeat (first | with_reducible exact Below.refl _ _ | with_reducible apply bdrew | with_reducible apply bdrewN | with_reducible apply balloc | ((with_reducible refine bset ?_ ?_ _); rotate_left; (first | omega | (simp <;> omega)))))
    have d1s := D1.size
    have C1 := Cls.below (l := [(w.heap.size, 0, .slice AR p.rows.length cr), (w.heap.size, 1, .slice AB p.bounds.length cb), (w.heap.size, 2, .slice AO p.obj.length co), (w.heap.size + 1, 0, .int .i64 0), (w.heap.size + 1, 1, .int .i64 0)]) hB1 (by simp [Cls, go_sem])
    have F1 := C1
    simp only [Cls, and_true] at F1
    have y1w1 : w.heap.size + 1 < w1.heap.size := C1.blk (b := w.heap.size + 1) (k := 0) (v := .int .i64 0) (by simp)
    have y1w0 : w.heap.size < w1.heap.size := (by omega)
    have y1wp1 : w.heap.size < w1.heap.size + 1 := (by omega)
    have y1wp2 : w.heap.size < w1.heap.size + 1 + 1 := (by omega)
    go_wp2
    refine bodyPost_ret (v := .agg #[.int .i64 2, .int .i64 (-1)]) ?_ rfl ⟨rfl, by repeat (first | with_reducible exact D1 | with_reducible apply bdrew | with_reducible apply bdrewN | with_reducible apply balloc | ((with_reducible refine bset ?_ ?_ _); rotate_left; (first | omega | (simp <;> omega))))⟩
    simp [results, Try.results15, go_sem, F1, y1w1, y1w0, y1wp1, y1wp2]
  · have h1' : decide ((p.rows.length : Int) > 6) = false := decide_eq_false h1
    by_cases h2 : (p.obj.length : Int) > 6
    · have h2' : decide ((p.obj.length : Int) > 6) = true := decide_eq_true h2
      rw [lpF_1 (.inr (by omega))]
      go_enter Try.func15, Try.ntmps15
      go_wp2_with fail
      refine (lfault_any _ _ _).mono ?_
      rintro e w1 ⟨rfl, hB1⟩
      have D1 := dstep w hB1 (by repeat (first | with_reducible exact Below.refl _ _ | with_reducible apply bdrew | with_reducible apply bdrewN | with_reducible apply balloc | ((with_reducible refine bset ?_ ?_ _); rotate_left; (first | omega | (simp <;> omega)))))
      have d1s := D1.size
      have C1 := Cls.below (l := [(w.heap.size, 0, .slice AR p.rows.length cr), (w.heap.size, 1, .slice AB p.bounds.length cb), (w.heap.size, 2, .slice AO p.obj.length co), (w.heap.size + 1, 0, .int .i64 0), (w.heap.size + 1, 1, .int .i64 0)]) hB1 (by simp [Cls, go_sem])
      have F1 := C1
      simp only [Cls, and_true] at F1
      have y1w1 : w.heap.size + 1 < w1.heap.size := C1.blk (b := w.heap.size + 1) (k := 0) (v := .int .i64 0) (by simp)
      have y1w0 : w.heap.size < w1.heap.size := (by omega)
      have y1wp1 : w.heap.size < w1.heap.size + 1 := (by omega)
      have y1wp2 : w.heap.size < w1.heap.size + 1 + 1 := (by omega)
      go_wp2
      refine bodyPost_ret (v := .agg #[.int .i64 2, .int .i64 (-1)]) ?_ rfl ⟨rfl, by repeat (first | with_reducible exact D1 | with_reducible apply bdrew | with_reducible apply bdrewN | with_reducible apply balloc | ((with_reducible refine bset ?_ ?_ _); rotate_left; (first | omega | (simp <;> omega))))⟩
      simp [results, Try.results15, go_sem, F1, y1w1, y1w0, y1wp1, y1wp2]
    · have h2' : decide ((p.obj.length : Int) > 6) = false := decide_eq_false h2
      have HNB := Lib.hid (show ¬ (6 < p.rows.length ∨ 6 < p.obj.length) by omega)
      by_cases h3 : p.bounds.length = p.rows.length
      · have HBL := Lib.hid h3
        have h3' : ((p.bounds.length : Int) != (p.rows.length : Int)) = false := by simp [h3]
        have hr6 : p.rows.length ≤ 6 := by omega
        have ho6 : p.obj.length ≤ 6 := by omega
        have hcore := lvalidate_core w AR AB AO cr cb co p hM p.rows.length p.obj.length (Lib.hid rfl) (Lib.hid h3) (Lib.hid rfl) hr6 ho6
        rw [← h3] at hcore
        rw [h3] at hcore ⊢
        exact hcore
      · have h3' : ((p.bounds.length : Int) != (p.rows.length : Int)) = true := by simp; omega
        have h3'' : ¬ ((p.bounds.length : Int) = (p.rows.length : Int)) := by omega
        rw [lpF_2 HNB.out h3]
        go_enter Try.func15, Try.ntmps15
        go_wp2_with fail
        go_wp2_with fail
        refine (lfault_any _ _ _).mono ?_
        rintro e w1 ⟨rfl, hB1⟩
        have D1 := dstep w hB1 (by repeat (first | with_reducible exact Below.refl _ _ | with_reducible apply bdrew | with_reducible apply bdrewN | with_reducible apply balloc | ((with_reducible refine bset ?_ ?_ _); rotate_left; (first | omega | (simp <;> omega)))))
        have d1s := D1.size
        have C1 := Cls.below (l := [(w.heap.size, 0, .slice AR p.rows.length cr), (w.heap.size, 1, .slice AB p.bounds.length cb), (w.heap.size, 2, .slice AO p.obj.length co), (w.heap.size + 1, 0, .int .i64 0), (w.heap.size + 1, 1, .int .i64 0)]) hB1 (by simp [Cls, go_sem])
        have F1 := C1
        simp only [Cls, and_true] at F1
        have y1w1 : w.heap.size + 1 < w1.heap.size := C1.blk (b := w.heap.size + 1) (k := 0) (v := .int .i64 0) (by simp)
        have y1w0 : w.heap.size < w1.heap.size := (by omega)
        have y1wp1 : w.heap.size < w1.heap.size + 1 := (by omega)
        have y1wp2 : w.heap.size < w1.heap.size + 1 + 1 := (by omega)
        go_wp2
        refine bodyPost_ret (v := .agg #[.int .i64 9, .int .i64 (-2)]) ?_ rfl ⟨rfl, by repeat (first | with_reducible exact D1 | with_reducible apply bdrew | with_reducible apply bdrewN | with_reducible apply balloc | ((with_reducible refine bset ?_ ?_ _); rotate_left; (first | omega | (simp <;> omega))))⟩
        simp [results, Try.results15, go_sem, F1, y1w1, y1w0, y1wp1, y1wp2]


end Go.Proofs.Ytkepfmglljkjhaa
