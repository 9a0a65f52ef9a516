/-
  Several own rows side by side; the states that are reached from a state: plain and in memory.
-/
import Derived.Test.YtkepfmglljkjhaaBf2
import Derived.Test.YtkepfmglljkjhaaMA
import Derived.Test.YtkepfmglljkjhaaMC
namespace Go.Proofs.Ytkepfmglljkjhaa
open Go.RowKit
set_option linter.unusedVariables false
set_option linter.unusedSimpArgs false

/-! ### Rows side by side -/
def Sep (u v : Value) : Prop := ∀ k, u.ownBlock = some k → v.ownBlock ≠ some k
theorem Sep.symm {u v : Value} (h : Sep u v) : Sep v u := fun k h1 h2 => h k h2 h1
theorem sep_nil (v : Value) : Sep (.slice none 0 0) v := fun k h => by cases h
theorem Sep.next {u v v' : Value} {K : Nat} (h : Sep u v) (hv : v'.ownBlock = v.ownBlock ∨ v'.ownBlock = some K) (hu : ∀ k, u.ownBlock = some k → k < K) : Sep u v' := fun k h1 h2 => by
  rcases hv with e | e
  · exact h k h1 (by rw [← e]; exact h2)
  · rw [e] at h2; injection h2 with h2; have := hu k h1; omega
theorem own_grown_i {base : Nat} {w w' : World} {v u : Value} {xs : List Int} (h : OwnI base w v xs) (hg : w.grownBy w' u.ownBlock) (hne : Sep u v) : OwnI base w' v xs := by
  obtain ⟨h1, h2⟩ := h
  refine ⟨h1, ?_⟩
  rcases h2 with h2 | ⟨g, cap, cur, hv, hb, hh, r⟩
  · exact Or.inl h2
  · refine Or.inr ⟨g, cap, cur, hv, hb, (hg.block g ?_ (fun e => hne g e.symm (by rw [hv]; rfl))).trans hh, r⟩
    rcases Nat.lt_or_ge g w.heap.size with hl | hl
    · exact hl
    · rw [Array.getElem?_eq_none hl] at hh; cases hh
theorem OwnI.bnd {base : Nat} {w : World} {v : Value} {xs : List Int} (h : OwnI base w v xs) : ∀ k, v.ownBlock = some k → k < w.heap.size := fun k hk => (h.lt k hk).2
/-- append(v, y): what it does to the rows beside it. -/
theorem wpList_push_at {ops : Array Oper} {rest : List Oper} {o : Oper} {a : Act} {w : World} {Q : Exit → Act → World → Prop} (hgd : o.guard = none) (s x : Operand)
    (ho : o.op = .call { callee := .builtin .append, args := #[s, x], argTypes := #[23, 23] })
    (w0 : World) (l : List (Nat × Nat × Value)) (base : Nat) (v : Value) (xs : List Int) (y : Int) (hs : a.eval s = v) (hown : OwnI base w v xs) (ad : Addr) (m : Nat) (hx : a.eval x = .slice (some ad) 1 m) (hc : w.cell? ad = some (.int .i64 y))
    (hlen : xs.length < 1000000000000) (hbase : base ≤ w.heap.size) (h0 : w0.heap.size ≤ base) (hB : Below w0.heap.size w0 w) (hC : Cls w l) (hl : ∀ x ∈ l, x.1 < base)
    (h : ∀ v' w', OwnI base w' v' (xs ++ [y]) → Below w0.heap.size w0 w' → Cls w' l → w.heap.size ≤ w'.heap.size → w.grownBy w' v.ownBlock → (v'.ownBlock = v.ownBlock ∨ v'.ownBlock = some w.heap.size) → wpList Try.prog ops Q rest (a.put o.dst v') w') : wpList Try.prog ops Q (o :: rest) a w := by
  obtain ⟨i0, hi0, hz⟩ := Option.map_eq_some_iff.1 info_int
  simp only [Prod.mk.injEq] at hz
  have hown' : w.ownsRow base 3 1 v xs.length (xs.map (Value.int .i64)) := hown
  refine wpList_append_own_at w hgd s x 23 ho base 3 i0 (.int .i64 0) 1 8 Try.underlying23 hi0 hz.1 hz.2.1 hz.2.2 rfl (by decide) v xs.length (xs.map (Value.int .i64)) hs hown' ad 1 m [.int .i64 y] hx rfl ?_ ?_ ?_ ?_ hbase ?_
  · intro j u hu
    cases j with
    | zero => simp at hu; subst hu; rw [add_zero]; exact hc
    | succ j => simp at hu
  · intro u hu; simp at hu; subst hu; rfl
  · simp only [maxLen]; omega
  · omega
  · intro v' w' h1 h2 _ h4
    refine h v' w' ?_ (own_grown hB (OwnI.mono hown h0) h2 (Nat.le_trans h0 hbase)) (hC.grown hown' h2 hl) h2.size h2 h4
    unfold OwnI
    rw [List.length_append, List.map_append]
    exact h1
theorem own_one_int (w : World) (B : Nat) (y : Int) (k : Nat) (hk : k = w.heap.size) (hB : B ≤ k) : OwnI B (w.alloc (.cells #[.int .i64 y] 3)) (.slice (some ⟨k, 0, none⟩) 1 1) [y] := by
  subst hk
  exact ⟨by simp, .inr ⟨w.heap.size, 1, #[.int .i64 y], rfl, hB, Arr.new w _ [.int .i64 y], by simp, by decide, by simp, by simp⟩⟩
/-! ### A row of lists beside a row of integers -/
/-- The element leads to a list that lies apart from block u. -/
def PWl (u : Option Nat) (w : World) (row : Option Nat) (cs : List Value) (r : List Int) : Prop := ∃ A c, cs = [.slice A r.length c] ∧ Ints w A r ∧ (r ≠ [] → ∀ ad, A = some ad → some ad.block ≠ row ∧ some ad.block ≠ u ∧ ad.block < w.heap.size)
theorem ints_emp {w : World} {A : Option Addr} {r : List Int} (h : r = []) : Ints w A r := by subst h; exact Ints.nil _ _
theorem pwl_stable (u : Option Nat) : Stable (PWl u) := by
  constructor
  · rintro w w' row cs r ⟨A, c, e, hI, hn⟩ hb
    exact ⟨A, c, e, hI.below hb, fun h ad he => ⟨(hn h ad he).1, (hn h ad he).2.1, Nat.lt_of_lt_of_le (hn h ad he).2.2 hb.size⟩⟩
  · rintro w w' row cs r ⟨A, c, e, hI, hn⟩ hg
    have hI' : Ints w' A r := by
      by_cases h : r = []
      · exact ints_emp h
      · exact Ints.grown hI hg (fun ad he => (hn h ad he).1)
    refine ⟨⟨A, c, e, hI', fun h ad he => ⟨(hn h ad he).1, (hn h ad he).2.1, Nat.lt_of_lt_of_le (hn h ad he).2.2 hg.size⟩⟩, ⟨A, c, e, hI', fun h ad he => ⟨fun hc => ?_, (hn h ad he).2.1, Nat.lt_of_lt_of_le (hn h ad he).2.2 hg.size⟩⟩⟩
    injection hc with hc
    have := (hn h ad he).2.2
    omega
theorem pwl_of {u row : Option Nat} {w : World} {A : Option Addr} {c : Nat} {r : List Int} (hI : Ints w A r) (h : r ≠ [] → ∀ ad, A = some ad → some ad.block ≠ row ∧ some ad.block ≠ u ∧ ad.block < w.heap.size) : PWl u w row [.slice A r.length c] r := ⟨A, c, rfl, hI, h⟩
def OwnW (u : Option Nat) (base : Nat) (w : World) (v : Value) (ls : List (List Int)) : Prop := OwnEs (PWl u) 23 1 base w v ls
theorem OwnW.below {u : Option Nat} {base : Nat} {w w' : World} {v : Value} {ls : List (List Int)} (h : OwnW u base w v ls) (hb : Below w.heap.size w w') : OwnW u base w' v ls := OwnEs.below (pwl_stable u) h hb
/-- The row of integers is appended to. -/
theorem OwnW.other {u u' : Option Nat} {base : Nat} {w w' : World} {v : Value} {ls : List (List Int)} (h : OwnW u base w v ls) (hg : w.grownBy w' u) (hne : ∀ k, u = some k → v.ownBlock ≠ some k) (hu : u' = u ∨ u' = some w.heap.size) : OwnW u' base w' v ls := by
  obtain ⟨cells, ⟨h1, h2⟩, h3⟩ := h
  refine ⟨cells, ⟨h1, ?_⟩, fun i a ha => ?_⟩
  · rcases h2 with h2 | ⟨g, cap, cur, hv, hb, hh, r⟩
    · exact Or.inl h2
    · refine Or.inr ⟨g, cap, cur, hv, hb, (hg.block g ?_ (fun e => hne g e.symm (by rw [hv]; rfl))).trans hh, r⟩
      rcases Nat.lt_or_ge g w.heap.size with hl | hl
      · exact hl
      · rw [Array.getElem?_eq_none hl] at hh; cases hh
  · obtain ⟨A, c, e, hI, hn⟩ := h3 i a ha
    have hI' : Ints w' A a := by
      by_cases h : a = []
      · exact ints_emp h
      · exact Ints.grown hI hg (fun ad he => (hn h ad he).2.1)
    refine ⟨A, c, e, hI', fun h ad he => ⟨(hn h ad he).1, fun hc => ?_, Nat.lt_of_lt_of_le (hn h ad he).2.2 hg.size⟩⟩
    rcases hu with hu | hu
    · rw [hu] at hc; exact (hn h ad he).2.1 hc
    · rw [hu] at hc
      injection hc with hc
      have := (hn h ad he).2.2
      omega
/-- A slice of lists that is only read. -/
def LLR (w : World) (A : Option Addr) (ls : List (List Int)) : Prop := ∀ (i : Nat) (r : List Int), ls[i]? = some r → ∃ ad B c, A = some ad ∧ w.cell? (ad.add i) = some (.slice B r.length c) ∧ Ints w B r
theorem LLR.below {w w' : World} {A : Option Addr} {ls : List (List Int)} (h : LLR w A ls) (hb : Below w.heap.size w w') : LLR w' A ls := fun i r hr => by
  obtain ⟨ad, B, c, e, h1, h2⟩ := h i r hr
  exact ⟨ad, B, c, e, (hb.cell (World.block_lt_of_cell? w _ h1)).trans h1, h2.below hb⟩
theorem LLR.at_ {w : World} {A : Option Addr} {ls : List (List Int)} {k : Nat} (h : LLR w A ls) (hk : k < ls.length) : ∃ ad r B c, A = some ad ∧ Hid (ls[k]? = some r) ∧ w.cell? (ad.add k) = some (.slice B r.length c) ∧ Ints w B r := by
  obtain ⟨ad, B, c, e, h1, h2⟩ := h k _ (List.getElem?_eq_getElem hk)
  exact ⟨ad, _, B, c, e, Lib.hid (List.getElem?_eq_getElem hk), h1, h2⟩
theorem OwnW.llr {u : Option Nat} {base n c : Nat} {w : World} {A : Option Addr} {ls : List (List Int)} (h : OwnW u base w (.slice A n c) ls) : LLR w A ls := fun i r hr => by
  obtain ⟨g, cs, a, rfl, _, _, ha, _, hc, B, c', rfl, hI, _⟩ := OwnEs.at_ h (i := i) (List.getElem?_eq_some_iff.1 hr).1
  have : a = r := by have := ha.out; rw [hr] at this; injection this with this; exact this.symm
  subst this
  refine ⟨⟨g, 0, none⟩, B, c', rfl, ?_, hI⟩
  have h1 := hc 0 _ rfl
  rw [Nat.mul_one, Nat.add_zero] at h1
  have e : (⟨g, 0, none⟩ : Addr).add i = ⟨g, i, none⟩ := by
    unfold Addr.add
    split
    · rename_i hj; rw [hj]
    · simp
  rw [e]; exact h1
/-! ### The reached states -/
inductive Rch (n : Nat) (ops : List OpV) (s : List Int) : List Int → Prop
  | init : Rch n ops s s
  | step {r : List Int} {op : Nat} : Rch n ops s r → op < ops.length → CanV ops r (op : Int) → Rch n ops s (nextV n r (opAt ops (op : Int)))
structure RSt (n : Nat) (ops : List OpV) (st : List Int) (ls : List (List Int)) (k p : Nat) : Prop where
  head : ls[0]? = some st
  set : ∀ l ∈ ls, SetP l (n : Int)
  rch : ∀ l ∈ ls, Rch n ops st l
  nodup : ls.Nodup
  done : ∀ (j q : Nat) (l : List Int), (j < k ∨ (j = k ∧ q < p)) → q < ops.length → ls[j]? = some l → CanV ops l (q : Int) → nextV n l (opAt ops (q : Int)) ∈ ls
section
variable {n : Nat} {ops : List OpV} {st : List Int} {ls : List (List Int)} {k p : Nat}
theorem RSt.start (h : SetP st (n : Int)) : RSt n ops st [st] 0 0 := ⟨rfl, fun l hl => by rw [List.mem_singleton.1 hl]; exact h, fun l hl => by rw [List.mem_singleton.1 hl]; exact .init, by simp, fun j q l h => by omega⟩
theorem RSt.skip (h : RSt n ops st ls k p) {r : List Int} (hr : ls[k]? = some r) (hc : CanV ops r (p : Int) → nextV n r (opAt ops (p : Int)) ∈ ls) : RSt n ops st ls k (p + 1) :=
  ⟨h.head, h.set, h.rch, h.nodup, fun j q l hjq hq hl hcan => by
    by_cases e : j = k ∧ q = p
    · obtain ⟨rfl, rfl⟩ := e
      rw [hr] at hl
      injection hl with hl
      subst hl
      exact hc hcan
    · exact h.done j q l (by omega) hq hl hcan⟩
theorem RSt.add (h : RSt n ops st ls k p) {r : List Int} (hr : ls[k]? = some r) (hp : p < ops.length) (hc : CanV ops r (p : Int)) (hn : nextV n r (opAt ops (p : Int)) ∉ ls) : RSt n ops st (ls ++ [nextV n r (opAt ops (p : Int))]) k (p + 1) := by
  have hk := (List.getElem?_eq_some_iff.1 hr).1
  refine ⟨?_, fun l hl => ?_, fun l hl => ?_, ?_, fun j q l hjq hq hl hcan => ?_⟩
  · rw [List.getElem?_append_left (by omega)]; exact h.head
  · rcases List.mem_append.1 hl with e | e
    · exact h.set l e
    · rw [List.mem_singleton.1 e]; exact nextV_set n r _
  · rcases List.mem_append.1 hl with e | e
    · exact h.rch l e
    · rw [List.mem_singleton.1 e]; exact .step (h.rch r (List.mem_of_getElem? hr)) hp hc
  · rw [List.nodup_append]
    exact ⟨h.nodup, by simp, fun a ha b hb => by rw [List.mem_singleton.1 hb]; intro e; exact hn (e ▸ ha)⟩
  · rw [List.getElem?_append_left (by omega)] at hl
    by_cases e : j = k ∧ q = p
    · obtain ⟨rfl, rfl⟩ := e
      rw [hr] at hl
      injection hl with hl
      subst hl
      exact List.mem_append_right _ (List.mem_singleton.2 rfl)
    · exact List.mem_append_left _ (h.done j q l (by omega) hq hl hcan)
theorem RSt.row (h : RSt n ops st ls k p) (hp : ops.length ≤ p) : RSt n ops st ls (k + 1) 0 := ⟨h.head, h.set, h.rch, h.nodup, fun j q l hjq hq hl hc => h.done j q l (by omega) hq hl hc⟩
theorem RSt.word (h : RSt n ops st ls k p) {r : List Int} (hr : SetP r (n : Int)) : wordV r ∈ ls.map wordV ↔ r ∈ ls := by
  constructor
  · intro hm
    obtain ⟨l, hl, e⟩ := List.mem_map.1 hm
    rw [← word_inj (h.set l hl) hr e]; exact hl
  · exact fun hm => List.mem_map.2 ⟨r, hm, rfl⟩
end

end Go.Proofs.Ytkepfmglljkjhaa
