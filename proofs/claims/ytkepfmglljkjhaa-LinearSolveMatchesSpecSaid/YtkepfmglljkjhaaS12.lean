/-
  The dual program of the reference (Transposed).
  Steps of regions that draw: append of rows, of whole lists; rows that are exchanged.
  append of lists as a step of a region that draws, with what grew; one row, one integer in a block of its own.
  The program with a further row: one invariant for all orders in which its parts may be made.
  The table of an elimination in memory: rows that can be written and exchanged.
  eliminated: the elimination of a square system in memory.
-/
import Derived.Test.YtkepfmglljkjhaaS8
import Derived.Test.YtkepfmglljkjhaaS11
import Derived.Test.YtkepfmglljkjhaaS9
import Derived.Deep.AppendLies
import Derived.Test.YtkepfmglljkjhaaS4
import Derived.Test.YtkepfmglljkjhaaS13
import Derived.Test.YtkepfmglljkjhaaS5
import Derived.Test.YtkepfmglljkjhaaS7
namespace Go.Proofs.Ytkepfmglljkjhaa
open Go.RowKit
set_option linter.unusedVariables false
set_option linter.unusedSimpArgs false
theorem LpOk.c_le {p : LpV} (h : LpOk p) (i : Nat) : -20 ≤ p.lp.c i ∧ p.lp.c i ≤ 20 := by
  show -20 ≤ (p.obj[i]?).getD 0 ∧ (p.obj[i]?).getD 0 ≤ 20
  cases e : p.obj[i]? with
  | none => simp
  | some b => exact h.c b (List.mem_of_getElem? e)
/-! ### Rows of own lists, whose blocks are known -/
def PAx (base : Nat) (w : World) (row : Option Nat) (cs : List Value) (x : Option Addr × Nat × List Int) : Prop :=
  cs = [.slice x.1 x.2.2.length x.2.1] ∧ Ints w x.1 x.2.2 ∧ NilOk x.1 x.2.2 x.2.1 ∧ ∀ ad, x.1 = some ad → some ad.block ≠ row ∧ base ≤ ad.block ∧ ad.block < w.heap.size
theorem pax_stable (base : Nat) : Stable (PAx base) := by
  constructor
  · rintro w w' row cs x ⟨e, hI, hn, hb⟩ hB
    exact ⟨e, hI.below hB, hn, fun ad h => ⟨(hb ad h).1, (hb ad h).2.1, Nat.lt_of_lt_of_le (hb ad h).2.2 hB.size⟩⟩
  · rintro w w' row cs x ⟨e, hI, hn, hb⟩ hg
    have hI' : Ints w' x.1 x.2.2 := Ints.grown hI hg (fun ad h => (hb ad h).1)
    have hlt : ∀ ad, x.1 = some ad → ad.block < w'.heap.size := fun ad h => Nat.lt_of_lt_of_le (hb ad h).2.2 hg.size
    exact ⟨⟨e, hI', hn, fun ad h => ⟨(hb ad h).1, (hb ad h).2.1, hlt ad h⟩⟩, ⟨e, hI', hn, fun ad h => ⟨fun e => by injection e with e; have := (hb ad h).2.2; omega, (hb ad h).2.1, hlt ad h⟩⟩⟩
def OwnAx (base : Nat) (w : World) (v : Value) (els : List (Option Addr × Nat × List Int)) : Prop := OwnEs (PAx base) 23 1 base w v els
section
variable {base : Nat} {w w' : World} {v : Value} {els : List (Option Addr × Nat × List Int)}
theorem OwnAx.below (h : OwnAx base w v els) (hb : Below w.heap.size w w') : OwnAx base w' v els := OwnEs.below (pax_stable _) h hb
theorem OwnAx.far (h : OwnAx base w v els) {p : Addr} (hp : p.block < base) (u : Value) : OwnAx base (w.setCell p u) v els :=
  OwnEs.far h (fun {w row cs a p u} h hp => ⟨h.1, Ints.far h.2.1 (fun ad e => by have := (h.2.2.2 ad e).2.1; omega) _, h.2.2.1, fun ad e => by
    have := h.2.2.2 ad e
    exact ⟨this.1, this.2.1, by simpa using this.2.2⟩⟩) hp u
theorem OwnAx.other {r : Option Nat} (h : OwnAx base w v els) (hg : w.grownBy w' r) (h1 : ∀ k, v.ownBlock = some k → r ≠ some k) (h2 : ∀ x ∈ els, ∀ ad, x.1 = some ad → r ≠ some ad.block) : OwnAx base w' v els := by
  obtain ⟨cells, ⟨a1, a2⟩, h3⟩ := h
  refine ⟨cells, ⟨a1, ?_⟩, fun i a ha => ?_⟩
  · rcases a2 with a2 | ⟨g, cap, cur, hv, hb, hh, rr⟩
    · exact Or.inl a2
    · refine Or.inr ⟨g, cap, cur, hv, hb, ?_, rr⟩
      have hlt : g < w.heap.size := by
        rcases Nat.lt_or_ge g w.heap.size with hl | hl
        · exact hl
        · rw [Array.getElem?_eq_none hl] at hh; cases hh
      rw [hg.block g hlt (fun e => h1 g (by rw [hv]; rfl) e.symm)]
      exact hh
  · obtain ⟨e, hI, hn, hb⟩ := h3 i a ha
    exact ⟨e, Ints.grown hI hg (fun ad h => fun e => h2 a (List.mem_of_getElem? ha) ad h e.symm), hn, fun ad h => ⟨(hb ad h).1, (hb ad h).2.1, Nat.lt_of_lt_of_le (hb ad h).2.2 hg.size⟩⟩
theorem OwnAx.read {n c : Nat} {A : Option Addr} (h : OwnAx base w (.slice A n c) els) : RowsRead w A (els.map (·.2.2)) := fun i r hr => by
  rw [List.getElem?_map] at hr
  obtain ⟨x, hx, rfl⟩ := Option.map_eq_some_iff.1 hr
  obtain ⟨g, cs, a, e, hb, hlt, ha, hl, hc, hp⟩ := OwnEs.at_ h (i := i) (List.getElem?_eq_some_iff.1 hx).1
  have hax : a = x := by have := ha.out; rw [hx] at this; injection this with this; exact this.symm
  subst hax
  obtain ⟨e1, hI, hn, _⟩ := hp
  subst e1
  have h0 := hc 0 _ rfl
  refine ⟨⟨g, 0, none⟩, a.1, a.2.1, e, ?_, hI, hn⟩
  have e3 : ((⟨g, 0, none⟩ : Addr).add i) = ⟨g, i, none⟩ := by
    unfold Addr.add
    split
    · rename_i hj; subst hj; rfl
    · simp
  rw [e3]
  simpa using h0
end
theorem OwnI.nilok {base n c : Nat} {w : World} {A : Option Addr} {xs : List Int} (h : OwnI base w (.slice A n c) xs) : NilOk A xs c := by
  have h1 := h.cap_le
  have h2 := h.cap_max
  have h3 := h.len
  obtain ⟨A', c', e, h4, _⟩ := h.form
  injection e with e1 e2 e3
  subst e1; subst e3
  exact ⟨h4, by omega, h2⟩
theorem step_push_at {ops : Array Oper} {o : Oper} {a : Act} {w : World} {K : Act → World → Prop} {Q : Exit → Act → World → Prop} {E : Prop} (hgd : o.guard = none) (s x : Operand)
    (ho : o.op = .call { callee := .builtin .append, args := #[s, x], argTypes := #[23, 23] })
    (w0 : World) (l : List (Nat × Nat × Value)) (base : Nat) (v : Value) (xs : List Int) (y : Int) (hs : a.eval s = v) (hown : OwnI base w v xs) (ad : Addr) (m : Nat) (hx : a.eval x = .slice (some ad) 1 m) (hc : w.cell? ad = some (.int .i64 y))
    (hlen : xs.length < 1000000000000) (hbase : base ≤ w.heap.size) (h0 : w0.heap.size ≤ base) (hB : Below w0.heap.size w0 w) (hC : Cls w l) (hl : ∀ x ∈ l, x.1 < base)
    (h : ∀ g cap w', OwnI base w' (.slice (some ⟨g, 0, none⟩) (xs.length + 1) cap) (xs ++ [y]) → Below w0.heap.size w0 w' → Cls w' l → w.heap.size ≤ w'.heap.size → w.grownBy w' v.ownBlock → (v.ownBlock = some g ∨ g = w.heap.size) → K (a.put o.dst (.slice (some ⟨g, 0, none⟩) (xs.length + 1) cap)) w') :
    if Region.wanted o (yielded ops a.tmps) = true then Oper.wp Try.prog o a w K Q else E := by
  obtain ⟨i0, hi0, hz⟩ := Option.map_eq_some_iff.1 info_int
  simp only [Prod.mk.injEq] at hz
  have hown' : w.ownsRow base 3 1 v xs.length (xs.map (Value.int .i64)) := hown
  refine step_append_lies w hgd s x 23 ho base 3 i0 (.int .i64 0) 1 8 Try.underlying23 hi0 hz.1 hz.2.1 hz.2.2 rfl (by decide) v xs.length (xs.map (Value.int .i64)) hs hown' ad 1 m [.int .i64 y] hx rfl ?_ ?_ (by decide) ?_ ?_ hbase _ rfl ?_
  · intro j u hu
    cases j with
    | zero => simp at hu; subst hu; rw [add_zero]; exact hc
    | succ j => simp at hu
  · intro u hu; simp at hu; subst hu; rfl
  · simp only [maxLen]; omega
  · omega
  · intro g cap w' h1 h2 h3 h4
    have h5 : OwnI base w' (.slice (some ⟨g, 0, none⟩) (xs.length + 1) cap) (xs ++ [y]) := by
      unfold OwnI
      rw [List.length_append, List.map_append]
      exact h1
    exact h _ _ _ h5 (own_grown hB (OwnI.mono hown h0) h2 (Nat.le_trans h0 hbase)) (hC.grown hown' h2 hl) h2.size h2 h3

end Go.Proofs.Ytkepfmglljkjhaa

namespace Go.Proofs.Ytkepfmglljkjhaa
open Go.RowKit
set_option linter.unusedVariables false
set_option linter.unusedSimpArgs false

section
variable {P : Program} {w : World}
theorem step_append_own_at {ops : Array Oper} {o : Oper} {a : Act} {K : Act → World → Prop} {Q : Exit → Act → World → Prop} {E : Prop} (hgd : o.guard = none) (s x : Operand) (t : TypeId)
    (ho : o.op = .call { callee := .builtin .append, args := #[s, x], argTypes := #[t, t] })
    (base : Nat) (e : TypeId) (i : TypeInfo) (z : Value) (size bytes : Nat) (ht : P.underlying t = some (.slice e)) (hi : P.info? e = some i) (hz : i.zero = some z)
    (hsize : i.size = size) (hby : i.bytes = bytes) (hzs : z.cells.size = size) (hsz : 0 < size)
    (v : Value) (n : Nat) (xs : List Value) (hs : a.eval s = v) (hown : w.ownsRow base e size v n xs)
    (ad : Addr) (m c : Nat) (news : List Value) (hx : a.eval x = .slice (some ad) m c) (hl : news.length = m * size) (hnews : ∀ j u, news[j]? = some u → w.cell? (ad.add j) = some u) (h1 : ∀ u ∈ news, u.oneCell' = true)
    (h63 : n + m ≤ maxLen) (hbytes : (n + m) * bytes ≤ 140737488355328) (hbase : base ≤ w.heap.size)
    (h : ∀ v' w', w'.ownsRow base e size v' (n + m) (xs ++ news) → w.grownBy w' v.ownBlock → (v' = .slice none 0 0 ↔ v = .slice none 0 0 ∧ m = 0) → (v'.ownBlock = v.ownBlock ∨ v'.ownBlock = some w.heap.size) → K (a.put o.dst v') w') :
    if Region.wanted o (yielded ops a.tmps) = true then Oper.wp P o a w K Q else E := by
  have hw : Region.wanted o (yielded ops a.tmps) = true := by simp [Region.wanted, hgd]
  rw [if_pos hw]
  obtain ⟨v', w', hr, h2, h3, h4, h5⟩ := run_append_own_at (P := P) (w := w) base t o.type e i z size bytes ht hi hz hsize hby hzs hsz v n xs hown ad m c news hl hnews h1 h63 hbytes hbase
  unfold Oper.wp execOp
  simp only [ho, resolve, invoke, builtin, Sem.run_bind, Sem.run_pure, Result.andThen_ok, List.map_toArray, List.map_cons, List.map_nil, hs, hx, hr]
  exact h _ _ h2 h3 h4 h5
theorem step_append_own_none {ops : Array Oper} {o : Oper} {a : Act} {K : Act → World → Prop} {Q : Exit → Act → World → Prop} {E : Prop} (hgd : o.guard = none) (s x : Operand) (t : TypeId)
    (ho : o.op = .call { callee := .builtin .append, args := #[s, x], argTypes := #[t, t] })
    (base : Nat) (e : TypeId) (i : TypeInfo) (size : Nat) (ht : P.underlying t = some (.slice e)) (hi : P.info? e = some i)
    (v : Value) (n : Nat) (xs : List Value) (hs : a.eval s = v) (hown : w.ownsRow base e size v n xs) (hx : a.eval x = .slice none 0 0)
    (h : K (a.put o.dst v) w) : if Region.wanted o (yielded ops a.tmps) = true then Oper.wp P o a w K Q else E := by
  have hw : Region.wanted o (yielded ops a.tmps) = true := by simp [Region.wanted, hgd]
  rw [if_pos hw]
  have hrun := run_append_owned_none (P := P) (w := w) base t o.type e i size ht hi v n xs hown
  unfold Oper.wp
  simp [execOp, ho, resolve, invoke, builtin, hs, hx, hrun, Result.andThen]
  exact h
end
/-- A cell that leads to a list of integers that lies below block K. -/
def PAo (K : Nat) (w : World) (row : Option Nat) (cs : List Value) (r : List Int) : Prop :=
  ∃ A c, cs = [.slice A r.length c] ∧ Ints w A r ∧ NilOk A r c ∧ (r ≠ [] → ∀ ad, A = some ad → ad.block < K ∧ some ad.block ≠ row)
theorem pao_stable (K : Nat) : Stable (PAo K) := by
  constructor
  · rintro w w' row cs r ⟨A, c, e, hI, hn, ha⟩ hb
    exact ⟨A, c, e, hI.below hb, hn, ha⟩
  · rintro w w' row cs r ⟨A, c, e, hI, hn, ha⟩ hg
    have hI' := hI.grown2 hg (fun hr ad h => (ha hr ad h).2)
    refine ⟨⟨A, c, e, hI', hn, ha⟩, ⟨A, c, e, hI', hn, fun hr ad h => ⟨(ha hr ad h).1, fun k => ?_⟩⟩⟩
    subst h
    have := ints_lt hI hr
    injection k with k
    omega
def OwnLO (K base : Nat) (w : World) (v : Value) (rows : List (List Int)) : Prop := OwnEs (PAo K) 23 1 base w v rows
theorem OwnLO.below {K base : Nat} {w w' : World} {v : Value} {rows : List (List Int)} (h : OwnLO K base w v rows) (hb : Below w.heap.size w w') : OwnLO K base w' v rows := OwnEs.below (pao_stable K) h hb
/-! ### Rows in a block whose cells can be written -/
def RowsAt (K : Nat) (w : World) (g : Nat) (ls : List (List Int)) : Prop :=
  (∀ j : Nat, w.frozen? ⟨g, j, none⟩ = false) ∧ ∀ (j : Nat) (r : List Int), ls[j]? = some r → ∃ B c, w.cell? ⟨g, j, none⟩ = some (.slice B r.length c) ∧ Ints w B r ∧ NilOk B r c ∧ (r ≠ [] → ∀ ad, B = some ad → ad.block < K)
theorem RowsAt.below {K : Nat} {w w' : World} {g : Nat} {ls : List (List Int)} (h : RowsAt K w g ls) (hg : g < w.heap.size) (hb : Below w.heap.size w w') : RowsAt K w' g ls :=
  ⟨fun j => (hb.frozen (p := ⟨g, j, none⟩) hg).trans (h.1 j), fun j r hr => by
    obtain ⟨B, c, h1, h2, h3, h4⟩ := h.2 j r hr
    exact ⟨B, c, (hb.cell (World.block_lt_of_cell? w _ h1)).trans h1, h2.below hb, h3, h4⟩⟩
theorem RowsAt.read {K : Nat} {w : World} {g : Nat} {ls : List (List Int)} (h : RowsAt K w g ls) : RowsRead w (some ⟨g, 0, none⟩) ls := fun j r hr => by
  obtain ⟨B, c, h1, h2, h3, h4⟩ := h.2 j r hr
  refine ⟨⟨g, 0, none⟩, B, c, rfl, ?_, h2, h3⟩
  have e : ((⟨g, 0, none⟩ : Addr).add j) = ⟨g, j, none⟩ := by
    unfold Addr.add; split
    · rename_i hj; subst hj; rfl
    · simp
  rw [e]; exact h1
theorem Ints.off {w : World} {B : Option Addr} {r : List Int} (h : Ints w B r) {p : Addr} (hne : r ≠ [] → ∀ ad, B = some ad → ad.block ≠ p.block) (u : Value) : Ints (w.setCell p u) B r := by
  by_cases e : r = []
  · subst e; exact Ints.nil _ _
  · exact h.far (hne e) u
theorem RowsAt.set_ {K : Nat} {w : World} {g i : Nat} {ls : List (List Int)} (h : RowsAt K w g ls) (hK : K ≤ g) (hi : i < ls.length) {B : Option Addr} {r : List Int} {c n : Nat} (hrn : r.length = n) (hI : Ints w B r) (hn : NilOk B r c) (hf : r ≠ [] → ∀ ad, B = some ad → ad.block < K) :
    RowsAt K (w.setCell ⟨g, i, none⟩ (.slice B n c)) g (ls.set i r) := by
  subst hrn
  exact ⟨fun j => by rw [World.frozen?_setCell]; exact h.1 j, fun j q hq => by
    rw [List.getElem?_set] at hq
    by_cases e : i = j
    · subst e
      rw [if_pos rfl, if_pos hi] at hq
      injection hq with hq
      subst hq
      obtain ⟨B', c', h1, _⟩ := h.2 i _ (List.getElem?_eq_getElem hi)
      exact ⟨B, c, World.cell?_setCell_same w _ _ h1, hI.off (fun hr ad e2 => by have := hf hr ad e2; show ad.block ≠ g; omega) _, hn, hf⟩
    · rw [if_neg e] at hq
      obtain ⟨B', c', h1, h2, h3, h4⟩ := h.2 j q hq
      exact ⟨B', c', by rw [World.cell?_setCell_other w _ _ _ (fun e2 => e (by injection e2))]; exact h1, h2.off (fun hr ad e2 => by have := h4 hr ad e2; show ad.block ≠ g; omega) _, h3, h4⟩⟩
theorem RowsAt.far {K : Nat} {w : World} {g : Nat} {ls : List (List Int)} (h : RowsAt K w g ls) {p : Addr} (hp : p.block ≠ g) (hq : K ≤ p.block) (u : Value) : RowsAt K (w.setCell p u) g ls :=
  ⟨fun j => by rw [World.frozen?_setCell]; exact h.1 j, fun j r hr => by
    obtain ⟨B, c, h1, h2, h3, h4⟩ := h.2 j r hr
    exact ⟨B, c, by rw [World.cell?_setCell_other w _ _ _ (fun e => hp (by rw [e]))]; exact h1, h2.off (fun hne ad e => by have := h4 hne ad e; omega) _, h3, h4⟩⟩
/-- Where the rows of an argument lie. -/
theorem RowsRead.old {w w' : World} {A : Option Addr} {ls : List (List Int)} (h : RowsRead w A ls) (hb : Below w.heap.size w w') (i : Nat) (r : List Int) (B : Addr) (cc : Nat) (hr : ls[i]? = some r) (hne : r ≠ []) (hc : ∃ ad, A = some ad ∧ w'.cell? (ad.add i) = some (.slice (some B) r.length cc)) : B.block < w.heap.size := by
  obtain ⟨ad, B', c', e, h1, h2, _⟩ := h i r hr
  obtain ⟨ad', e', h3⟩ := hc
  rw [e] at e'
  injection e' with e'
  subst e'
  rw [(hb.cell (World.block_lt_of_cell? w _ h1)).trans h1] at h3
  injection h3 with h3
  injection h3 with h3
  subst h3
  exact ints_lt h2 hne
theorem RowsAt.alloc_ {K : Nat} {w : World} {g : Nat} {ls : List (List Int)} (h : RowsAt K w g ls) (hg : g < w.heap.size) (o : Obj) : RowsAt K (w.alloc o) g ls := h.below hg ((Below.refl _ _).alloc (Nat.le_refl _) o)
theorem OwnI.alloc_ {base : Nat} {w : World} {v : Value} {xs : List Int} (h : OwnI base w v xs) (o : Obj) : OwnI base (w.alloc o) v xs := OwnI.below h ((Below.refl _ _).alloc (Nat.le_refl _) o)
/-! ### Two rows that are exchanged -/
section
variable {p : LpV} {i k : Nat} {r q : List Int} {x y : Int}
end

end Go.Proofs.Ytkepfmglljkjhaa

namespace Go.Proofs.Ytkepfmglljkjhaa
open Go.RowKit
set_option linter.unusedVariables false
set_option linter.unusedSimpArgs false

theorem cls_grown_off {w w' : World} {row : Option Nat} {l : List (Nat × Nat × Value)} (hC : Cls w l) (hg : w.grownBy w' row) (hl : ∀ x ∈ l, some x.1 ≠ row) : Cls w' l := by
  induction l with
  | nil => trivial
  | cons x r ih =>
    obtain ⟨b, k, u⟩ := x
    obtain ⟨⟨h1, h2⟩, h3⟩ := hC
    have hlt := World.block_lt_of_cell? w ⟨b, k, none⟩ h1
    have hne : w'.heap[b]? = w.heap[b]? := hg.block b hlt (hl (b, k, u) (by simp))
    exact ⟨⟨(World.cell?_of_block (w := w) hne).trans h1, (World.frozen?_of_block (w := w) hne).trans h2⟩, ih h3 (fun x hx => hl x (by simp [hx]))⟩
theorem step_catI2 {ops : Array Oper} {o : Oper} {a : Act} {w : World} {K : Act → World → Prop} {Q : Exit → Act → World → Prop} {E : Prop} (hgd : o.guard = none) (s x : Operand)
    (ho : o.op = .call { callee := .builtin .append, args := #[s, x], argTypes := #[23, 23] })
    (base : Nat) (v : Value) (xs : List Int) (hs : a.eval s = v) (hown : OwnI base w v xs) (A : Option Addr) (c m : Nat) (ys : List Int) (hx : a.eval x = .slice A m c) (hm : ys.length = m) (hnil : A = none → c = 0) (hI : Ints w A ys)
    (zs : List Int) (hzs : xs ++ ys = zs) (hlen : (xs.length + m) * 8 ≤ 140737488355328) (hbase : base ≤ w.heap.size)
    (h : ∀ v' w', OwnI base w' v' zs → w.grownBy w' v.ownBlock → (v'.ownBlock = v.ownBlock ∨ v'.ownBlock = some w.heap.size) → K (a.put o.dst v') w') : if Region.wanted o (yielded ops a.tmps) = true then Oper.wp Try.prog o a w K Q else E := by
  obtain ⟨i0, hi0, hz⟩ := Option.map_eq_some_iff.1 info_int
  simp only [Prod.mk.injEq] at hz
  subst hm
  subst hzs
  have hown' : w.ownsRow base 3 1 v xs.length (xs.map (Value.int .i64)) := hown
  cases A with
  | none =>
    have hys : ys = [] := by
      cases ys with
      | nil => rfl
      | cons y ys => obtain ⟨ad, e, _⟩ := hI 0 (.int .i64 y) (by simp); cases e
    subst hys
    obtain rfl := hnil rfl
    refine step_append_own_none hgd s x 23 ho base 3 i0 1 Try.underlying23 hi0 v xs.length (xs.map (Value.int .i64)) hs hown' hx ?_
    exact h v w (by rw [List.append_nil]; exact hown) (World.grownBy.refl w _) (Or.inl rfl)
  | some ad =>
    refine step_append_own_at hgd s x 23 ho base 3 i0 (.int .i64 0) 1 8 Try.underlying23 hi0 hz.1 hz.2.1 hz.2.2 rfl (by decide) v xs.length (xs.map (Value.int .i64)) hs hown' ad ys.length c (ys.map (Value.int .i64)) hx (by simp) ?_ ?_ ?_ ?_ hbase ?_
    · intro j u hu
      obtain ⟨ad', e, hc⟩ := hI j u hu
      rw [Option.some.inj e]
      exact hc
    · intro u hu
      obtain ⟨y, _, rfl⟩ := List.mem_map.1 hu
      rfl
    · simp only [maxLen]; omega
    · omega
    · intro v' w' h1 h2 _ h4
      refine h v' w' ?_ h2 h4
      unfold OwnI
      rw [List.length_append, List.map_append]
      exact h1
end Go.Proofs.Ytkepfmglljkjhaa

namespace Go.Proofs.Ytkepfmglljkjhaa
open Go.RowKit
set_option linter.unusedVariables false
set_option linter.unusedSimpArgs false

theorem OwnLO.kept {K base : Nat} {w w' : World} {v : Value} {rows : List (List Int)} {row : Option Nat} (h : OwnLO K base w v rows) (hg : w.grownBy w' row) (hK : ∀ k, row = some k → K ≤ k) (hne : ∀ k, v.ownBlock = some k → row ≠ some k) : OwnLO K base w' v rows := by
  obtain ⟨cells, hr, hcs⟩ := h
  refine ⟨cells, hr.kept hg ?_, fun i r ha => ?_⟩
  · cases hv : v.ownBlock with
    | none => exact .inl rfl
    | some k => exact .inr (fun e => hne k hv e.symm)
  · obtain ⟨A, c, e, hI, hn, hf⟩ := hcs i r ha
    refine ⟨A, c, e, hI.grown2 hg (fun hr ad hA e => ?_), hn, hf⟩
    have h1 := (hf hr ad hA).1
    have h2 := hK _ e.symm
    omega
theorem OwnI.kept {base : Nat} {w w' : World} {v : Value} {xs : List Int} {row : Option Nat} (h : OwnI base w v xs) (hg : w.grownBy w' row) (hne : ∀ k, v.ownBlock = some k → row ≠ some k) : OwnI base w' v xs :=
  World.ownsRow.kept h hg (by
    cases hv : v.ownBlock with
    | none => exact .inl rfl
    | some k => exact .inr (fun e => hne k hv e.symm))
theorem RowsAt.kept {K g : Nat} {w w' : World} {ls : List (List Int)} {row : Option Nat} (h : RowsAt K w g ls) (hg : w.grownBy w' row) (hlt : g < w.heap.size) (hK : ∀ k, row = some k → K ≤ k) (hne : row ≠ some g) : RowsAt K w' g ls := by
  have hb : w'.heap[g]? = w.heap[g]? := hg.block g hlt (fun e => hne e.symm)
  refine ⟨fun j => (World.frozen?_of_block (a := ⟨g, j, none⟩) hb).trans (h.1 j), fun j r hr => ?_⟩
  obtain ⟨B, c, h1, h2, h3, h4⟩ := h.2 j r hr
  refine ⟨B, c, (World.cell?_of_block (a := ⟨g, j, none⟩) hb).trans h1, h2.grown2 hg (fun hr ad hA e => ?_), h3, h4⟩
  have h5 := h4 hr ad hA
  have h6 := hK _ e.symm
  omega
theorem OwnLO.blk {K base : Nat} {w : World} {v : Value} {rows : List (List Int)} (h : OwnLO K base w v rows) : ∀ k, v.ownBlock = some k → base ≤ k ∧ k < w.heap.size := OwnEs.lt h
theorem OwnI.blk2 {base : Nat} {w : World} {v : Value} {xs : List Int} (h : OwnI base w v xs) : ∀ k, v.ownBlock = some k → base ≤ k ∧ k < w.heap.size := fun k hk => World.ownsRow.lt h k hk
section
variable (w : World) (s1 : Nat) (p : LpV) (r : List Int) (y : Int) (R0 : Option Addr) (lr cz m mb : Nat) (ob : Value) (box : List (Nat × Nat × Value))
/-- What holds of each part that is made. -/
structure LmrC (c : Nat → Nat) (L : Nat → Bool) (W : World) (t16 t18 t19 t22 t24 t25 t28 t7 : Value) : Prop where
  f2 : L 2 = true → L 5 = false → OwnLO w.heap.size s1 W t16 p.rows ∧ ∀ k, t16.ownBlock = some k → c k = 2
  f4 : L 4 = true → L 5 = false → ∃ b, t18 = .slice (some ⟨b, 0, none⟩) 1 1 ∧ W.cell? ⟨b, 0, none⟩ = some (.slice R0 lr cz) ∧ c b = 4
  f5 : L 5 = true → ∃ g cg, t19 = .slice (some ⟨g, 0, none⟩) (m + 1) cg ∧ g < W.heap.size ∧ RowsAt w.heap.size W g (p.rows ++ [r]) ∧ c g = 5
  f8 : L 8 = true → L 11 = false → OwnI s1 W t22 p.bounds ∧ ∀ k, t22.ownBlock = some k → c k = 8
  f10 : L 10 = true → L 11 = false → ∃ b, t24 = .slice (some ⟨b, 0, none⟩) 1 1 ∧ W.cell? ⟨b, 0, none⟩ = some (.int .i64 y) ∧ c b = 10
  f11 : L 11 = true → ∃ A' ca, t25 = .slice A' (mb + 1) ca ∧ OwnI s1 W t25 (p.bounds ++ [y]) ∧ ∀ k, t25.ownBlock = some k → c k = 11
  f14 : L 14 = true → t28 = .agg #[t19, t25, ob] ∧ L 5 = true ∧ L 11 = true
  f16 : L 16 = true → L 14 = true ∧ L 15 = true
  f15 : L 15 = true → ∃ g, t7 = .pointer (some ⟨g, 0, none⟩) ∧ s1 ≤ g ∧ c g = 15 ∧ Cls W (if L 16 = true then [(g, 0, t19), (g, 1, t25), (g, 2, ob)] else [(g, 0, .slice none 0 0), (g, 1, .slice none 0 0), (g, 2, .slice none 0 0)])
def LmrI (L : Nat → Bool) (vs : List Value) (W : World) : Prop :=
  ∃ t16 t18 t19 t22 t24 t25 t28 t7, vs = [t16, t18, t19, t22, t24, t25, t28, t7] ∧ Below w.heap.size w W ∧ w.heap.size < s1 ∧ s1 ≤ W.heap.size ∧ Cls W box ∧ (∀ x ∈ box, x.1 < s1) ∧ ∃ c, LmrC w s1 p r y R0 lr cz m mb ob c L W t16 t18 t19 t22 t24 t25 t28 t7
end
section
variable {w : World} {s1 : Nat} {p : LpV} {r : List Int} {y : Int} {R0 : Option Addr} {lr cz m mb : Nat} {ob : Value} {box : List (Nat × Nat × Value)} {c : Nat → Nat} {L L' : Nat → Bool} {W W' : World} {t16 t18 t19 t22 t24 t25 t28 t7 : Value}
/-- All parts whose colour is not that of the row that grows are kept; the frame may change where a part is not spoken of. -/
theorem LmrC.kept {c' : Nat → Nat} {i : Nat} {row : Option Nat} (h : LmrC w s1 p r y R0 lr cz m mb ob c L W t16 t18 t19 t22 t24 t25 t28 t7) (hg : W.grownBy W' row) (hs : w.heap.size < s1) (hK : ∀ k, row = some k → s1 ≤ k ∧ c k = i)
    (hc : ∀ k, k < W.heap.size → row ≠ some k → c' k = c k) :
    (i ≠ 2 → L 2 = true → L 5 = false → OwnLO w.heap.size s1 W' t16 p.rows ∧ ∀ k, t16.ownBlock = some k → c' k = 2) ∧
    (i ≠ 4 → L 4 = true → L 5 = false → ∃ b, t18 = .slice (some ⟨b, 0, none⟩) 1 1 ∧ W'.cell? ⟨b, 0, none⟩ = some (.slice R0 lr cz) ∧ c' b = 4) ∧
    (i ≠ 5 → L 5 = true → ∃ g cg, t19 = .slice (some ⟨g, 0, none⟩) (m + 1) cg ∧ g < W'.heap.size ∧ RowsAt w.heap.size W' g (p.rows ++ [r]) ∧ c' g = 5) ∧
    (i ≠ 8 → L 8 = true → L 11 = false → OwnI s1 W' t22 p.bounds ∧ ∀ k, t22.ownBlock = some k → c' k = 8) ∧
    (i ≠ 10 → L 10 = true → L 11 = false → ∃ b, t24 = .slice (some ⟨b, 0, none⟩) 1 1 ∧ W'.cell? ⟨b, 0, none⟩ = some (.int .i64 y) ∧ c' b = 10) ∧
    (i ≠ 11 → L 11 = true → ∃ A' ca, t25 = .slice A' (mb + 1) ca ∧ OwnI s1 W' t25 (p.bounds ++ [y]) ∧ ∀ k, t25.ownBlock = some k → c' k = 11) ∧
    (i ≠ 15 → L 15 = true → ∃ g, t7 = .pointer (some ⟨g, 0, none⟩) ∧ s1 ≤ g ∧ c' g = 15 ∧ Cls W' (if L 16 = true then [(g, 0, t19), (g, 1, t25), (g, 2, ob)] else [(g, 0, .slice none 0 0), (g, 1, .slice none 0 0), (g, 2, .slice none 0 0)])) := by
  have hw : ∀ k, row = some k → w.heap.size ≤ k := fun k hk => by have := (hK k hk).1; omega
  have ne : ∀ {k j}, c k = j → i ≠ j → row ≠ some k := fun {k j} hk hi e => hi (by rw [← (hK k e).2, hk])
  have cell : ∀ {k : Nat} {v : Value}, W.cell? ⟨k, 0, none⟩ = some v → row ≠ some k → W'.cell? ⟨k, 0, none⟩ = some v := fun {k v} h1 h2 => by
    have hlt := World.block_lt_of_cell? W ⟨k, 0, none⟩ h1
    exact (World.cell?_of_block (a := ⟨k, 0, none⟩) (hg.block k hlt (fun e => h2 e.symm))).trans h1
  refine ⟨fun hi a b => ?_, fun hi a b => ?_, fun hi a => ?_, fun hi a b => ?_, fun hi a b => ?_, fun hi a => ?_, fun hi a => ?_⟩
  · obtain ⟨h1, h2⟩ := h.f2 a b
    exact ⟨h1.kept hg hw (fun k hk => ne (h2 k hk) hi), fun k hk => by rw [hc k (h1.blk k hk).2 (ne (h2 k hk) hi)]; exact h2 k hk⟩
  · obtain ⟨b, e, h1, h2⟩ := h.f4 a b
    exact ⟨b, e, cell h1 (ne h2 hi), by rw [hc b (World.block_lt_of_cell? W _ h1) (ne h2 hi)]; exact h2⟩
  · obtain ⟨g, cg, e, hlt, h1, h2⟩ := h.f5 a
    exact ⟨g, cg, e, Nat.lt_of_lt_of_le hlt hg.size, h1.kept hg hlt hw (ne h2 hi), by rw [hc g hlt (ne h2 hi)]; exact h2⟩
  · obtain ⟨h1, h2⟩ := h.f8 a b
    exact ⟨h1.kept hg (fun k hk => ne (h2 k hk) hi), fun k hk => by rw [hc k (h1.blk2 k hk).2 (ne (h2 k hk) hi)]; exact h2 k hk⟩
  · obtain ⟨b, e, h1, h2⟩ := h.f10 a b
    exact ⟨b, e, cell h1 (ne h2 hi), by rw [hc b (World.block_lt_of_cell? W _ h1) (ne h2 hi)]; exact h2⟩
  · obtain ⟨A', ca, e, h1, h2⟩ := h.f11 a
    exact ⟨A', ca, e, h1.kept hg (fun k hk => ne (h2 k hk) hi), fun k hk => by rw [hc k (h1.blk2 k hk).2 (ne (h2 k hk) hi)]; exact h2 k hk⟩
  · obtain ⟨g, e, hsg, h2, hC⟩ := h.f15 a
    have hlt : g < W.heap.size := by
      split at hC
      · exact hC.blk (b := g) (k := 0) (v := t19) (by simp)
      · exact hC.blk (b := g) (k := 0) (v := .slice none 0 0) (by simp)
    refine ⟨g, e, hsg, by rw [hc g hlt (ne h2 hi)]; exact h2, cls_grown_off hC hg (fun x hx e => ?_)⟩
    have hx1 : x.1 = g := by
      split at hx <;> (simp only [List.mem_cons, List.not_mem_nil, or_false] at hx; rcases hx with rfl | rfl | rfl <;> rfl)
    rw [hx1] at e
    exact ne h2 hi e.symm
theorem upL_ne {i k : Nat} (h : k ≠ i) : upL L i k = L k := if_neg h
theorem LmrI.start (h0 : ∀ k, k = 2 ∨ k = 4 ∨ k = 5 ∨ k = 8 ∨ k = 10 ∨ k = 11 ∨ k = 14 ∨ k = 15 ∨ k = 16 → L k = false) (hB : Below w.heap.size w W) (hs : w.heap.size < s1) (hs1 : s1 ≤ W.heap.size) (hC : Cls W box) (hb : ∀ x ∈ box, x.1 < s1) :
    LmrI w s1 p r y R0 lr cz m mb ob box L [t16, t18, t19, t22, t24, t25, t28, t7] W := by
  refine ⟨_, _, _, _, _, _, _, _, rfl, hB, hs, hs1, hC, hb, fun _ => 0, ?_⟩
  constructor <;> (intro a; rw [h0 _ (by simp)] at a; cases a)
section
variable (h : LmrI w s1 p r y R0 lr cz m mb ob box L [t16, t18, t19, t22, t24, t25, t28, t7] W)
include h
theorem LmrI.base : Below w.heap.size w W ∧ w.heap.size < s1 ∧ s1 ≤ W.heap.size ∧ Cls W box ∧ ∃ c, LmrC w s1 p r y R0 lr cz m mb ob c L W t16 t18 t19 t22 t24 t25 t28 t7 := by
  obtain ⟨_, _, _, _, _, _, _, _, e, h1, h2, h3, h4, h5, h6⟩ := h
  injection e with e1 e; injection e with e2 e; injection e with e3 e; injection e with e4 e; injection e with e5 e; injection e with e6 e; injection e with e7 e; injection e with e8 e
  subst e1 e2 e3 e4 e5 e6 e7 e8
  exact ⟨h1, h2, h3, h4, h6⟩
theorem LmrI.go {i : Nat} {c : Nat → Nat} {row : Option Nat} {u16 u18 u19 u22 u24 u25 u28 u7 : Value} (hg : W.grownBy W' row) (hr : ∀ k, row = some k → s1 ≤ k) (hn : LmrC w s1 p r y R0 lr cz m mb ob c L' W' u16 u18 u19 u22 u24 u25 u28 u7) :
    LmrI w s1 p r y R0 lr cz m mb ob box L' [u16, u18, u19, u22, u24, u25, u28, u7] W' := by
  obtain ⟨_, _, _, _, _, _, _, _, e, h1, h2, h3, h4, h5, _⟩ := h
  refine ⟨_, _, _, _, _, _, _, _, rfl, Below.grown h1 hg (by omega) (fun k hk => by have := hr k hk; omega), h2, Nat.le_trans h3 hg.size, cls_grown_off h4 hg (fun x hx e => ?_), h5, c, hn⟩
  have a := h5 x hx
  have b := hr _ e.symm
  omega
theorem LmrI.op11 {v : Value} (h8 : L 8 = true) (h11 : L 11 = false) (h14 : L 14 = false) (hm : p.bounds.length = mb) (ho : OwnI s1 W' v (p.bounds ++ [y])) (hg : W.grownBy W' t22.ownBlock) (hq : v.ownBlock = t22.ownBlock ∨ v.ownBlock = some W.heap.size) : LmrI w s1 p r y R0 lr cz m mb ob box (upL L 11) [t16, t18, t19, t22, t24, v, t28, t7] W' := by
  obtain ⟨_, hs, hs1, _, c, hc⟩ := h.base
  obtain ⟨ho2, hc2⟩ := hc.f8 h8 h11
  have h14 : L 14 = false := by cases e : L 14 with
    | false => rfl
    | true => have := (hc.f14 e).2.2; rw [h11] at this; cases this
  have h16 : L 16 = false := by cases e : L 16 with
    | false => rfl
    | true => have := (hc.f16 e).1; rw [h14] at this; cases this
  obtain ⟨k2, k4, k5, k8, k10, k11, k15⟩ := hc.kept (c' := fun k => if k < W.heap.size ∧ t22.ownBlock ≠ some k then c k else 11) (i := 8) hg hs (fun k e => ⟨(ho2.blk2 k e).1, hc2 k e⟩) (fun k hk hne => if_pos ⟨hk, hne⟩)
  refine h.go (i := 0) hg (fun k e => (ho2.blk2 k e).1) (c := fun k => if k < W.heap.size ∧ t22.ownBlock ≠ some k then c k else 11) ?_
  refine ⟨fun a b => k2 (by decide) a b, fun a b => k4 (by decide) a b, fun a => k5 (by decide) a, fun a b => (by cases b), fun a b => (by cases b), fun a => ?_, fun a => (by rw [upL_ne (by decide), h14] at a; cases a), fun a => (by rw [upL_ne (by decide), h16] at a; cases a), fun a => ?_⟩
  · obtain ⟨A', ca, e, _⟩ := ho.form
    rw [List.length_append, hm] at e
    refine ⟨A', ca, e, ho, fun k hk => if_neg (fun d => ?_)⟩
    rw [hk] at hq
    rcases hq with hq | hq
    · exact d.2 hq.symm
    · injection hq with hq; omega
  · obtain ⟨g, e, b, d, hC⟩ := k15 (by decide) a
    rw [h16] at hC
    exact ⟨g, e, b, d, by rw [upL_ne (by decide), h16]; exact hC⟩
theorem LmrI.op14 (h5 : L 5 = true) (h11 : L 11 = true) (h14 : L 14 = false) : LmrI w s1 p r y R0 lr cz m mb ob box (upL L 14) [t16, t18, t19, t22, t24, t25, .agg #[t19, t25, ob], t7] W := by
  obtain ⟨_, hs, hs1, _, c, hc⟩ := h.base
  have h16 : L 16 = false := by cases e : L 16 with
    | false => rfl
    | true => have := (hc.f16 e).1; rw [h14] at this; cases this
  refine h.go (i := 0) (World.grownBy.refl W none) (fun k e => by cases e) (c := c) ?_
  exact ⟨fun a b => hc.f2 a b, fun a b => hc.f4 a b, fun a => hc.f5 a, fun a b => hc.f8 a b, fun a b => hc.f10 a b, fun a => hc.f11 a, fun a => ⟨rfl, h5, h11⟩, fun a => (by rw [upL_ne (by decide), h16] at a; cases a), fun a => hc.f15 a⟩
theorem LmrI.at5 (h2 : L 2 = true) (h4 : L 4 = true) (h5 : L 5 = false) : OwnLO w.heap.size s1 W t16 p.rows ∧ ∃ b, t18 = .slice (some ⟨b, 0, none⟩) 1 1 ∧ W.cell? ⟨b, 0, none⟩ = some (.slice R0 lr cz) ∧ t16.ownBlock ≠ some b := by
  obtain ⟨_, hs, hs1, _, c, hc⟩ := h.base
  obtain ⟨o2, c2⟩ := hc.f2 h2 h5
  obtain ⟨b, e, h6, h7⟩ := hc.f4 h4 h5
  exact ⟨o2, b, e, h6, fun e => by have := c2 b e; omega⟩
omit h in
theorem LmrI.form {vs : List Value} (h : LmrI w s1 p r y R0 lr cz m mb ob box L vs W) : ∃ t16 t18 t19 t22 t24 t25 t28 t7, vs = [t16, t18, t19, t22, t24, t25, t28, t7] := by
  obtain ⟨t16, t18, t19, t22, t24, t25, t28, t7, e, _⟩ := h
  exact ⟨t16, t18, t19, t22, t24, t25, t28, t7, e⟩
theorem LmrI.done (hall : ∀ k, k < 17 → L k = true) : ∃ gq g cg A' ca, t7 = .pointer (some ⟨gq, 0, none⟩) ∧ s1 ≤ gq ∧ RowsRead W (some ⟨g, 0, none⟩) (p.rows ++ [r]) ∧ Ints W A' (p.bounds ++ [y]) ∧ Below w.heap.size w W ∧ Cls W (box ++ [(gq, 0, .slice (some ⟨g, 0, none⟩) (m + 1) cg), (gq, 1, .slice A' (mb + 1) ca), (gq, 2, ob)]) := by
  obtain ⟨hB, hs, hs1, hb, c, hc⟩ := h.base
  obtain ⟨g, cg, e19, hlt, hR, _⟩ := hc.f5 (hall _ (by decide))
  obtain ⟨A', ca, e25, hI, _⟩ := hc.f11 (hall _ (by decide))
  obtain ⟨gq, e7, hq, _, hC⟩ := hc.f15 (hall _ (by decide))
  rw [hall 16 (by decide), if_pos rfl, e19, e25] at hC
  refine ⟨gq, g, cg, A', ca, e7, hq, hR.read, ?_, hB, ?_⟩
  · rw [e25] at hI
    obtain ⟨A2, c2, e, hi⟩ := OwnI.ints hI
    injection e with e
    subst e
    exact hi
  · clear h
    induction box with
    | nil => exact hC
    | cons x l ih => exact ⟨hb.1, ih hb.2⟩
end
end
end Go.Proofs.Ytkepfmglljkjhaa

namespace Go.Proofs.Ytkepfmglljkjhaa
open Go.RowKit
set_option linter.unusedVariables false
set_option linter.unusedSimpArgs false

/-- A row of the table: its block, its capacity, its numbers. -/
def PGr (N base : Nat) (w : World) (row : Option Nat) (cs : List Value) (x : Nat × Nat × List Int) : Prop :=
  cs = [.slice (some ⟨x.1, 0, none⟩) N x.2.1] ∧ OwnI base w (.slice (some ⟨x.1, 0, none⟩) N x.2.1) x.2.2 ∧ row ≠ some x.1
theorem pgr_stable (N base : Nat) : Stable (PGr N base) := by
  constructor
  · rintro w w' row cs x ⟨e, hI, hn⟩ hB
    exact ⟨e, hI.below hB, hn⟩
  · rintro w w' row cs x ⟨e, hI, hn⟩ hg
    have hI' : OwnI base w' (.slice (some ⟨x.1, 0, none⟩) N x.2.1) x.2.2 := OwnI.kept hI hg (fun k hk => by
      have e2 : x.1 = k := by simpa [Value.ownBlock] using hk
      subst e2; exact hn)
    exact ⟨⟨e, hI', hn⟩, ⟨e, hI', fun h => by injection h with h; have := (hI.blk_ ⟨x.1, 0, none⟩ rfl).2; simp only at this; omega⟩⟩
def OwnGr (N base : Nat) (w : World) (v : Value) (els : List (Nat × Nat × List Int)) : Prop := OwnEs (PGr N base) 23 1 base w v els
structure Grid (base : Nat) (w : World) (g n N : Nat) (blk cap : Nat → Nat) (T : Nat → Nat → Int) : Prop where
  cells : ∀ i, i < n → w.cell? ⟨g, i, none⟩ = some (.slice (some ⟨blk i, 0, none⟩) N (cap i)) ∧ w.frozen? ⟨g, i, none⟩ = false
  rows : ∀ i, i < n → OwnI base w (.slice (some ⟨blk i, 0, none⟩) N (cap i)) (tbRow N (T i))
  sep : ∀ i, i < n → blk i ≠ g
  inj : ∀ i k, i < n → k < n → i ≠ k → blk i ≠ blk k
  low : base ≤ g
section
variable {base g n N : Nat} {w w' : World} {blk cap : Nat → Nat} {T : Nat → Nat → Int} {els : List (Nat × Nat × List Int)} {v : Value}
theorem OwnGr.below (h : OwnGr N base w v els) (hb : Below w.heap.size w w') : OwnGr N base w' v els := OwnEs.below (pgr_stable _ _) h hb
theorem OwnGr.inner (h : OwnGr N base w v els) : ∀ x ∈ els, x.1 < w.heap.size ∧ v.ownBlock ≠ some x.1 := fun x hx => by
  obtain ⟨i, hi⟩ := List.getElem?_of_mem hx
  obtain ⟨A, c, rfl⟩ := OwnEs.form h
  obtain ⟨g, cs, a, e, _, _, ha, _, _, hp⟩ := OwnEs.at_ h (i := i) (List.getElem?_eq_some_iff.1 hi).1
  have hax : a = x := by have := ha.out; rw [hi] at this; injection this with this; exact this.symm
  subst hax
  subst e
  exact ⟨(hp.2.1.blk_ ⟨a.1, 0, none⟩ rfl).2, hp.2.2⟩
/-- The blocks of the rows. -/
theorem OwnGr.grid (h : OwnGr N base w v els) (hl : els.length = n) (hn : 0 < n) (hN : ∀ x ∈ els, x.2.2.length = N) (hT : ∀ (i : Nat) (x : Nat × Nat × List Int), els[i]? = some x → ∀ j, j < N → x.2.2[j]? = some (T i j))
    (hnd : ∀ (i k : Nat) (x y : Nat × Nat × List Int), i ≠ k → els[i]? = some x → els[k]? = some y → x.1 ≠ y.1) : ∃ g c blk cap, v = .slice (some ⟨g, 0, none⟩) n c ∧ Grid base w g n N blk cap T := by
  obtain ⟨A, c, rfl⟩ := OwnEs.form h
  have h0 : 0 < els.length := by omega
  obtain ⟨g, _, _, rfl, hgR, _, _⟩ := OwnEs.at_ h (i := 0) h0
  subst hl
  have hat : ∀ i x, els[i]? = some x → w.cell? ⟨g, i, none⟩ = some (.slice (some ⟨x.1, 0, none⟩) N x.2.1) ∧ OwnI base w (.slice (some ⟨x.1, 0, none⟩) N x.2.1) x.2.2 ∧ g ≠ x.1 := fun i x hx => by
    obtain ⟨g', cs, a, e, _, _, ha, _, hc, hp⟩ := OwnEs.at_ h (i := i) (List.getElem?_eq_some_iff.1 hx).1
    injection e with e
    injection e with e
    subst e
    have hax : a = x := by have := ha.out; rw [hx] at this; injection this with this; exact this.symm
    subst hax
    obtain ⟨e1, hI, hn⟩ := hp
    subst e1
    have h1 := hc 0 _ rfl
    rw [Nat.mul_one, Nat.add_zero] at h1
    exact ⟨h1, hI, fun e => hn (by rw [e])⟩
  have hel : ∀ i, i < els.length → ∃ x, els[i]? = some x := fun i hi => ⟨_, List.getElem?_eq_getElem (by omega)⟩
  refine ⟨g, c, fun i => ((els[i]?).getD (0, 0, [])).1, fun i => ((els[i]?).getD (0, 0, [])).2.1, rfl, fun i hi => ?_, fun i hi => ?_, fun i hi => ?_, fun i k hi hk hne => ?_, hgR⟩
  · obtain ⟨x, hx⟩ := hel i hi
    simp only [hx, Option.getD_some]
    exact ⟨(hat i x hx).1, OwnEs.free (A := none) h i⟩
  · obtain ⟨x, hx⟩ := hel i hi
    simp only [hx, Option.getD_some]
    have h1 := (hat i x hx).2.1
    have e : x.2.2 = tbRow N (T i) := by
      apply List.ext_getElem?
      intro j
      rcases Nat.lt_or_ge j N with hj | hj
      · rw [hT i x hx j hj, tbRow_at _ hj]
      · rw [List.getElem?_eq_none (by rw [hN x (List.mem_of_getElem? hx)]; exact hj), List.getElem?_eq_none (by rw [tbRow_len]; exact hj)]
    rw [← e]; exact h1
  · obtain ⟨x, hx⟩ := hel i hi
    simp only [hx, Option.getD_some]
    exact fun e => (hat i x hx).2.2 e.symm
  · obtain ⟨x, hx⟩ := hel i hi
    obtain ⟨y, hy⟩ := hel k hk
    simp only [hx, hy, Option.getD_some]
    exact hnd i k x y hne hx hy
theorem Grid.below (h : Grid base w g n N blk cap T) (hb : Below w.heap.size w w') : Grid base w' g n N blk cap T :=
  { cells := fun i hi => by
      have hlt := World.block_lt_of_cell? w _ (h.cells i hi).1
      exact ⟨(hb.cell hlt).trans (h.cells i hi).1, (hb.frozen hlt).trans (h.cells i hi).2⟩
    rows := fun i hi => (h.rows i hi).below hb
    sep := h.sep, inj := h.inj, low := h.low }
theorem Grid.cell (h : Grid base w g n N blk cap T) {i j : Nat} (hi : i < n) (hj : j < N) : w.cell? ⟨blk i, j, none⟩ = some (.int .i64 (T i j)) ∧ w.frozen? ⟨blk i, j, none⟩ = false ∧ base ≤ blk i ∧ blk i < w.heap.size := by
  obtain ⟨g', x, e, hb, hlt, hx, hc, hf⟩ := OwnI.at_ (h.rows i hi) (k := j) (by rw [tbRow_len]; exact hj)
  injection e with e
  injection e with e
  have := hx.out
  rw [tbRow_at _ hj] at this
  injection this with this
  subst this
  subst e
  exact ⟨hc, hf, hb, hlt⟩
theorem Grid.congr {T' : Nat → Nat → Int} (h : Grid base w g n N blk cap T) (hT : ∀ i, i < n → ∀ j, j < N → T' i j = T i j) : Grid base w g n N blk cap T' :=
  { h with rows := fun i hi => by rw [tbRow_congr (g := T i) fun j hj => hT i hi j hj]; exact h.rows i hi }
theorem own_off_ {base : Nat} {w : World} {b n c : Nat} {xs : List Int} (h : OwnI base w (.slice (some ⟨b, 0, none⟩) n c) xs) {p : Addr} (hp : b ≠ p.block) (u : Value) : OwnI base (w.setCell p u) (.slice (some ⟨b, 0, none⟩) n c) xs :=
  OwnI.apart h (fun e => hp (by simpa [Value.ownBlock] using e)) u
/-- An entry is written. -/
theorem Grid.set (h : Grid base w g n N blk cap T) {i j : Nat} (hi : i < n) (x : Int) {T' : Nat → Nat → Int} (hT : ∀ a, a < n → ∀ c, c < N → T' a c = if a = i ∧ c = j then x else T a c) : Grid base (w.setCell ⟨blk i, j, none⟩ (.int .i64 x)) g n N blk cap T' := by
  refine { cells := fun k hk => ?_, rows := fun k hk => ?_, sep := h.sep, inj := h.inj, low := h.low }
  · rw [World.cell?_setCell_other w _ _ _ (fun e => h.sep i hi (by injection e)), World.frozen?_setCell]
    exact h.cells k hk
  · by_cases e : k = i
    · subst e
      have h1 := (h.rows k hk).set_ (by rw [tbRow_len]) j x
      rw [tbRow_set] at h1
      rw [tbRow_congr (g := fun c => if c = j then x else T k c) fun c hc => by rw [hT k hk c hc]; simp]
      exact h1
    · rw [tbRow_congr (g := T k) fun c hc => by rw [hT k hk c hc]; simp [e]]
      exact own_off_ (h.rows k hk) (h.inj k i hk hi e) _
/-- Two rows are exchanged. -/
theorem Grid.swap (h : Grid base w g n N blk cap T) {c k : Nat} (hc : c < n) (hk : k < n) :
    Grid base ((w.setCell ⟨g, k, none⟩ (.slice (some ⟨blk c, 0, none⟩) N (cap c))).setCell ⟨g, c, none⟩ (.slice (some ⟨blk k, 0, none⟩) N (cap k))) g n N (fun i => blk (LA.sw c k i)) (fun i => cap (LA.sw c k i)) (fun i => T (LA.sw c k i)) := by
  have hlt := fun i hi => LA.sw_lt hc hk hi (i := i)
  refine { cells := fun i hi => ?_, rows := fun i hi => ?_, sep := fun i hi => h.sep _ (hlt i hi), inj := fun i j hi hj hne => h.inj _ _ (hlt i hi) (hlt j hj) (fun e => hne (by have := congrArg (LA.sw c k) e; rwa [LA.sw_sw, LA.sw_sw] at this)), low := h.low }
  · rw [World.frozen?_setCell, World.frozen?_setCell]
    refine ⟨?_, (h.cells i hi).2⟩
    have hsome : ∀ j, j < n → ((w.setCell ⟨g, k, none⟩ (.slice (some ⟨blk c, 0, none⟩) N (cap c))).cell? ⟨g, j, none⟩).isSome = true := fun j hj => by
      rw [set_isSome, (h.cells j hj).1]; rfl
    by_cases e : i = c
    · subst e
      have : LA.sw i k i = k := if_pos rfl
      rw [this]
      obtain ⟨u, hu⟩ := Option.isSome_iff_exists.1 (hsome i hi)
      exact World.cell?_setCell_same _ _ _ hu
    · rw [World.cell?_setCell_other _ _ _ _ (fun e2 => e (by injection e2 with _ e2; exact e2.symm))]
      by_cases e2 : i = k
      · subst e2
        have : LA.sw c i i = c := by unfold LA.sw; rw [if_neg e, if_pos rfl]
        rw [this]
        exact World.cell?_setCell_same _ _ _ (h.cells i hi).1
      · have : LA.sw c k i = i := by unfold LA.sw; rw [if_neg e, if_neg e2]
        rw [this, World.cell?_setCell_other _ _ _ _ (fun e3 => e2 (by injection e3 with _ e3; exact e3.symm))]
        exact (h.cells i hi).1
  · exact own_off_ (own_off_ (h.rows _ (hlt i hi)) (p := ⟨g, k, none⟩) (h.sep _ (hlt i hi)) _) (p := ⟨g, c, none⟩) (h.sep _ (hlt i hi)) _
end
/-- What the elimination says. -/
def ElimSays (w : World) (ms : List (List Int)) (n : Nat) (e : Ending) (w' : World) : Prop :=
  Below w.heap.size w w' ∧ ((e = .returned (.tuple #[.slice none 0 0, .int .i64 0, .bool false]) ∧ ¬ LA.Kern ms n) ∨
    ∃ v out den, e = .returned (.tuple #[v, .int .i64 den, .bool true]) ∧ OwnI w.heap.size w' v out ∧ out.length = n ∧ 0 < den ∧ den ≤ 1179648 ∧ (∀ x ∈ out, -5898240 ≤ x ∧ x ≤ 5898240) ∧ LA.SolV ms n (LA.atI out) den)
/-- The entries of a list of rows. -/
def entM (ms : List (List Int)) (i j : Nat) : Int := LA.atI ((ms[i]?).getD []) j
theorem entM_at {ms : List (List Int)} {i : Nat} {r : List Int} (h : ms[i]? = some r) (j : Nat) : entM ms i j = LA.atI r j := by unfold entM; rw [h]; rfl
theorem entM_dot {ms : List (List Int)} {i n : Nat} {r : List Int} (h : ms[i]? = some r) (z : Nat → Int) : LA.sumN n (fun j => entM ms i j * z j) = LA.dotL n r z := LA.sumN_congr fun j _ => by rw [entM_at h]
theorem elim_kern {ms : List (List Int)} {n : Nat} (hl : ms.length = n) (h : ∃ z : Nat → Int, (∃ j, j < n ∧ z j ≠ 0) ∧ ∀ t, t < n → LA.sumN n (fun j => entM ms t j * z j) = 0) : ¬ LA.Kern ms n := fun hk => by
  obtain ⟨z, ⟨j, hj, hne⟩, hz⟩ := h
  refine hne (hk z (fun r hr => ?_) j hj)
  obtain ⟨i, hi⟩ := List.getElem?_of_mem hr
  rw [← entM_dot hi]
  exact hz i (by have := (List.getElem?_eq_some_iff.1 hi).1; omega)
theorem elim_sol {ms : List (List Int)} {n : Nat} {x : Nat → Int} {d : Int} (hl : ms.length = n) (h : ∀ t, t < n → LA.sumN n (fun j => entM ms t j * x j) = d * entM ms t n) : LA.SolV ms n x d := fun r hr => by
  obtain ⟨i, hi⟩ := List.getElem?_of_mem hr
  have h1 := h i (by have := (List.getElem?_eq_some_iff.1 hi).1; omega)
  rw [entM_dot hi, entM_at hi] at h1
  exact h1
end Go.Proofs.Ytkepfmglljkjhaa

namespace Go.Proofs.Ytkepfmglljkjhaa
open Go.RowKit
set_option linter.unusedVariables false
set_option linter.unusedSimpArgs false

/-- Two loads, two stores, in whatever order of the loads. -/
def SwapI (w0 : World) (p1 p2 : Addr) (x1 x2 : Value) (L : Nat → Bool) (vs : List Value) (W : World) : Prop :=
  ∃ t1 t2 q1 q2, vs = [t1, t2, q1, q2] ∧ (L 7 = true → t1 = x1) ∧ (L 11 = true → t2 = x2) ∧ (L 12 = true → q1 = .pointer (some p1)) ∧ (L 14 = true → q2 = .pointer (some p2)) ∧
    W = (if L 15 = true then (w0.setCell p1 x1).setCell p2 x2 else if L 13 = true then w0.setCell p1 x1 else w0) ∧ (L 13 = true → L 7 = true ∧ L 11 = true) ∧ (L 15 = true → L 13 = true)
section
variable {w0 W : World} {p1 p2 : Addr} {x1 x2 : Value} {L : Nat → Bool} {vs : List Value} {t1 t2 q1 q2 : Value}
theorem SwapI.form (h : SwapI w0 p1 p2 x1 x2 L vs W) : ∃ t1 t2 q1 q2, vs = [t1, t2, q1, q2] := by
  obtain ⟨t1, t2, q1, q2, e, _⟩ := h
  exact ⟨t1, t2, q1, q2, e⟩
theorem SwapI.start (h : ∀ k, k = 7 ∨ k = 11 ∨ k = 12 ∨ k = 13 ∨ k = 14 ∨ k = 15 → L k = false) : SwapI w0 p1 p2 x1 x2 L [t1, t2, q1, q2] w0 := by
  have a := h 7 (by simp); have b := h 11 (by simp); have c := h 12 (by simp); have d := h 13 (by simp); have e := h 14 (by simp); have f := h 15 (by simp)
  refine ⟨t1, t2, q1, q2, rfl, ?_⟩
  simp [a, b, c, d, e, f]
section
variable (h : SwapI w0 p1 p2 x1 x2 L [t1, t2, q1, q2] W)
include h
theorem SwapI.parts : (L 7 = true → t1 = x1) ∧ (L 11 = true → t2 = x2) ∧ (L 12 = true → q1 = .pointer (some p1)) ∧ (L 14 = true → q2 = .pointer (some p2)) ∧
    W = (if L 15 = true then (w0.setCell p1 x1).setCell p2 x2 else if L 13 = true then w0.setCell p1 x1 else w0) ∧ (L 13 = true → L 7 = true ∧ L 11 = true) ∧ (L 15 = true → L 13 = true) := by
  obtain ⟨_, _, _, _, e, r⟩ := h
  injection e with e1 e; injection e with e2 e; injection e with e3 e; injection e with e4 e
  subst e1 e2 e3 e4
  exact r
theorem SwapI.first (h7 : L 7 = false ∨ L 11 = false) : W = w0 := by
  obtain ⟨_, _, _, _, e, a, b⟩ := h.parts
  have h13 : ¬ L 13 = true := fun k => by have := a k; rcases h7 with h | h <;> simp_all
  rw [e, if_neg (fun k => h13 (b k)), if_neg h13]
theorem SwapI.op7 (h7 : L 7 = false) : SwapI w0 p1 p2 x1 x2 (upL L 7) [x1, t2, q1, q2] W := by
  obtain ⟨a1, a2, a3, a4, a5, a6, a7⟩ := h.parts
  refine ⟨_, _, _, _, rfl, fun _ => rfl, a2, a3, a4, a5, fun k => ⟨rfl, (a6 k).2⟩, a7⟩
theorem SwapI.op11 (h7 : L 11 = false) : SwapI w0 p1 p2 x1 x2 (upL L 11) [t1, x2, q1, q2] W := by
  obtain ⟨a1, a2, a3, a4, a5, a6, a7⟩ := h.parts
  refine ⟨_, _, _, _, rfl, a1, fun _ => rfl, a3, a4, a5, fun k => ⟨(a6 k).1, rfl⟩, a7⟩
theorem SwapI.op12 : SwapI w0 p1 p2 x1 x2 (upL L 12) [t1, t2, .pointer (some p1), q2] W := by
  obtain ⟨a1, a2, a3, a4, a5, a6, a7⟩ := h.parts
  exact ⟨_, _, _, _, rfl, a1, a2, fun _ => rfl, a4, a5, a6, a7⟩
theorem SwapI.op14 : SwapI w0 p1 p2 x1 x2 (upL L 14) [t1, t2, q1, .pointer (some p2)] W := by
  obtain ⟨a1, a2, a3, a4, a5, a6, a7⟩ := h.parts
  exact ⟨_, _, _, _, rfl, a1, a2, a3, fun _ => rfl, a5, a6, a7⟩
theorem SwapI.at13 (h12 : L 12 = true) (h7 : L 7 = true) (h11 : L 11 = true) (h13 : L 13 = false) : q1 = .pointer (some p1) ∧ t1 = x1 ∧ W = w0 ∧ SwapI w0 p1 p2 x1 x2 (upL L 13) [t1, t2, q1, q2] (w0.setCell p1 x1) := by
  obtain ⟨a1, a2, a3, a4, a5, a6, a7⟩ := h.parts
  have h15 : L 15 = false := by cases e : L 15 with
    | false => rfl
    | true => have := a7 e; rw [h13] at this; cases this
  refine ⟨a3 h12, a1 h7, by rw [a5]; simp [h15, h13], _, _, _, _, rfl, a1, a2, a3, a4, ?_, fun _ => ⟨h7, h11⟩, fun _ => rfl⟩
  simp [upL, h15]
theorem SwapI.at15 (h14 : L 14 = true) (h13 : L 13 = true) (h15 : L 15 = false) : q2 = .pointer (some p2) ∧ t2 = x2 ∧ W = w0.setCell p1 x1 ∧ SwapI w0 p1 p2 x1 x2 (upL L 15) [t1, t2, q1, q2] ((w0.setCell p1 x1).setCell p2 x2) := by
  obtain ⟨a1, a2, a3, a4, a5, a6, a7⟩ := h.parts
  refine ⟨a4 h14, a2 (a6 h13).2, by rw [a5]; simp [h15, h13], _, _, _, _, rfl, a1, a2, a3, a4, ?_, a6, fun _ => h13⟩
  simp [upL]
theorem SwapI.done (hall : ∀ k, k < 16 → L k = true) : W = (w0.setCell p1 x1).setCell p2 x2 := by
  obtain ⟨a1, a2, a3, a4, a5, a6, a7⟩ := h.parts
  rw [a5, if_pos (hall 15 (by decide))]
end
end
set_option maxRecDepth 100000 in
set_option maxHeartbeats 8000000 in
theorem eliminated_any (w : World) (AM : Option Addr) (cM : Nat) (ms : List (List Int)) (n : Nat) (hR : RowsRead w AM ms) (hl : Hid (ms.length = n)) (hn6 : n ≤ 6) (hrow : ∀ r ∈ ms, r.length = n + 1) (hin : LA.LPIn (LA.sysLP n (entM ms))) :
    Calls Try.prog 55 #[.slice AM n cM] w fun e w' => ElimSays w ms n e w' := by
  have HR := Lib.hid hR
  have HROW := Lib.hid hrow
  have HIN := Lib.hid hin
  clear hR hrow hin
  go_enter Try.func55, Try.ntmps55
  go_wp2_with fail
  go_loopw [6, 7] (fun y x wr => ∃ (i : Nat) (els : List (Nat × Nat × List Int)) (v : Value), i ≤ n ∧ x = .int .i64 i ∧ v = y ∧ OwnGr (n + 1) w.heap.size wr v els ∧ Hid (els.map (·.2.2) = ms.take i ∧ ∀ (i k : Nat) (x y : Nat × Nat × List Int), i ≠ k → els[i]? = some x → els[k]? = some y → x.1 ≠ y.1) ∧ Below w.heap.size w wr) (fun _ x _ => n - (intOf x).toNat)
  case atStart => exact ⟨0, [], _, Nat.zero_le _, rfl, rfl, OwnEs.nil _ _, Lib.hid ⟨rfl, fun _ _ _ _ _ h => by cases h⟩, by repeat (first | with_reducible exact Below.refl _ _ | with_reducible apply bdrew | with_reducible apply bdrewN | with_reducible apply balloc | ((with_reducible refine bset ?_ ?_ _); rotate_left; (first | omega | (simp <;> omega))))⟩
  case round =>
    obtain ⟨i, els, v, hi, rfl, rfl, hO, HE, hB1⟩ := hrel
    obtain ⟨w1, rfl⟩ : ∃ wo : World, wo = wr := ⟨_, rfl⟩
    have d1s := hB1.size
    have hlenE : els.length = i := by have h := congrArg List.length HE.out.1; rw [List.length_map, List.length_take, hl.out] at h; omega
    by_cases hlt : i < n
    · obtain ⟨r, hr⟩ : ∃ r, Hid (ms[i]? = some r) := ⟨_, Lib.hid (List.getElem?_eq_getElem (by rw [hl.out]; exact hlt))⟩
      obtain ⟨ad, B, cc, rfl, hc0, hI, hN⟩ := HR.out i r hr.out
      have hrn := HROW.out r (List.mem_of_getElem? hr.out)
      rw [hrn] at hc0
      have HRN := Lib.hid hrn
      have hc := (hB1.cell (World.block_lt_of_cell? w _ hc0)).trans hc0
      have HI := Lib.hid hI
      have HN := Lib.hid hN
      have HL := Lib.hid (show els.length < 1000000000000 by omega)
      have HIN1 := Lib.hid (OwnGr.inner hO)
      clear hI hN hc0 hlenE hrn
      go_wp2_with (first | ((refine wpList_copy rfl (.const (.slice none 0 0)) (.tmp 27) rfl B cc (n + 1) r rfl rfl HRN.out HN.out.1 (HI.out.below hB1) (by omega) ?_; intro A2 c3 w3 o3 hnil3 B3; obtain ⟨g2, y2, rfl, hg2, hg3, -, -, -⟩ := o3.at_ (k := 0) (by rw [HRN.out]; omega); clear hnil3; have d3s := B3.size; have B13 := hB1.trans (B3.mono hB1.size); have HO3 := Lib.hid o3; clear o3)) | ((refine wpList_el (pgr_stable _ _) 22 24 (.slice none 0 0) Try.underlying22 info_list rfl (by decide) (by decide) rfl (.tmp 23) (.tmp 29) rfl w [] rfl (OwnGr.below hO ?p1) ⟨w3.heap.size, 0, none⟩ 1 rfl [.slice (some ⟨g2, 0, none⟩) (n + 1) c3] (g2, c3, r) rfl (cells_one ?p2) ?p8 ⟨rfl, (HO3.out.mono hB1.size).below ?p9, ?p10⟩ HL.out ?p3 (Nat.le_refl _) ?p5 trivial ?p7 ?_; (case p1 => repeat (first | with_reducible exact B3 | with_reducible apply bdrew | with_reducible apply bdrewN | with_reducible apply balloc | ((with_reducible refine bset ?_ ?_ _); rotate_left; (first | omega | (simp <;> omega))))); (case p2 => simp [go_sem]); (case p3 => (simp <;> omega)); (case p5 => repeat (first | with_reducible exact B13 | with_reducible apply bdrew | with_reducible apply bdrewN | with_reducible apply balloc | ((with_reducible refine bset ?_ ?_ _); rotate_left; (first | omega | (simp <;> omega))))); (case p7 => intro x hx; cases hx); (case p8 => intro u hu; simp at hu; subst hu; rfl); (case p9 => repeat (first | with_reducible exact Below.refl _ _ | with_reducible apply bdrew | with_reducible apply bdrewN | with_reducible apply balloc | ((with_reducible refine bset ?_ ?_ _); rotate_left; (first | omega | (simp <;> omega))))); (case p10 => intro e; have h := (OwnEs.lt hO g2 e).2; omega); intro v5 w5 o5 D5 C5 sz5 G5 at5; clear C5 G5 at5)))
      go_wp2
      go_roundw
      case rel =>
        refine ⟨i + 1, els ++ [(g2, c3, r)], _, by omega, by go_num, rfl, OwnGr.below o5 (by repeat (first | with_reducible exact Below.refl _ _ | with_reducible apply bdrew | with_reducible apply bdrewN | with_reducible apply balloc | ((with_reducible refine bset ?_ ?_ _); rotate_left; (first | omega | (simp <;> omega))))), Lib.hid ⟨?_, ?_⟩, by repeat (first | with_reducible exact D5 | with_reducible apply bdrew | with_reducible apply bdrewN | with_reducible apply balloc | ((with_reducible refine bset ?_ ?_ _); rotate_left; (first | omega | (simp <;> omega))))⟩
        · rw [List.map_append, HE.out.1, List.take_add_one, hr.out]; rfl
        · have hle : els.length = i := by have h := congrArg List.length HE.out.1; rw [List.length_map, List.length_take, hl.out] at h; omega
          have hsn : ∀ (j : Nat) (x : Nat × Nat × List Int), (els ++ [(g2, c3, r)])[j]? = some x → (j < i ∧ els[j]? = some x) ∨ (j = i ∧ x = (g2, c3, r)) := fun j x hx => by
            rcases Nat.lt_or_ge j els.length with hj | hj
            · rw [List.getElem?_append_left hj] at hx; exact .inl ⟨by omega, hx⟩
            · rw [List.getElem?_append_right hj] at hx
              have h0 : j - els.length = 0 := by
                rcases Nat.eq_zero_or_pos (j - els.length) with h | h
                · exact h
                · rw [List.getElem?_eq_none (by simp; omega)] at hx; cases hx
              rw [h0] at hx
              exact .inr ⟨by omega, by simpa using hx.symm⟩
          intro a k x y hne hx hy
          rcases hsn a x hx with ⟨h1, h2⟩ | ⟨h1, h2⟩ <;> rcases hsn k y hy with ⟨h3, h4⟩ | ⟨h3, h4⟩
          · exact HE.out.2 a k x y hne h2 h4
          · subst h4
            have := (HIN1.out x (List.mem_of_getElem? h2)).1
            show x.1 ≠ g2
            omega
          · subst h2
            have := (HIN1.out y (List.mem_of_getElem? h4)).1
            show g2 ≠ y.1
            omega
          · exact absurd (h1.trans h3.symm) hne
      case measure => simp [intOf]; omega
    · obtain rfl : i = n := by omega
      have HTK : Hid (els.map (·.2.2) = ms) := Lib.hid (by rw [HE.out.1, List.take_of_length_le (by rw [hl.out]; exact Nat.le_refl _)])
      obtain ⟨g, cW, AW, blk, cap, T, rfl, HA, hG0, HT⟩ : ∃ g cW AW blk cap T, v = .slice AW i cW ∧ Hid (0 < i → AW = some ⟨g, 0, none⟩) ∧ Grid w.heap.size w1 g i (i + 1) blk cap T ∧ Hid (LA.ElimAt i (entM ms) 0 T 1) := by
        have hel : ∀ (k : Nat) (x : Nat × Nat × List Int), els[k]? = some x → ms[k]? = some x.2.2 := fun k x hx => by
          rw [← HTK.out, List.getElem?_map, hx]; rfl
        have hst : LA.ElimAt i (entM ms) 0 (entM ms) 1 := LA.ElimAt.start i (fun _ _ _ _ => rfl)
        rcases Nat.eq_zero_or_pos i with h0 | h0
        · obtain ⟨A, c, rfl⟩ := OwnEs.form hO
          rw [hlenE]
          exact ⟨w.heap.size, c, A, id, id, entM ms, rfl, Lib.hid (fun h => by omega), ⟨fun k hk => by omega, fun k hk => by omega, fun k hk => by omega, fun k _ hk => by omega, Nat.le_refl _⟩, Lib.hid hst⟩
        · obtain ⟨g, c, blk, cap, e, hg⟩ := OwnGr.grid (n := i) (T := entM ms) hO hlenE h0 (fun x hx => by
            obtain ⟨k, hk⟩ := List.getElem?_of_mem hx
            exact HROW.out _ (List.mem_of_getElem? (hel k x hk))) (fun k x hx j hj => by
            have h1 := hel k x hx
            rw [entM_at h1]
            unfold LA.atI
            have h2 := HROW.out _ (List.mem_of_getElem? h1)
            rw [List.getElem?_eq_getElem (by rw [h2]; exact hj)]; rfl) HE.out.2
          exact ⟨g, c, some ⟨g, 0, none⟩, blk, cap, entM ms, e, Lib.hid (fun _ => rfl), hg, Lib.hid hst⟩
      clear HE hO hlenE HTK HR els
      go_wp2_with fail
      go_loopw [8, 9] (fun x8 x9 wr => ∃ (c : Nat) (last : Int) (blk cap : Nat → Nat) (T : Nat → Nat → Int), c ≤ i ∧ x9 = .int .i64 c ∧ x8 = .int .i64 last ∧ Grid w.heap.size wr g i (i + 1) blk cap T ∧ Hid (LA.ElimAt i (entM ms) c T last) ∧ Below w.heap.size w wr) (fun _ x _ => i - (intOf x).toNat)
      case atStart => exact ⟨0, 1, blk, cap, T, Nat.zero_le _, rfl, rfl, hG0.below (by repeat (first | with_reducible exact Below.refl _ _ | with_reducible apply bdrew | with_reducible apply bdrewN | with_reducible apply balloc | ((with_reducible refine bset ?_ ?_ _); rotate_left; (first | omega | (simp <;> omega))))), HT, by repeat (first | with_reducible exact hB1 | with_reducible apply bdrew | with_reducible apply bdrewN | with_reducible apply balloc | ((with_reducible refine bset ?_ ?_ _); rotate_left; (first | omega | (simp <;> omega))))⟩
      case round =>
        clear hG0 HT hB1 d1s
        obtain ⟨c, last, blk, cap, T, hc, rfl, rfl, hG, HT, hB2⟩ := hrel
        obtain ⟨w2, rfl⟩ : ∃ wo : World, wo = wr := ⟨_, rfl⟩
        have d2s := hB2.size
        obtain ⟨⟨hl0, hl1, hl2⟩, htb⟩ := HT.out.le HIN.out
        have HTB := Lib.hid htb
        clear htb
        by_cases hlt2 : c < i
        · obtain rfl := HA.out (by omega)
          go_wp2_with fail
          go_loopw [10] (fun x wr => ∃ k : Nat, c ≤ k ∧ k ≤ i ∧ x = .int .i64 k ∧ Hid (∀ t, c ≤ t → t < k → T t c = 0) ∧ w2 = wr) (fun x _ => i - (intOf x).toNat)
          case atStart => exact ⟨c, Nat.le_refl _, hc, rfl, Lib.hid (fun t h1 h2 => by omega), rfl⟩
          case round =>
            obtain ⟨k, hck, hki, rfl, HZ, rfl⟩ := hrel
            by_cases hlt3 : k < i
            · have hout := (hG.cells k hlt3).1
              have hcl := (hG.cell (i := k) (j := c) hlt3 (by omega)).1
              obtain ⟨x, hx⟩ : ∃ x, Hid (T k c = x) := ⟨_, Lib.hid rfl⟩
              rw [hx.out] at hcl
              by_cases hx0 : x = 0
              · subst hx0
                go_wp2
                go_roundw
                case rel => exact ⟨k + 1, by omega, by omega, by go_num, Lib.hid (fun t h1 h2 => by
                  rcases Nat.lt_or_ge t k with h3 | h3
                  · exact HZ.out t h1 h3
                  · obtain rfl : t = k := by omega
                    exact hx.out), (by first | rfl | trivial)⟩
                case measure => simp [intOf]; omega
              · have hxb : (x == 0) = false := by simpa using hx0
                obtain ⟨hvk, hfk⟩ := hG.cells k hlt3
                obtain ⟨hck', hfc⟩ := hG.cells c hlt2
                obtain ⟨vk2, hvk2⟩ := cell?_setCell_some (w := w2) (p := ⟨g, k, none⟩) (x := (.slice (some ⟨blk c, 0, none⟩) (i + 1) (cap c))) (q := ⟨g, c, none⟩) (v := (.slice (some ⟨blk c, 0, none⟩) (i + 1) (cap c))) hck'
                have hki' : ((k : Int) == (i : Int)) = false := beq_eq_false_iff_ne.2 (by omega)
                go_wp2_with fail
                go_upto_region 16 with fail
                refine wp_region_held_drew (S := fun W => True) (by kernel_rfl) (by trivial) (fun hHeld => ?_)
                refine wpAnyH_take (i := 0) (v := ?vi10) rfl (by kernel_rfl) (by kernel_rfl) (by kernel_rfl) (fun _ _ _ h => h) (Or.inl ⟨by rfl, ?hi10⟩) (by assumption) ?ri10
                case hi10 => (intro w hSw; (try dsimp only at hSw); go_simp; (try with_reducible rfl))
                try simp only [Act.put, List.getElem_toArray, List.getElem_cons_succ, List.getElem_cons_zero, List.setIfInBounds_toArray, List.set_cons_zero, List.set_cons_succ]
                refine wpAnyH_take (i := 1) (v := ?vi11) rfl (by kernel_rfl) (by kernel_rfl) (by kernel_rfl) (fun _ _ _ h => h) (Or.inl ⟨by rfl, ?hi11⟩) (by assumption) ?ri11
                case hi11 => (intro w hSw; (try dsimp only at hSw); go_simp; (try with_reducible rfl))
                try simp only [Act.put, List.getElem_toArray, List.getElem_cons_succ, List.getElem_cons_zero, List.setIfInBounds_toArray, List.set_cons_zero, List.set_cons_succ]
                refine wpAnyH_take (i := 2) (v := ?vi12) rfl (by kernel_rfl) (by kernel_rfl) (by kernel_rfl) (fun _ _ _ h => h) (Or.inl ⟨by rfl, ?hi12⟩) (by assumption) ?ri12
                case hi12 => (intro w hSw; (try dsimp only at hSw); go_simp; (try with_reducible rfl))
                try simp only [Act.put, List.getElem_toArray, List.getElem_cons_succ, List.getElem_cons_zero, List.setIfInBounds_toArray, List.set_cons_zero, List.set_cons_succ]
                refine wpAnyH_take (i := 3) (v := ?vi13) rfl (by kernel_rfl) (by kernel_rfl) (by kernel_rfl) (fun _ _ _ h => h) (Or.inl ⟨by rfl, ?hi13⟩) (by assumption) ?ri13
                case hi13 => (intro w hSw; (try dsimp only at hSw); go_simp; (try with_reducible rfl))
                try simp only [Act.put, List.getElem_toArray, List.getElem_cons_succ, List.getElem_cons_zero, List.setIfInBounds_toArray, List.set_cons_zero, List.set_cons_succ]
                refine wpAnyH_take (i := 4) (v := ?vi14) rfl (by kernel_rfl) (by kernel_rfl) (by kernel_rfl) (fun _ _ _ h => h) (Or.inl ⟨by rfl, ?hi14⟩) (by assumption) ?ri14
                case hi14 => (intro w hSw; (try dsimp only at hSw); go_simp; (try with_reducible rfl))
                try simp only [Act.put, List.getElem_toArray, List.getElem_cons_succ, List.getElem_cons_zero, List.setIfInBounds_toArray, List.set_cons_zero, List.set_cons_succ]
                refine wpAnyH_take (i := 5) (v := ?vi15) rfl (by kernel_rfl) (by kernel_rfl) (by kernel_rfl) (fun _ _ _ h => h) (Or.inl ⟨by rfl, ?hi15⟩) (by assumption) ?ri15
                case hi15 => (intro w hSw; (try dsimp only at hSw); go_simp; (try with_reducible rfl))
                try simp only [Act.put, List.getElem_toArray, List.getElem_cons_succ, List.getElem_cons_zero, List.setIfInBounds_toArray, List.set_cons_zero, List.set_cons_succ]
                refine wpAnyH_take (i := 6) (v := ?vi16) rfl (by kernel_rfl) (by kernel_rfl) (by kernel_rfl) (fun _ _ _ h => h) (Or.inl ⟨by rfl, ?hi16⟩) (by assumption) ?ri16
                case hi16 => (intro w hSw; (try dsimp only at hSw); go_simp; (try with_reducible rfl))
                try simp only [Act.put, List.getElem_toArray, List.getElem_cons_succ, List.getElem_cons_zero, List.setIfInBounds_toArray, List.set_cons_zero, List.set_cons_succ]
                refine wpAnyH_take (i := 8) (v := ?vi18) rfl (by kernel_rfl) (by kernel_rfl) (by kernel_rfl) (fun _ _ _ h => h) (Or.inl ⟨by rfl, ?hi18⟩) (by assumption) ?ri18
                case hi18 => (intro w hSw; (try dsimp only at hSw); go_simp; (try with_reducible rfl))
                try simp only [Act.put, List.getElem_toArray, List.getElem_cons_succ, List.getElem_cons_zero, List.setIfInBounds_toArray, List.set_cons_zero, List.set_cons_succ]
                refine wpAnyH_take (i := 9) (v := ?vi19) rfl (by kernel_rfl) (by kernel_rfl) (by kernel_rfl) (fun _ _ _ h => h) (Or.inl ⟨by rfl, ?hi19⟩) (by assumption) ?ri19
                case hi19 => (intro w hSw; (try dsimp only at hSw); go_simp; (try with_reducible rfl))
                try simp only [Act.put, List.getElem_toArray, List.getElem_cons_succ, List.getElem_cons_zero, List.setIfInBounds_toArray, List.set_cons_zero, List.set_cons_succ]
                refine wpAnyH_take (i := 10) (v := ?vi110) rfl (by kernel_rfl) (by kernel_rfl) (by kernel_rfl) (fun _ _ _ h => h) (Or.inl ⟨by rfl, ?hi110⟩) (by assumption) ?ri110
                case hi110 => (intro w hSw; (try dsimp only at hSw); go_simp; (try with_reducible rfl))
                try simp only [Act.put, List.getElem_toArray, List.getElem_cons_succ, List.getElem_cons_zero, List.setIfInBounds_toArray, List.set_cons_zero, List.set_cons_succ]
                refine wpAnyH_start [62, 66, 67, 68] (SwapI w2.drew ⟨g, k, none⟩ ⟨g, c, none⟩ (.slice (some ⟨blk c, 0, none⟩) (i + 1) (cap c)) (.slice (some ⟨blk k, 0, none⟩) (i + 1) (cap k))) [7, 11, 12, 13, 14, 15] (by kernel_rfl) (by kernel_rfl) (by kernel_rfl) (by kernel_rfl) ?starti1 hHeld ?stepsi1 ?donei1
                case starti1 => exact SwapI.start (by rintro k (rfl | rfl | rfl | rfl | rfl | rfl) <;> rfl)
                case stepsi1 =>
                  refine StepsI.cons (i := 7) rfl (fun L vs W hL hD hI hS a ha K hK => ?si1x7) ?_
                  case si1x7 =>
                    obtain ⟨t1, t2, q1, q2, hvs⟩ := SwapI.form hI.out
                    subst hvs
                    simp only [puts, Act.put, List.getElem_toArray, List.getElem_cons_succ, List.getElem_cons_zero, List.setIfInBounds_toArray, List.set_cons_zero, List.set_cons_succ] at ha
                    subst ha
                    have h7 : L 7 = false := hL.out
                    obtain rfl := hI.out.first (.inl h7)
                    go_simp
                    go_wp2_with fail
                    refine hK.out [(.slice (some ⟨blk c, 0, none⟩) (i + 1) (cap c)), t2, q1, q2] _ _ trivial (hI.out.op7 h7) (by simp only [puts, Act.put, List.getElem_toArray, List.getElem_cons_succ, List.getElem_cons_zero, List.setIfInBounds_toArray, List.set_cons_zero, List.set_cons_succ])
                  refine StepsI.cons (i := 11) rfl (fun L vs W hL hD hI hS a ha K hK => ?si1x11) ?_
                  case si1x11 =>
                    obtain ⟨t1, t2, q1, q2, hvs⟩ := SwapI.form hI.out
                    subst hvs
                    simp only [puts, Act.put, List.getElem_toArray, List.getElem_cons_succ, List.getElem_cons_zero, List.setIfInBounds_toArray, List.set_cons_zero, List.set_cons_succ] at ha
                    subst ha
                    have h11 : L 11 = false := hL.out
                    obtain rfl := hI.out.first (.inr h11)
                    go_simp
                    go_wp2_with fail
                    refine hK.out [t1, (.slice (some ⟨blk k, 0, none⟩) (i + 1) (cap k)), q1, q2] _ _ trivial (hI.out.op11 h11) (by simp only [puts, Act.put, List.getElem_toArray, List.getElem_cons_succ, List.getElem_cons_zero, List.setIfInBounds_toArray, List.set_cons_zero, List.set_cons_succ])
                  refine StepsI.cons (i := 12) rfl (fun L vs W hL hD hI hS a ha K hK => ?si1x12) ?_
                  case si1x12 =>
                    obtain ⟨t1, t2, q1, q2, hvs⟩ := SwapI.form hI.out
                    subst hvs
                    simp only [puts, Act.put, List.getElem_toArray, List.getElem_cons_succ, List.getElem_cons_zero, List.setIfInBounds_toArray, List.set_cons_zero, List.set_cons_succ] at ha
                    subst ha
                    go_simp
                    go_wp2_with fail
                    refine hK.out [t1, t2, .pointer (some ⟨g, k, none⟩), q2] _ _ trivial hI.out.op12 (by simp only [puts, Act.put, List.getElem_toArray, List.getElem_cons_succ, List.getElem_cons_zero, List.setIfInBounds_toArray, List.set_cons_zero, List.set_cons_succ])
                  refine StepsI.cons (i := 13) rfl (fun L vs W hL hD hI hS a ha K hK => ?si1x13) ?_
                  case si1x13 =>
                    obtain ⟨t1, t2, q1, q2, hvs⟩ := SwapI.form hI.out
                    subst hvs
                    simp only [puts, Act.put, List.getElem_toArray, List.getElem_cons_succ, List.getElem_cons_zero, List.setIfInBounds_toArray, List.set_cons_zero, List.set_cons_succ] at ha
                    subst ha
                    obtain ⟨rfl, rfl, rfl, hn⟩ := hI.out.at13 (hD.out 12 (by kernel_rfl)) (hD.out 7 (by kernel_rfl)) (hD.out 11 (by kernel_rfl)) hL.out
                    go_simp
                    go_wp2_with fail
                    refine hK.out [(.slice (some ⟨blk c, 0, none⟩) (i + 1) (cap c)), t2, .pointer (some ⟨g, k, none⟩), q2] _ _ trivial hn (by simp only [puts, Act.put, List.getElem_toArray, List.getElem_cons_succ, List.getElem_cons_zero, List.setIfInBounds_toArray, List.set_cons_zero, List.set_cons_succ])
                  refine StepsI.cons (i := 14) rfl (fun L vs W hL hD hI hS a ha K hK => ?si1x14) ?_
                  case si1x14 =>
                    obtain ⟨t1, t2, q1, q2, hvs⟩ := SwapI.form hI.out
                    subst hvs
                    simp only [puts, Act.put, List.getElem_toArray, List.getElem_cons_succ, List.getElem_cons_zero, List.setIfInBounds_toArray, List.set_cons_zero, List.set_cons_succ] at ha
                    subst ha
                    go_simp
                    go_wp2_with fail
                    refine hK.out [t1, t2, q1, .pointer (some ⟨g, c, none⟩)] _ _ trivial hI.out.op14 (by simp only [puts, Act.put, List.getElem_toArray, List.getElem_cons_succ, List.getElem_cons_zero, List.setIfInBounds_toArray, List.set_cons_zero, List.set_cons_succ])
                  refine StepsI.cons (i := 15) rfl (fun L vs W hL hD hI hS a ha K hK => ?si1x15) ?_
                  case si1x15 =>
                    obtain ⟨t1, t2, q1, q2, hvs⟩ := SwapI.form hI.out
                    subst hvs
                    simp only [puts, Act.put, List.getElem_toArray, List.getElem_cons_succ, List.getElem_cons_zero, List.setIfInBounds_toArray, List.set_cons_zero, List.set_cons_succ] at ha
                    subst ha
                    obtain ⟨rfl, rfl, rfl, hn⟩ := hI.out.at15 (hD.out 14 (by kernel_rfl)) (hD.out 13 (by kernel_rfl)) hL.out
                    go_simp
                    go_wp2_with fail
                    refine hK.out [t1, (.slice (some ⟨blk k, 0, none⟩) (i + 1) (cap k)), q1, .pointer (some ⟨g, c, none⟩)] _ _ trivial hn (by simp only [puts, Act.put, List.getElem_toArray, List.getElem_cons_succ, List.getElem_cons_zero, List.setIfInBounds_toArray, List.set_cons_zero, List.set_cons_succ])
                  exact StepsI.nil
                case donei1 =>
                  intro L vs W hall hI hS
                  obtain ⟨t1, t2, q1, q2, hvs⟩ := SwapI.form hI
                  subst hvs
                  obtain rfl := hI.done (fun k hk => hall k hk)
                  clear hI hall hvk hfk hck' hfc
                  simp only [puts]
                  try simp only [Act.put, List.getElem_toArray, List.getElem_cons_succ, List.getElem_cons_zero, List.setIfInBounds_toArray, List.set_cons_zero, List.set_cons_succ]
                  obtain ⟨blk1, cap1, T1, hG1, HT1, HP⟩ : ∃ blk1 cap1 T1, Grid w.heap.size ((w2.drew.setCell ⟨g, k, none⟩ (.slice (some ⟨blk c, 0, none⟩) (i + 1) (cap c))).setCell ⟨g, c, none⟩ (.slice (some ⟨blk k, 0, none⟩) (i + 1) (cap k))) g i (i + 1) blk1 cap1 T1 ∧ Hid (LA.ElimAt i (entM ms) c T1 last) ∧ Hid (T1 c c = x) := ⟨_, _, _, Grid.swap (hG.below (by repeat (first | with_reducible exact Below.refl _ _ | with_reducible apply bdrew | with_reducible apply bdrewN | with_reducible apply balloc | ((with_reducible refine bset ?_ ?_ _); rotate_left; (first | omega | (simp <;> omega)))))) hlt2 hlt3, Lib.hid (LA.ElimAt.swap HT.out hck hlt3 (fun _ _ _ _ => rfl)), Lib.hid (by show T (LA.sw c k c) c = x; rw [show LA.sw c k c = k from if_pos rfl]; exact hx.out)⟩
                  have hlow := hG.low
                  have hB3 : Below w.heap.size w ((w2.drew.setCell ⟨g, k, none⟩ (.slice (some ⟨blk c, 0, none⟩) (i + 1) (cap c))).setCell ⟨g, c, none⟩ (.slice (some ⟨blk k, 0, none⟩) (i + 1) (cap k))) := by repeat (first | with_reducible exact hB2 | with_reducible apply bdrew | with_reducible apply bdrewN | with_reducible apply balloc | ((with_reducible refine bset ?_ ?_ _); rotate_left; (first | omega | (simp <;> omega))))
                  generalize ((w2.drew.setCell ⟨g, k, none⟩ (.slice (some ⟨blk c, 0, none⟩) (i + 1) (cap c))).setCell ⟨g, c, none⟩ (.slice (some ⟨blk k, 0, none⟩) (i + 1) (cap k))) = w3 at hG1 hB3 ⊢
                  clear hG HT HTB hx hl0 hl1 hl2 HZ hout hcl
                  have hne := hx0
                  have HNZ : Hid (T1 c c ≠ 0) := Lib.hid (by rw [HP.out]; exact hx0)
                  obtain ⟨⟨hl0, hl1, hl2⟩, htb⟩ := HT1.out.le HIN.out
                  have HTB := Lib.hid htb
                  have HXB := Lib.hid (fun (a j : Nat) (ha : a < i) (hj : j ≤ i) => LA.ElimAt.exact HT1.out hlt2 ha hj HIN.out HNZ.out)
                  have hpb : -5898240 ≤ x ∧ x ≤ 5898240 := by rw [← HP.out]; exact htb c hlt2 c (by omega)
                  obtain ⟨hpb1, hpb2⟩ := hpb
                  obtain ⟨X, HX⟩ : ∃ X, Hid (X = LA.elimW T1 last c) := ⟨_, Lib.hid rfl⟩
                  clear htb hne
                  go_wp2_with fail
                  go_loopw [11] (fun y wr => ∃ a : Nat, a ≤ i ∧ y = .int .i64 a ∧ Grid w.heap.size wr g i (i + 1) blk1 cap1 (pivP T1 X c a 0) ∧ Below w.heap.size w wr) (fun y _ => i - (intOf y).toNat)
                  case atStart => exact ⟨0, Nat.zero_le _, rfl, (hG1.below (by repeat (first | with_reducible exact Below.refl _ _ | with_reducible apply bdrew | with_reducible apply bdrewN | with_reducible apply balloc | ((with_reducible refine bset ?_ ?_ _); rotate_left; (first | omega | (simp <;> omega)))))).congr (fun a _ j _ => pivP_start T1 X c a j), by repeat (first | with_reducible exact hB3 | with_reducible apply bdrew | with_reducible apply bdrewN | with_reducible apply balloc | ((with_reducible refine bset ?_ ?_ _); rotate_left; (first | omega | (simp <;> omega))))⟩
                  case round =>
                    clear hG1 hB3
                    obtain ⟨a, ha, rfl, hG2, hB4⟩ := hrel
                    obtain ⟨w4, rfl⟩ : ∃ wo : World, wo = wr := ⟨_, rfl⟩
                    by_cases hlt4 : a < i
                    · by_cases hac : a = c
                      · subst hac
                        go_wp2
                        go_roundw
                        case rel => exact ⟨a + 1, by omega, by go_num, (hG2.below (by repeat (first | with_reducible exact Below.refl _ _ | with_reducible apply bdrew | with_reducible apply bdrewN | with_reducible apply balloc | ((with_reducible refine bset ?_ ?_ _); rotate_left; (first | omega | (simp <;> omega)))))).congr (fun a' _ j _ => pivP_skip T1 X a a' j), by repeat (first | with_reducible exact hB4 | with_reducible apply bdrew | with_reducible apply bdrewN | with_reducible apply balloc | ((with_reducible refine bset ?_ ?_ _); rotate_left; (first | omega | (simp <;> omega))))⟩
                        case measure => simp [intOf]; omega
                      · have hac' : ¬ ((a : Int) = (c : Int)) := by omega
                        have hout := (hG2.cells a hlt4).1
                        have hrc := (hG2.cell (i := a) (j := c) hlt4 (by omega)).1
                        rw [pivP_same] at hrc
                        obtain ⟨q, hq⟩ : ∃ q, Hid (T1 a c = q) := ⟨_, Lib.hid rfl⟩
                        have hqb := HTB.out a hlt4 c (by omega)
                        rw [hq.out] at hrc hqb
                        obtain ⟨hqb1, hqb2⟩ := hqb
                        go_wp2_with fail
                        (try simp only [show decide ((a : Int) < (i : Int)) = true from decide_eq_true (by omega), show ((a : Int) == (c : Int)) = false from beq_eq_false_iff_ne.2 (by omega)])
                        go_loopw [13] (fun y wr => ∃ j : Nat, j ≤ i + 1 ∧ y = .int .i64 j ∧ Grid w.heap.size wr g i (i + 1) blk1 cap1 (pivP T1 X c a j) ∧ Below w.heap.size w wr) (fun y _ => i + 1 - (intOf y).toNat)
                        case atStart => exact ⟨0, Nat.zero_le _, rfl, hG2.below (by repeat (first | with_reducible exact Below.refl _ _ | with_reducible apply bdrew | with_reducible apply bdrewN | with_reducible apply balloc | ((with_reducible refine bset ?_ ?_ _); rotate_left; (first | omega | (simp <;> omega))))), by repeat (first | with_reducible exact hB4 | with_reducible apply bdrew | with_reducible apply bdrewN | with_reducible apply balloc | ((with_reducible refine bset ?_ ?_ _); rotate_left; (first | omega | (simp <;> omega))))⟩
                        case round =>
                          clear hG2 hB4 hout hrc
                          obtain ⟨j, hj, rfl, hG3, hB5⟩ := hrel
                          obtain ⟨w5, rfl⟩ : ∃ wo : World, wo = wr := ⟨_, rfl⟩
                          have d5s := hB5.size
                          by_cases hlt5 : j < i + 1
                          · have hra := (hG3.cells a hlt4).1
                            have hjI : (j : Int) < (i : Int) + 1 := by omega
                            have hcI : (c : Int) < (i : Int) + 1 := by omega
                            have hrr := (hG3.cells c hlt2).1
                            obtain ⟨hc1, hf1, hbl1, hbl2⟩ := hG3.cell (i := a) (j := j) hlt4 hlt5
                            have hc2 := (hG3.cell (i := c) (j := c) hlt2 (by omega)).1
                            have hc3 := (hG3.cell (i := c) (j := j) hlt2 hlt5).1
                            rw [pivP_at] at hc1
                            rw [pivP_r] at hc2 hc3
                            rw [HP.out] at hc2
                            have hAB := HTB.out a hlt4 j (by omega)
                            have hDB := HTB.out c hlt2 j (by omega)
                            have hXB2 := HXB.out a j hlt4 (by omega)
                            have hXE : (T1 a j * x - q * T1 c j).tdiv last = X a j := by rw [HX.out]; unfold LA.elimW; rw [if_neg hac, HP.out, hq.out]
                            rw [← HX.out] at hXB2
                            obtain ⟨u, hu⟩ : ∃ u, Hid (T1 a j = u) := ⟨_, Lib.hid rfl⟩
                            obtain ⟨d, hd⟩ : ∃ d, Hid (T1 c j = d) := ⟨_, Lib.hid rfl⟩
                            obtain ⟨z, hz⟩ : ∃ z, Hid (X a j = z) := ⟨_, Lib.hid rfl⟩
                            rw [hu.out] at hc1 hAB hXE
                            rw [hd.out] at hc3 hDB hXE
                            rw [hz.out] at hXE hXB2
                            have hm1 := LA.abs_mul hAB ⟨hpb1, hpb2⟩
                            have hm2 := LA.abs_mul ⟨hqb1, hqb2⟩ hDB
                            obtain ⟨hm3, hm4⟩ := hm1
                            obtain ⟨hm5, hm6⟩ := hm2
                            obtain ⟨hz1, hz2⟩ := hXB2
                            clear hAB hDB
                            go_wp2_with fail
                            refine region_still_tail 33 (by kernel_rfl) (by kernel_rfl) ?_
                            simp only [List.take_succ_cons, List.take_zero, List.drop_succ_cons, List.drop_zero]
                            repeat still_step
                            refine wpStill_nil ?_
                            go_wp2
                            go_roundw
                            case rel => exact ⟨j + 1, by omega, by go_num, ((hG3.set hlt4 z (j := j) (T' := pivP T1 X c a (j + 1)) (fun a' _ c' _ => by rw [pivP_step T1 X hac, hz.out])).below (by repeat (first | with_reducible exact Below.refl _ _ | with_reducible apply bdrew | with_reducible apply bdrewN | with_reducible apply balloc | ((with_reducible refine bset ?_ ?_ _); rotate_left; (first | omega | (simp <;> omega)))))), by repeat (first | with_reducible exact hB5 | with_reducible apply bdrew | with_reducible apply bdrewN | with_reducible apply balloc | ((with_reducible refine bset ?_ ?_ _); rotate_left; (first | omega | (simp <;> omega))))⟩
                            case measure => simp [intOf]; omega
                          · obtain rfl : j = i + 1 := by omega
                            go_wp2
                            go_roundw
                            case rel => exact ⟨a + 1, by omega, by go_num, (hG3.below (by repeat (first | with_reducible exact Below.refl _ _ | with_reducible apply bdrew | with_reducible apply bdrewN | with_reducible apply balloc | ((with_reducible refine bset ?_ ?_ _); rotate_left; (first | omega | (simp <;> omega)))))).congr (fun a' _ c' hc' => pivP_row T1 X hc'), by repeat (first | with_reducible exact hB5 | with_reducible apply bdrew | with_reducible apply bdrewN | with_reducible apply balloc | ((with_reducible refine bset ?_ ?_ _); rotate_left; (first | omega | (simp <;> omega))))⟩
                            case measure => simp [intOf]; omega
                    · obtain rfl : a = i := by omega
                      have hG3 : Grid w.heap.size w4 g a (a + 1) blk1 cap1 X := hG2.congr (fun a' ha' j _ => (pivP_end (r := c) ha' (fun j => by rw [HX.out]; unfold LA.elimW; rw [if_pos rfl])).symm)
                      have hrr := (hG3.cells c hlt2).1
                      have hc2 := (hG3.cell (i := c) (j := c) hlt2 (by omega)).1
                      have hXcc : X c c = x := by rw [HX.out]; unfold LA.elimW; rw [if_pos rfl]; exact HP.out
                      rw [hXcc] at hc2
                      have HE2 : Hid (LA.ElimAt a (entM ms) (c + 1) X x) := Lib.hid (by have h := LA.ElimAt.step HT1.out hlt2 HNZ.out (w' := X) (fun _ _ _ _ => by rw [HX.out]); rw [HP.out] at h; exact h)
                      go_wp2
                      go_roundw
                      case rel => exact ⟨c + 1, x, blk1, cap1, X, by omega, by go_num, rfl, hG3.below (by repeat (first | with_reducible exact Below.refl _ _ | with_reducible apply bdrew | with_reducible apply bdrewN | with_reducible apply balloc | ((with_reducible refine bset ?_ ?_ _); rotate_left; (first | omega | (simp <;> omega))))), HE2, by repeat (first | with_reducible exact hB4 | with_reducible apply bdrew | with_reducible apply bdrewN | with_reducible apply balloc | ((with_reducible refine bset ?_ ?_ _); rotate_left; (first | omega | (simp <;> omega))))⟩
                      case measure => simp [intOf]; omega
            · obtain rfl : k = i := by omega
              go_wp2
              refine bodyPost_ret (v := .tuple #[.slice none 0 0, .int .i64 0, .bool false]) ?_ rfl ⟨by repeat (first | with_reducible exact hB2 | with_reducible apply bdrew | with_reducible apply bdrewN | with_reducible apply balloc | ((with_reducible refine bset ?_ ?_ _); rotate_left; (first | omega | (simp <;> omega)))), .inl ⟨rfl, elim_kern hl.out (LA.ElimAt.singular HT.out hlt2 (fun t h1 h2 => HZ.out t h1 h2))⟩⟩
              simp [results, Try.results55]
        · obtain rfl : c = i := by omega
          have HB2 := Lib.hid hB2
          go_wp2_with fail
          go_loopw [14, 15] (fun z y wr => ∃ (a : Nat) (v : Value), a ≤ c ∧ y = .int .i64 a ∧ v = z ∧ OwnI w2.heap.size wr v (tbRow a fun j => if last < 0 then - T j c else T j c) ∧ Below w2.heap.size w2 wr) (fun _ y _ => c - (intOf y).toNat)
          case atStart => exact ⟨0, _, Nat.zero_le _, rfl, rfl, OwnI.nil _ _, by repeat (first | with_reducible exact Below.refl _ _ | with_reducible apply bdrew | with_reducible apply bdrewN | with_reducible apply balloc | ((with_reducible refine bset ?_ ?_ _); rotate_left; (first | omega | (simp <;> omega))))⟩
          case round =>
            obtain ⟨a, v, ha, rfl, rfl, hO, hB6⟩ := hrel
            obtain ⟨w6, rfl⟩ : ∃ wo : World, wo = wr := ⟨_, rfl⟩
            have d6s := hB6.size
            have HLEN := Lib.hid (show (tbRow a fun j => if last < 0 then - T j c else T j c).length < 1000000000000 by rw [tbRow_len]; omega)
            by_cases hlt4 : a < c
            · obtain rfl := HA.out (by omega)
              have hG6 := hG.below hB6
              have hout := (hG6.cells a hlt4).1
              have hcl := (hG6.cell (i := a) (j := c) hlt4 (by omega)).1
              have hcb := HTB.out a hlt4 c (Nat.le_refl _)
              obtain ⟨x, hx⟩ : ∃ x, Hid (T a c = x) := ⟨_, Lib.hid rfl⟩
              rw [hx.out] at hcl hcb
              obtain ⟨hcb1, hcb2⟩ := hcb
              by_cases hneg : last < 0
              · have HS : Hid (tbRow (a + 1) (fun j => if last < 0 then - T j c else T j c) = tbRow a (fun j => if last < 0 then - T j c else T j c) ++ [-x]) := Lib.hid (by rw [tbRow_snoc, if_pos hneg, hx.out])
                go_wp2_with (at_builtin; go_must (refine wpList_push rfl (.tmp 136) (.tmp 145) rfl w2 [] w2.heap.size v _ (-x) rfl (OwnI.below hO ?p1) ⟨w6.heap.size, 0, none⟩ 1 rfl ?p2 HLEN.out ?p3 (Nat.le_refl _) ?p5 trivial ?p7 ?_; (case p1 => repeat (first | with_reducible exact Below.refl _ _ | with_reducible apply bdrew | with_reducible apply bdrewN | with_reducible apply balloc | ((with_reducible refine bset ?_ ?_ _); rotate_left; (first | omega | (simp <;> omega))))); (case p2 => simp [go_sem]); (case p3 => (simp <;> omega)); (case p5 => repeat (first | with_reducible exact hB6 | with_reducible apply bdrew | with_reducible apply bdrewN | with_reducible apply balloc | ((with_reducible refine bset ?_ ?_ _); rotate_left; (first | omega | (simp <;> omega))))); (case p7 => intro x hx; cases hx); intro v7 w7 o7 D7 C7 sz7; clear C7))
                go_wp2
                go_roundw
                case rel => exact ⟨a + 1, _, by omega, by go_num, rfl, (by rw [HS.out]; exact OwnI.below o7 (by repeat (first | with_reducible exact Below.refl _ _ | with_reducible apply bdrew | with_reducible apply bdrewN | with_reducible apply balloc | ((with_reducible refine bset ?_ ?_ _); rotate_left; (first | omega | (simp <;> omega)))))), by repeat (first | with_reducible exact D7 | with_reducible apply bdrew | with_reducible apply bdrewN | with_reducible apply balloc | ((with_reducible refine bset ?_ ?_ _); rotate_left; (first | omega | (simp <;> omega))))⟩
                case measure => simp [intOf]; omega
              · have HS : Hid (tbRow (a + 1) (fun j => if last < 0 then - T j c else T j c) = tbRow a (fun j => if last < 0 then - T j c else T j c) ++ [x]) := Lib.hid (by rw [tbRow_snoc, if_neg hneg, hx.out])
                have hnd : decide (last < 0) = false := decide_eq_false hneg
                go_wp2_with (at_builtin; go_must (refine wpList_push rfl (.tmp 147) (.tmp 155) rfl w2 [] w2.heap.size v _ (x) rfl (OwnI.below hO ?p1) ⟨w6.heap.size, 0, none⟩ 1 rfl ?p2 HLEN.out ?p3 (Nat.le_refl _) ?p5 trivial ?p7 ?_; (case p1 => repeat (first | with_reducible exact Below.refl _ _ | with_reducible apply bdrew | with_reducible apply bdrewN | with_reducible apply balloc | ((with_reducible refine bset ?_ ?_ _); rotate_left; (first | omega | (simp <;> omega))))); (case p2 => simp [go_sem]); (case p3 => (simp <;> omega)); (case p5 => repeat (first | with_reducible exact hB6 | with_reducible apply bdrew | with_reducible apply bdrewN | with_reducible apply balloc | ((with_reducible refine bset ?_ ?_ _); rotate_left; (first | omega | (simp <;> omega))))); (case p7 => intro x hx; cases hx); intro v7 w7 o7 D7 C7 sz7; clear C7))
                go_wp2
                go_roundw
                case rel => exact ⟨a + 1, _, by omega, by go_num, rfl, (by rw [HS.out]; exact OwnI.below o7 (by repeat (first | with_reducible exact Below.refl _ _ | with_reducible apply bdrew | with_reducible apply bdrewN | with_reducible apply balloc | ((with_reducible refine bset ?_ ?_ _); rotate_left; (first | omega | (simp <;> omega)))))), by repeat (first | with_reducible exact D7 | with_reducible apply bdrew | with_reducible apply bdrewN | with_reducible apply balloc | ((with_reducible refine bset ?_ ?_ _); rotate_left; (first | omega | (simp <;> omega))))⟩
                case measure => simp [intOf]; omega
            · obtain rfl : a = c := by omega
              have HSO : Hid (LA.SolV ms a (LA.atI (tbRow a fun j => if last < 0 then - T j a else T j a)) (if last < 0 then - last else last)) := Lib.hid (elim_sol hl.out (fun t ht => by
                have h := LA.ElimAt.solved HT.out ht
                rw [← h]
                exact LA.sumN_congr fun j hj => by unfold LA.atI; rw [tbRow_at _ hj]; rfl))
              have HOB : Hid (∀ y ∈ (tbRow a fun j => if last < 0 then - T j a else T j a), -5898240 ≤ y ∧ y ≤ 5898240) := Lib.hid (fun y hy => by
                obtain ⟨j, hj, rfl⟩ := List.mem_map.1 hy
                have h := HTB.out j (List.mem_range.1 hj) a (Nat.le_refl _)
                split <;> omega)
              by_cases hneg : last < 0
              · have HSO2 : Hid (LA.SolV ms a (LA.atI (tbRow a fun j => if last < 0 then - T j a else T j a)) (-last)) := Lib.hid (by have h := HSO.out; have e : (if last < 0 then - last else last) = -last := if_pos hneg; rw [e] at h; exact h)
                go_wp2
                refine bodyPost_ret (v := .tuple #[v, .int .i64 (-last), .bool true]) ?_ rfl ⟨by repeat (first | with_reducible exact (HB2.out.trans (hB6.mono HB2.out.size)) | with_reducible apply bdrew | with_reducible apply bdrewN | with_reducible apply balloc | ((with_reducible refine bset ?_ ?_ _); rotate_left; (first | omega | (simp <;> omega)))), .inr ⟨v, _, -last, rfl, (OwnI.mono hO HB2.out.size).below (by repeat (first | with_reducible exact Below.refl _ _ | with_reducible apply bdrew | with_reducible apply bdrewN | with_reducible apply balloc | ((with_reducible refine bset ?_ ?_ _); rotate_left; (first | omega | (simp <;> omega))))), tbRow_len _ _, by omega, by omega, HOB.out, HSO2.out⟩⟩
                simp [results, Try.results55]
              · have HSO2 : Hid (LA.SolV ms a (LA.atI (tbRow a fun j => if last < 0 then - T j a else T j a)) (last)) := Lib.hid (by have h := HSO.out; have e : (if last < 0 then - last else last) = last := if_neg hneg; rw [e] at h; exact h)
                have hnd : decide (last < 0) = false := decide_eq_false hneg
                go_wp2
                refine bodyPost_ret (v := .tuple #[v, .int .i64 (last), .bool true]) ?_ rfl ⟨by repeat (first | with_reducible exact (HB2.out.trans (hB6.mono HB2.out.size)) | with_reducible apply bdrew | with_reducible apply bdrewN | with_reducible apply balloc | ((with_reducible refine bset ?_ ?_ _); rotate_left; (first | omega | (simp <;> omega)))), .inr ⟨v, _, last, rfl, (OwnI.mono hO HB2.out.size).below (by repeat (first | with_reducible exact Below.refl _ _ | with_reducible apply bdrew | with_reducible apply bdrewN | with_reducible apply balloc | ((with_reducible refine bset ?_ ?_ _); rotate_left; (first | omega | (simp <;> omega))))), tbRow_len _ _, by omega, by omega, HOB.out, HSO2.out⟩⟩
                simp [results, Try.results55]


end Go.Proofs.Ytkepfmglljkjhaa
