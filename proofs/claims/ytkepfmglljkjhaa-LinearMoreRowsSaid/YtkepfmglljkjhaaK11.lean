/-
  The dual program of the reference (Transposed).
  Steps of regions that draw: append of rows, of whole lists; rows that are exchanged.
  A program with a further row; append of whole lists of integers as a step of a region that draws.
  append of lists as a step of a region that draws, with what grew; one row, one integer in a block of its own.
  The program with a further row: one invariant for all orders in which its parts may be made.
-/
import Derived.Test.YtkepfmglljkjhaaK7
import Derived.Test.YtkepfmglljkjhaaK10
import Derived.Test.YtkepfmglljkjhaaK8
import Derived.Deep.AppendLies
import Derived.Test.YtkepfmglljkjhaaK4
import Derived.Test.YtkepfmglljkjhaaK12
namespace Go.Proofs.Ytkepfmglljkjhaa
open Go.RowKit
set_option linter.unusedVariables false
set_option linter.unusedSimpArgs false
/-! ### Rows of own lists, whose blocks are known -/
def PAx (base : Nat) (w : World) (row : Option Nat) (cs : List Value) (x : Option Addr × Nat × List Int) : Prop :=
  cs = [.slice x.1 x.2.2.length x.2.1] ∧ Ints w x.1 x.2.2 ∧ NilOk x.1 x.2.2 x.2.1 ∧ ∀ ad, x.1 = some ad → some ad.block ≠ row ∧ base ≤ ad.block ∧ ad.block < w.heap.size
theorem pax_stable (base : Nat) : Stable (PAx base) := by
  constructor
  · rintro w w' row cs x ⟨e, hI, hn, hb⟩ hB
    exact ⟨e, hI.below hB, hn, fun ad h => ⟨(hb ad h).1, (hb ad h).2.1, Nat.lt_of_lt_of_le (hb ad h).2.2 hB.size⟩⟩
  · rintro w w' row cs x ⟨e, hI, hn, hb⟩ hg
    have hI' : Ints w' x.1 x.2.2 := Ints.grown hI hg (fun ad h => (hb ad h).1)
    have hlt : ∀ ad, x.1 = some ad → ad.block < w'.heap.size := fun ad h => Nat.lt_of_lt_of_le (hb ad h).2.2 hg.size
    exact ⟨⟨e, hI', hn, fun ad h => ⟨(hb ad h).1, (hb ad h).2.1, hlt ad h⟩⟩, ⟨e, hI', hn, fun ad h => ⟨fun e => by injection e with e; have := (hb ad h).2.2; omega, (hb ad h).2.1, hlt ad h⟩⟩⟩
def OwnAx (base : Nat) (w : World) (v : Value) (els : List (Option Addr × Nat × List Int)) : Prop := OwnEs (PAx base) 23 1 base w v els
section
variable {base : Nat} {w w' : World} {v : Value} {els : List (Option Addr × Nat × List Int)}
theorem OwnAx.below (h : OwnAx base w v els) (hb : Below w.heap.size w w') : OwnAx base w' v els := OwnEs.below (pax_stable _) h hb
theorem OwnAx.far (h : OwnAx base w v els) {p : Addr} (hp : p.block < base) (u : Value) : OwnAx base (w.setCell p u) v els :=
  OwnEs.far h (fun {w row cs a p u} h hp => ⟨h.1, Ints.far h.2.1 (fun ad e => by have := (h.2.2.2 ad e).2.1; omega) _, h.2.2.1, fun ad e => by
    have := h.2.2.2 ad e
    exact ⟨this.1, this.2.1, by simpa using this.2.2⟩⟩) hp u
theorem OwnAx.other {r : Option Nat} (h : OwnAx base w v els) (hg : w.grownBy w' r) (h1 : ∀ k, v.ownBlock = some k → r ≠ some k) (h2 : ∀ x ∈ els, ∀ ad, x.1 = some ad → r ≠ some ad.block) : OwnAx base w' v els := by
  obtain ⟨cells, ⟨a1, a2⟩, h3⟩ := h
  refine ⟨cells, ⟨a1, ?_⟩, fun i a ha => ?_⟩
  · rcases a2 with a2 | ⟨g, cap, cur, hv, hb, hh, rr⟩
    · exact Or.inl a2
    · refine Or.inr ⟨g, cap, cur, hv, hb, ?_, rr⟩
      have hlt : g < w.heap.size := by
        rcases Nat.lt_or_ge g w.heap.size with hl | hl
        · exact hl
        · rw [Array.getElem?_eq_none hl] at hh; cases hh
      rw [hg.block g hlt (fun e => h1 g (by rw [hv]; rfl) e.symm)]
      exact hh
  · obtain ⟨e, hI, hn, hb⟩ := h3 i a ha
    exact ⟨e, Ints.grown hI hg (fun ad h => fun e => h2 a (List.mem_of_getElem? ha) ad h e.symm), hn, fun ad h => ⟨(hb ad h).1, (hb ad h).2.1, Nat.lt_of_lt_of_le (hb ad h).2.2 hg.size⟩⟩
theorem OwnAx.read {n c : Nat} {A : Option Addr} (h : OwnAx base w (.slice A n c) els) : RowsRead w A (els.map (·.2.2)) := fun i r hr => by
  rw [List.getElem?_map] at hr
  obtain ⟨x, hx, rfl⟩ := Option.map_eq_some_iff.1 hr
  obtain ⟨g, cs, a, e, hb, hlt, ha, hl, hc, hp⟩ := OwnEs.at_ h (i := i) (List.getElem?_eq_some_iff.1 hx).1
  have hax : a = x := by have := ha.out; rw [hx] at this; injection this with this; exact this.symm
  subst hax
  obtain ⟨e1, hI, hn, _⟩ := hp
  subst e1
  have h0 := hc 0 _ rfl
  refine ⟨⟨g, 0, none⟩, a.1, a.2.1, e, ?_, hI, hn⟩
  have e3 : ((⟨g, 0, none⟩ : Addr).add i) = ⟨g, i, none⟩ := by
    unfold Addr.add
    split
    · rename_i hj; subst hj; rfl
    · simp
  rw [e3]
  simpa using h0
end
end Go.Proofs.Ytkepfmglljkjhaa

namespace Go.Proofs.Ytkepfmglljkjhaa
open Go.RowKit
set_option linter.unusedVariables false
set_option linter.unusedSimpArgs false

section
variable {P : Program} {w : World}
theorem step_append_own_at {ops : Array Oper} {o : Oper} {a : Act} {K : Act → World → Prop} {Q : Exit → Act → World → Prop} {E : Prop} (hgd : o.guard = none) (s x : Operand) (t : TypeId)
    (ho : o.op = .call { callee := .builtin .append, args := #[s, x], argTypes := #[t, t] })
    (base : Nat) (e : TypeId) (i : TypeInfo) (z : Value) (size bytes : Nat) (ht : P.underlying t = some (.slice e)) (hi : P.info? e = some i) (hz : i.zero = some z)
    (hsize : i.size = size) (hby : i.bytes = bytes) (hzs : z.cells.size = size) (hsz : 0 < size)
    (v : Value) (n : Nat) (xs : List Value) (hs : a.eval s = v) (hown : w.ownsRow base e size v n xs)
    (ad : Addr) (m c : Nat) (news : List Value) (hx : a.eval x = .slice (some ad) m c) (hl : news.length = m * size) (hnews : ∀ j u, news[j]? = some u → w.cell? (ad.add j) = some u) (h1 : ∀ u ∈ news, u.oneCell' = true)
    (h63 : n + m ≤ maxLen) (hbytes : (n + m) * bytes ≤ 140737488355328) (hbase : base ≤ w.heap.size)
    (h : ∀ v' w', w'.ownsRow base e size v' (n + m) (xs ++ news) → w.grownBy w' v.ownBlock → (v' = .slice none 0 0 ↔ v = .slice none 0 0 ∧ m = 0) → (v'.ownBlock = v.ownBlock ∨ v'.ownBlock = some w.heap.size) → K (a.put o.dst v') w') :
    if Region.wanted o (yielded ops a.tmps) = true then Oper.wp P o a w K Q else E := by
  have hw : Region.wanted o (yielded ops a.tmps) = true := by simp [Region.wanted, hgd]
  rw [if_pos hw]
  obtain ⟨v', w', hr, h2, h3, h4, h5⟩ := run_append_own_at (P := P) (w := w) base t o.type e i z size bytes ht hi hz hsize hby hzs hsz v n xs hown ad m c news hl hnews h1 h63 hbytes hbase
  unfold Oper.wp execOp
  simp only [ho, resolve, invoke, builtin, Sem.run_bind, Sem.run_pure, Result.andThen_ok, List.map_toArray, List.map_cons, List.map_nil, hs, hx, hr]
  exact h _ _ h2 h3 h4 h5
theorem step_append_own_none {ops : Array Oper} {o : Oper} {a : Act} {K : Act → World → Prop} {Q : Exit → Act → World → Prop} {E : Prop} (hgd : o.guard = none) (s x : Operand) (t : TypeId)
    (ho : o.op = .call { callee := .builtin .append, args := #[s, x], argTypes := #[t, t] })
    (base : Nat) (e : TypeId) (i : TypeInfo) (size : Nat) (ht : P.underlying t = some (.slice e)) (hi : P.info? e = some i)
    (v : Value) (n : Nat) (xs : List Value) (hs : a.eval s = v) (hown : w.ownsRow base e size v n xs) (hx : a.eval x = .slice none 0 0)
    (h : K (a.put o.dst v) w) : if Region.wanted o (yielded ops a.tmps) = true then Oper.wp P o a w K Q else E := by
  have hw : Region.wanted o (yielded ops a.tmps) = true := by simp [Region.wanted, hgd]
  rw [if_pos hw]
  have hrun := run_append_owned_none (P := P) (w := w) base t o.type e i size ht hi v n xs hown
  unfold Oper.wp
  simp [execOp, ho, resolve, invoke, builtin, hs, hx, hrun, Result.andThen]
  exact h
end
/-- A cell that leads to a list of integers that lies below block K. -/
def PAo (K : Nat) (w : World) (row : Option Nat) (cs : List Value) (r : List Int) : Prop :=
  ∃ A c, cs = [.slice A r.length c] ∧ Ints w A r ∧ NilOk A r c ∧ (r ≠ [] → ∀ ad, A = some ad → ad.block < K ∧ some ad.block ≠ row)
theorem pao_stable (K : Nat) : Stable (PAo K) := by
  constructor
  · rintro w w' row cs r ⟨A, c, e, hI, hn, ha⟩ hb
    exact ⟨A, c, e, hI.below hb, hn, ha⟩
  · rintro w w' row cs r ⟨A, c, e, hI, hn, ha⟩ hg
    have hI' := hI.grown2 hg (fun hr ad h => (ha hr ad h).2)
    refine ⟨⟨A, c, e, hI', hn, ha⟩, ⟨A, c, e, hI', hn, fun hr ad h => ⟨(ha hr ad h).1, fun k => ?_⟩⟩⟩
    subst h
    have := ints_lt hI hr
    injection k with k
    omega
def OwnLO (K base : Nat) (w : World) (v : Value) (rows : List (List Int)) : Prop := OwnEs (PAo K) 23 1 base w v rows
theorem OwnLO.below {K base : Nat} {w w' : World} {v : Value} {rows : List (List Int)} (h : OwnLO K base w v rows) (hb : Below w.heap.size w w') : OwnLO K base w' v rows := OwnEs.below (pao_stable K) h hb
/-! ### Rows in a block whose cells can be written -/
def RowsAt (K : Nat) (w : World) (g : Nat) (ls : List (List Int)) : Prop :=
  (∀ j : Nat, w.frozen? ⟨g, j, none⟩ = false) ∧ ∀ (j : Nat) (r : List Int), ls[j]? = some r → ∃ B c, w.cell? ⟨g, j, none⟩ = some (.slice B r.length c) ∧ Ints w B r ∧ NilOk B r c ∧ (r ≠ [] → ∀ ad, B = some ad → ad.block < K)
theorem RowsAt.below {K : Nat} {w w' : World} {g : Nat} {ls : List (List Int)} (h : RowsAt K w g ls) (hg : g < w.heap.size) (hb : Below w.heap.size w w') : RowsAt K w' g ls :=
  ⟨fun j => (hb.frozen (p := ⟨g, j, none⟩) hg).trans (h.1 j), fun j r hr => by
    obtain ⟨B, c, h1, h2, h3, h4⟩ := h.2 j r hr
    exact ⟨B, c, (hb.cell (World.block_lt_of_cell? w _ h1)).trans h1, h2.below hb, h3, h4⟩⟩
theorem RowsAt.read {K : Nat} {w : World} {g : Nat} {ls : List (List Int)} (h : RowsAt K w g ls) : RowsRead w (some ⟨g, 0, none⟩) ls := fun j r hr => by
  obtain ⟨B, c, h1, h2, h3, h4⟩ := h.2 j r hr
  refine ⟨⟨g, 0, none⟩, B, c, rfl, ?_, h2, h3⟩
  have e : ((⟨g, 0, none⟩ : Addr).add j) = ⟨g, j, none⟩ := by
    unfold Addr.add; split
    · rename_i hj; subst hj; rfl
    · simp
  rw [e]; exact h1
theorem Ints.off {w : World} {B : Option Addr} {r : List Int} (h : Ints w B r) {p : Addr} (hne : r ≠ [] → ∀ ad, B = some ad → ad.block ≠ p.block) (u : Value) : Ints (w.setCell p u) B r := by
  by_cases e : r = []
  · subst e; exact Ints.nil _ _
  · exact h.far (hne e) u
theorem RowsAt.set_ {K : Nat} {w : World} {g i : Nat} {ls : List (List Int)} (h : RowsAt K w g ls) (hK : K ≤ g) (hi : i < ls.length) {B : Option Addr} {r : List Int} {c n : Nat} (hrn : r.length = n) (hI : Ints w B r) (hn : NilOk B r c) (hf : r ≠ [] → ∀ ad, B = some ad → ad.block < K) :
    RowsAt K (w.setCell ⟨g, i, none⟩ (.slice B n c)) g (ls.set i r) := by
  subst hrn
  exact ⟨fun j => by rw [World.frozen?_setCell]; exact h.1 j, fun j q hq => by
    rw [List.getElem?_set] at hq
    by_cases e : i = j
    · subst e
      rw [if_pos rfl, if_pos hi] at hq
      injection hq with hq
      subst hq
      obtain ⟨B', c', h1, _⟩ := h.2 i _ (List.getElem?_eq_getElem hi)
      exact ⟨B, c, World.cell?_setCell_same w _ _ h1, hI.off (fun hr ad e2 => by have := hf hr ad e2; show ad.block ≠ g; omega) _, hn, hf⟩
    · rw [if_neg e] at hq
      obtain ⟨B', c', h1, h2, h3, h4⟩ := h.2 j q hq
      exact ⟨B', c', by rw [World.cell?_setCell_other w _ _ _ (fun e2 => e (by injection e2))]; exact h1, h2.off (fun hr ad e2 => by have := h4 hr ad e2; show ad.block ≠ g; omega) _, h3, h4⟩⟩
theorem RowsAt.far {K : Nat} {w : World} {g : Nat} {ls : List (List Int)} (h : RowsAt K w g ls) {p : Addr} (hp : p.block ≠ g) (hq : K ≤ p.block) (u : Value) : RowsAt K (w.setCell p u) g ls :=
  ⟨fun j => by rw [World.frozen?_setCell]; exact h.1 j, fun j r hr => by
    obtain ⟨B, c, h1, h2, h3, h4⟩ := h.2 j r hr
    exact ⟨B, c, by rw [World.cell?_setCell_other w _ _ _ (fun e => hp (by rw [e]))]; exact h1, h2.off (fun hne ad e => by have := h4 hne ad e; omega) _, h3, h4⟩⟩
theorem OwnLO.at_block {K base : Nat} {w : World} {v : Value} {ls : List (List Int)} (h : OwnLO K base w v ls) (hl : ls ≠ []) : ∃ g c, v = .slice (some ⟨g, 0, none⟩) ls.length c ∧ base ≤ g ∧ g < w.heap.size ∧ RowsAt K w g ls := by
  obtain ⟨A, c, rfl⟩ := OwnEs.form h
  have h0 : 0 < ls.length := List.length_pos_iff.2 hl
  obtain ⟨g, _, _, rfl, hb, hlt, _⟩ := OwnEs.at_ h (i := 0) h0
  refine ⟨g, c, rfl, hb, hlt, fun j => OwnEs.free (A := none) h j, fun j r hr => ?_⟩
  obtain ⟨g', cs, a, e, _, _, ha, _, hc, B, c', rfl, hI, hn, hf⟩ := OwnEs.at_ h (i := j) (List.getElem?_eq_some_iff.1 hr).1
  injection e with e
  injection e with e
  subst e
  have : a = r := by have := ha.out; rw [hr] at this; injection this with this; exact this.symm
  subst this
  have h1 := hc 0 _ rfl
  rw [Nat.mul_one, Nat.add_zero] at h1
  exact ⟨B, c', h1, hI, hn, fun hne ad e2 => (hf hne ad e2).1⟩
/-- Where the rows of an argument lie. -/
theorem RowsRead.old {w w' : World} {A : Option Addr} {ls : List (List Int)} (h : RowsRead w A ls) (hb : Below w.heap.size w w') (i : Nat) (r : List Int) (B : Addr) (cc : Nat) (hr : ls[i]? = some r) (hne : r ≠ []) (hc : ∃ ad, A = some ad ∧ w'.cell? (ad.add i) = some (.slice (some B) r.length cc)) : B.block < w.heap.size := by
  obtain ⟨ad, B', c', e, h1, h2, _⟩ := h i r hr
  obtain ⟨ad', e', h3⟩ := hc
  rw [e] at e'
  injection e' with e'
  subst e'
  rw [(hb.cell (World.block_lt_of_cell? w _ h1)).trans h1] at h3
  injection h3 with h3
  injection h3 with h3
  subst h3
  exact ints_lt h2 hne
theorem RowsAt.alloc_ {K : Nat} {w : World} {g : Nat} {ls : List (List Int)} (h : RowsAt K w g ls) (hg : g < w.heap.size) (o : Obj) : RowsAt K (w.alloc o) g ls := h.below hg ((Below.refl _ _).alloc (Nat.le_refl _) o)
theorem OwnI.alloc_ {base : Nat} {w : World} {v : Value} {xs : List Int} (h : OwnI base w v xs) (o : Obj) : OwnI base (w.alloc o) v xs := OwnI.below h ((Below.refl _ _).alloc (Nat.le_refl _) o)
/-! ### Two rows that are exchanged -/
section
variable {p : LpV} {i k : Nat} {r q : List Int} {x y : Int}
end

end Go.Proofs.Ytkepfmglljkjhaa

namespace Go.Proofs.Ytkepfmglljkjhaa
open Go.RowKit
set_option linter.unusedVariables false
set_option linter.unusedSimpArgs false
/-- A program with a further row. -/
def moreV (p : LpV) (r : List Int) (b : Int) : LpV := ⟨p.rows ++ [r], p.bounds ++ [b], p.obj⟩
theorem more_part {p : LpV} (h : p.bounds.length = p.rows.length) (r : List Int) (b : Int) : LA.Part (moreV p r b).lp p.lp := by
  have hm : (moreV p r b).lp.m = p.rows.length + 1 := by show (p.rows ++ [r]).length = _; rw [List.length_append]; rfl
  have hA : ∀ {k}, k < p.rows.length → ∀ j, (moreV p r b).lp.A k j = p.lp.A k j := fun {k} hk j => by
    show ((((p.rows ++ [r])[k]?).getD [])[j]?).getD 0 = _
    rw [List.getElem?_append_left hk]; rfl
  have hb : ∀ {k}, k < p.rows.length → (moreV p r b).lp.b k = p.lp.b k := fun {k} hk => by
    show (((p.bounds ++ [b])[k]?).getD 0) = _
    rw [List.getElem?_append_left (by omega)]; rfl
  refine ⟨rfl, fun _ _ => rfl, fun x d h => ⟨fun k hk => ?_, h.2⟩, fun x h => ⟨fun k hk => ?_, h.2.1, h.2.2⟩⟩
  · have hk' : k < p.rows.length := hk
    have h1 := h.1 k (by rw [hm]; omega)
    rw [hb hk', LA.sumN_congr (g := fun j => p.lp.A k j * x j) fun j _ => by rw [hA hk']] at h1
    exact h1
  · have hk' : k < p.rows.length := hk
    have h1 := h.1 k (by rw [hm]; omega)
    rw [LA.sumN_congr (g := fun j => p.lp.A k j * x j) fun j _ => by rw [hA hk']] at h1
    exact h1

end Go.Proofs.Ytkepfmglljkjhaa

namespace Go.Proofs.Ytkepfmglljkjhaa
open Go.RowKit
set_option linter.unusedVariables false
set_option linter.unusedSimpArgs false

theorem cls_grown_off {w w' : World} {row : Option Nat} {l : List (Nat × Nat × Value)} (hC : Cls w l) (hg : w.grownBy w' row) (hl : ∀ x ∈ l, some x.1 ≠ row) : Cls w' l := by
  induction l with
  | nil => trivial
  | cons x r ih =>
    obtain ⟨b, k, u⟩ := x
    obtain ⟨⟨h1, h2⟩, h3⟩ := hC
    have hlt := World.block_lt_of_cell? w ⟨b, k, none⟩ h1
    have hne : w'.heap[b]? = w.heap[b]? := hg.block b hlt (hl (b, k, u) (by simp))
    exact ⟨⟨(World.cell?_of_block (w := w) hne).trans h1, (World.frozen?_of_block (w := w) hne).trans h2⟩, ih h3 (fun x hx => hl x (by simp [hx]))⟩
theorem step_catL2 {Kb : Nat} {ops : Array Oper} {o : Oper} {a : Act} {w : World} {K : Act → World → Prop} {Q : Exit → Act → World → Prop} {E : Prop} (hgd : o.guard = none) (s x : Operand)
    (ho : o.op = .call { callee := .builtin .append, args := #[s, x], argTypes := #[22, 22] })
    (base : Nat) (v : Value) (xs : List (List Int)) (hs : a.eval s = v) (hown : OwnLO Kb base w v xs) (A : Option Addr) (c m : Nat) (ys : List (List Int)) (hx : a.eval x = .slice A m c) (hm : ys.length = m) (hnil : A = none → ys = [] ∧ c = 0) (hR : RowsRead w A ys)
    (zs : List (List Int)) (hzs : xs ++ ys = zs) (hfar : ∀ (i : Nat) (r : List Int) (B : Addr) (cc : Nat), ys[i]? = some r → r ≠ [] → (∃ ad, A = some ad ∧ w.cell? (ad.add i) = some (.slice (some B) r.length cc)) → B.block < Kb ∧ some B.block ≠ v.ownBlock)
    (hlen : (xs.length + m) * 24 ≤ 140737488355328) (hbase : base ≤ w.heap.size)
    (h : ∀ v' w', OwnLO Kb base w' v' zs → w.grownBy w' v.ownBlock → (v'.ownBlock = v.ownBlock ∨ v'.ownBlock = some w.heap.size) → K (a.put o.dst v') w') : if Region.wanted o (yielded ops a.tmps) = true then Oper.wp Try.prog o a w K Q else E := by
  obtain ⟨i0, hi0, hz⟩ := Option.map_eq_some_iff.1 info_list
  simp only [Prod.mk.injEq] at hz
  obtain ⟨cells, hr, hcs⟩ := hown
  have hcl := hr.1
  subst hm
  subst hzs
  cases A with
  | none =>
    obtain ⟨rfl, rfl⟩ := hnil rfl
    refine step_append_own_none hgd s x 22 ho base 23 i0 1 Try.underlying22 hi0 v xs.length cells hs hr hx ?_
    exact h v w (by rw [List.append_nil]; exact ⟨cells, hr, hcs⟩) (World.grownBy.refl w _) (Or.inl rfl)
  | some ad =>
    obtain ⟨news, hnl, hat, h1, hrd⟩ := hR.cells
    refine step_append_own_at hgd s x 22 ho base 23 i0 (.slice none 0 0) 1 24 Try.underlying22 hi0 hz.1 hz.2.1 hz.2.2 rfl (by decide) v xs.length cells hs hr ad ys.length c news hx (by omega) hat h1 ?_ hlen hbase ?_
    · simp only [maxLen]; omega
    · intro v' w' h2 h3 _ h4
      refine h v' w' ⟨cells ++ news, by rw [List.length_append]; exact h2, fun i r ha => ?_⟩ h3 h4
      · have key : ∀ {cs : List Value} {a : List Int}, PAo Kb w v.ownBlock cs a → PAo Kb w' v'.ownBlock cs a := fun hp => by
          rcases h4 with h4 | h4
          · rw [h4]; exact ((pao_stable Kb).grown hp h3).1
          · rw [h4]; exact ((pao_stable Kb).grown hp h3).2
        rw [Nat.mul_one] at *
        rcases Nat.lt_or_ge i xs.length with hi | hi
        · rw [List.getElem?_append_left hi] at ha
          have e1 : ((cells ++ news).drop i).take 1 = (cells.drop (i * 1)).take 1 := by
            rw [Nat.mul_one, List.drop_append_of_le_length (by omega), List.take_append_of_le_length (by rw [List.length_drop]; omega)]
          rw [e1]
          exact key (hcs i r ha)
        · rw [List.getElem?_append_right hi] at ha
          obtain ⟨B, cc, e2, hI, hn⟩ := hrd _ _ ha
          have e1 : ((cells ++ news).drop i).take 1 = [.slice B r.length cc] := by
            rw [List.drop_append, List.drop_eq_nil_of_le (by omega), List.nil_append, show i - cells.length = i - xs.length by omega]
            have hlt := (List.getElem?_eq_some_iff.1 e2).1
            rw [List.drop_eq_getElem_cons hlt]
            obtain ⟨_, e3⟩ := List.getElem?_eq_some_iff.1 e2
            rw [e3]; rfl
          rw [e1]
          exact key ⟨B, cc, rfl, hI, hn, fun hne ad' hB' => by
            subst hB'
            exact hfar _ _ ad' cc ha hne ⟨ad, rfl, hat _ _ e2⟩⟩
theorem step_catI2 {ops : Array Oper} {o : Oper} {a : Act} {w : World} {K : Act → World → Prop} {Q : Exit → Act → World → Prop} {E : Prop} (hgd : o.guard = none) (s x : Operand)
    (ho : o.op = .call { callee := .builtin .append, args := #[s, x], argTypes := #[23, 23] })
    (base : Nat) (v : Value) (xs : List Int) (hs : a.eval s = v) (hown : OwnI base w v xs) (A : Option Addr) (c m : Nat) (ys : List Int) (hx : a.eval x = .slice A m c) (hm : ys.length = m) (hnil : A = none → c = 0) (hI : Ints w A ys)
    (zs : List Int) (hzs : xs ++ ys = zs) (hlen : (xs.length + m) * 8 ≤ 140737488355328) (hbase : base ≤ w.heap.size)
    (h : ∀ v' w', OwnI base w' v' zs → w.grownBy w' v.ownBlock → (v'.ownBlock = v.ownBlock ∨ v'.ownBlock = some w.heap.size) → K (a.put o.dst v') w') : if Region.wanted o (yielded ops a.tmps) = true then Oper.wp Try.prog o a w K Q else E := by
  obtain ⟨i0, hi0, hz⟩ := Option.map_eq_some_iff.1 info_int
  simp only [Prod.mk.injEq] at hz
  subst hm
  subst hzs
  have hown' : w.ownsRow base 3 1 v xs.length (xs.map (Value.int .i64)) := hown
  cases A with
  | none =>
    have hys : ys = [] := by
      cases ys with
      | nil => rfl
      | cons y ys => obtain ⟨ad, e, _⟩ := hI 0 (.int .i64 y) (by simp); cases e
    subst hys
    obtain rfl := hnil rfl
    refine step_append_own_none hgd s x 23 ho base 3 i0 1 Try.underlying23 hi0 v xs.length (xs.map (Value.int .i64)) hs hown' hx ?_
    exact h v w (by rw [List.append_nil]; exact hown) (World.grownBy.refl w _) (Or.inl rfl)
  | some ad =>
    refine step_append_own_at hgd s x 23 ho base 3 i0 (.int .i64 0) 1 8 Try.underlying23 hi0 hz.1 hz.2.1 hz.2.2 rfl (by decide) v xs.length (xs.map (Value.int .i64)) hs hown' ad ys.length c (ys.map (Value.int .i64)) hx (by simp) ?_ ?_ ?_ ?_ hbase ?_
    · intro j u hu
      obtain ⟨ad', e, hc⟩ := hI j u hu
      rw [Option.some.inj e]
      exact hc
    · intro u hu
      obtain ⟨y, _, rfl⟩ := List.mem_map.1 hu
      rfl
    · simp only [maxLen]; omega
    · omega
    · intro v' w' h1 h2 _ h4
      refine h v' w' ?_ h2 h4
      unfold OwnI
      rw [List.length_append, List.map_append]
      exact h1
theorem one_read {w : World} {b : Nat} {R0 : Option Addr} {lr cz : Nat} {r : List Int} (hl : r.length = lr) (hc : w.cell? ⟨b, 0, none⟩ = some (.slice R0 lr cz)) (hI : Ints w R0 r) (hn : NilOk R0 r cz) : RowsRead w (some ⟨b, 0, none⟩) [r] := fun i q hq => by
  cases i with
  | zero =>
    obtain rfl : r = q := by simpa using hq
    exact ⟨⟨b, 0, none⟩, R0, cz, rfl, by rw [hl]; exact hc, hI, hn⟩
  | succ i => simp at hq
theorem one_far {w w' : World} {b : Nat} {R0 : Option Addr} {lr cz : Nat} {r : List Int} (hc : w'.cell? ⟨b, 0, none⟩ = some (.slice R0 lr cz)) (hI : Ints w R0 r) (i : Nat) (q : List Int) (B : Addr) (cc : Nat) (hq : [r][i]? = some q) (hne : q ≠ []) (h : ∃ ad : Addr, some (⟨b, 0, none⟩ : Addr) = some ad ∧ w'.cell? (ad.add i) = some (.slice (some B) q.length cc)) : B.block < w.heap.size := by
  cases i with
  | zero =>
    obtain rfl : r = q := by simpa using hq
    obtain ⟨ad, e, h⟩ := h
    injection e with e
    subst e
    have h' : w'.cell? ⟨b, 0, none⟩ = some (.slice (some B) r.length cc) := h
    rw [hc] at h'
    injection h' with h'
    injection h' with h1 h2 h3
    cases r with
    | nil => exact absurd rfl hne
    | cons x r =>
      obtain ⟨ad, e, hc⟩ := hI 0 (.int .i64 x) (by simp)
      rw [h1] at e
      injection e with e
      subst e
      exact World.block_lt_of_cell? w _ hc
  | succ i => simp at hq
theorem one_int {w : World} {b : Nat} {y : Int} (hc : w.cell? ⟨b, 0, none⟩ = some (.int .i64 y)) : Ints w (some ⟨b, 0, none⟩) [y] := fun i v hv => by
  cases i with
  | zero =>
    obtain rfl : Value.int .i64 y = v := by simpa using hv
    exact ⟨⟨b, 0, none⟩, rfl, hc⟩
  | succ i => simp at hv

end Go.Proofs.Ytkepfmglljkjhaa

namespace Go.Proofs.Ytkepfmglljkjhaa
open Go.RowKit
set_option linter.unusedVariables false
set_option linter.unusedSimpArgs false

theorem OwnLO.kept {K base : Nat} {w w' : World} {v : Value} {rows : List (List Int)} {row : Option Nat} (h : OwnLO K base w v rows) (hg : w.grownBy w' row) (hK : ∀ k, row = some k → K ≤ k) (hne : ∀ k, v.ownBlock = some k → row ≠ some k) : OwnLO K base w' v rows := by
  obtain ⟨cells, hr, hcs⟩ := h
  refine ⟨cells, hr.kept hg ?_, fun i r ha => ?_⟩
  · cases hv : v.ownBlock with
    | none => exact .inl rfl
    | some k => exact .inr (fun e => hne k hv e.symm)
  · obtain ⟨A, c, e, hI, hn, hf⟩ := hcs i r ha
    refine ⟨A, c, e, hI.grown2 hg (fun hr ad hA e => ?_), hn, hf⟩
    have h1 := (hf hr ad hA).1
    have h2 := hK _ e.symm
    omega
theorem OwnI.kept {base : Nat} {w w' : World} {v : Value} {xs : List Int} {row : Option Nat} (h : OwnI base w v xs) (hg : w.grownBy w' row) (hne : ∀ k, v.ownBlock = some k → row ≠ some k) : OwnI base w' v xs :=
  World.ownsRow.kept h hg (by
    cases hv : v.ownBlock with
    | none => exact .inl rfl
    | some k => exact .inr (fun e => hne k hv e.symm))
theorem RowsAt.kept {K g : Nat} {w w' : World} {ls : List (List Int)} {row : Option Nat} (h : RowsAt K w g ls) (hg : w.grownBy w' row) (hlt : g < w.heap.size) (hK : ∀ k, row = some k → K ≤ k) (hne : row ≠ some g) : RowsAt K w' g ls := by
  have hb : w'.heap[g]? = w.heap[g]? := hg.block g hlt (fun e => hne e.symm)
  refine ⟨fun j => (World.frozen?_of_block (a := ⟨g, j, none⟩) hb).trans (h.1 j), fun j r hr => ?_⟩
  obtain ⟨B, c, h1, h2, h3, h4⟩ := h.2 j r hr
  refine ⟨B, c, (World.cell?_of_block (a := ⟨g, j, none⟩) hb).trans h1, h2.grown2 hg (fun hr ad hA e => ?_), h3, h4⟩
  have h5 := h4 hr ad hA
  have h6 := hK _ e.symm
  omega
theorem OwnLO.blk {K base : Nat} {w : World} {v : Value} {rows : List (List Int)} (h : OwnLO K base w v rows) : ∀ k, v.ownBlock = some k → base ≤ k ∧ k < w.heap.size := OwnEs.lt h
theorem OwnI.blk2 {base : Nat} {w : World} {v : Value} {xs : List Int} (h : OwnI base w v xs) : ∀ k, v.ownBlock = some k → base ≤ k ∧ k < w.heap.size := fun k hk => World.ownsRow.lt h k hk
theorem grown_set (w : World) (p : Addr) (u : Value) : w.grownBy (w.setCell p u) (some p.block) :=
  ⟨rfl, rfl, rfl, by simp, fun k hk hne => Below.heap_setCell w p u k (fun e => hne (by rw [e]))⟩

section
variable (w : World) (s1 : Nat) (p : LpV) (r : List Int) (y : Int) (R0 : Option Addr) (lr cz m mb : Nat) (ob : Value) (box : List (Nat × Nat × Value))
/-- What holds of each part that is made. -/
structure LmrC (c : Nat → Nat) (L : Nat → Bool) (W : World) (t16 t18 t19 t22 t24 t25 t28 t7 : Value) : Prop where
  f2 : L 2 = true → L 5 = false → OwnLO w.heap.size s1 W t16 p.rows ∧ ∀ k, t16.ownBlock = some k → c k = 2
  f4 : L 4 = true → L 5 = false → ∃ b, t18 = .slice (some ⟨b, 0, none⟩) 1 1 ∧ W.cell? ⟨b, 0, none⟩ = some (.slice R0 lr cz) ∧ c b = 4
  f5 : L 5 = true → ∃ g cg, t19 = .slice (some ⟨g, 0, none⟩) (m + 1) cg ∧ g < W.heap.size ∧ RowsAt w.heap.size W g (p.rows ++ [r]) ∧ c g = 5
  f8 : L 8 = true → L 11 = false → OwnI s1 W t22 p.bounds ∧ ∀ k, t22.ownBlock = some k → c k = 8
  f10 : L 10 = true → L 11 = false → ∃ b, t24 = .slice (some ⟨b, 0, none⟩) 1 1 ∧ W.cell? ⟨b, 0, none⟩ = some (.int .i64 y) ∧ c b = 10
  f11 : L 11 = true → ∃ A' ca, t25 = .slice A' (mb + 1) ca ∧ OwnI s1 W t25 (p.bounds ++ [y]) ∧ ∀ k, t25.ownBlock = some k → c k = 11
  f14 : L 14 = true → t28 = .agg #[t19, t25, ob] ∧ L 5 = true ∧ L 11 = true
  f16 : L 16 = true → L 14 = true ∧ L 15 = true
  f15 : L 15 = true → ∃ g, t7 = .pointer (some ⟨g, 0, none⟩) ∧ s1 ≤ g ∧ c g = 15 ∧ Cls W (if L 16 = true then [(g, 0, t19), (g, 1, t25), (g, 2, ob)] else [(g, 0, .slice none 0 0), (g, 1, .slice none 0 0), (g, 2, .slice none 0 0)])
def LmrI (L : Nat → Bool) (vs : List Value) (W : World) : Prop :=
  ∃ t16 t18 t19 t22 t24 t25 t28 t7, vs = [t16, t18, t19, t22, t24, t25, t28, t7] ∧ Below w.heap.size w W ∧ w.heap.size < s1 ∧ s1 ≤ W.heap.size ∧ Cls W box ∧ (∀ x ∈ box, x.1 < s1) ∧ ∃ c, LmrC w s1 p r y R0 lr cz m mb ob c L W t16 t18 t19 t22 t24 t25 t28 t7
end
section
variable {w : World} {s1 : Nat} {p : LpV} {r : List Int} {y : Int} {R0 : Option Addr} {lr cz m mb : Nat} {ob : Value} {box : List (Nat × Nat × Value)} {c : Nat → Nat} {L L' : Nat → Bool} {W W' : World} {t16 t18 t19 t22 t24 t25 t28 t7 : Value}
/-- All parts whose colour is not that of the row that grows are kept; the frame may change where a part is not spoken of. -/
theorem LmrC.kept {c' : Nat → Nat} {i : Nat} {row : Option Nat} (h : LmrC w s1 p r y R0 lr cz m mb ob c L W t16 t18 t19 t22 t24 t25 t28 t7) (hg : W.grownBy W' row) (hs : w.heap.size < s1) (hK : ∀ k, row = some k → s1 ≤ k ∧ c k = i)
    (hc : ∀ k, k < W.heap.size → row ≠ some k → c' k = c k) :
    (i ≠ 2 → L 2 = true → L 5 = false → OwnLO w.heap.size s1 W' t16 p.rows ∧ ∀ k, t16.ownBlock = some k → c' k = 2) ∧
    (i ≠ 4 → L 4 = true → L 5 = false → ∃ b, t18 = .slice (some ⟨b, 0, none⟩) 1 1 ∧ W'.cell? ⟨b, 0, none⟩ = some (.slice R0 lr cz) ∧ c' b = 4) ∧
    (i ≠ 5 → L 5 = true → ∃ g cg, t19 = .slice (some ⟨g, 0, none⟩) (m + 1) cg ∧ g < W'.heap.size ∧ RowsAt w.heap.size W' g (p.rows ++ [r]) ∧ c' g = 5) ∧
    (i ≠ 8 → L 8 = true → L 11 = false → OwnI s1 W' t22 p.bounds ∧ ∀ k, t22.ownBlock = some k → c' k = 8) ∧
    (i ≠ 10 → L 10 = true → L 11 = false → ∃ b, t24 = .slice (some ⟨b, 0, none⟩) 1 1 ∧ W'.cell? ⟨b, 0, none⟩ = some (.int .i64 y) ∧ c' b = 10) ∧
    (i ≠ 11 → L 11 = true → ∃ A' ca, t25 = .slice A' (mb + 1) ca ∧ OwnI s1 W' t25 (p.bounds ++ [y]) ∧ ∀ k, t25.ownBlock = some k → c' k = 11) ∧
    (i ≠ 15 → L 15 = true → ∃ g, t7 = .pointer (some ⟨g, 0, none⟩) ∧ s1 ≤ g ∧ c' g = 15 ∧ Cls W' (if L 16 = true then [(g, 0, t19), (g, 1, t25), (g, 2, ob)] else [(g, 0, .slice none 0 0), (g, 1, .slice none 0 0), (g, 2, .slice none 0 0)])) := by
  have hw : ∀ k, row = some k → w.heap.size ≤ k := fun k hk => by have := (hK k hk).1; omega
  have ne : ∀ {k j}, c k = j → i ≠ j → row ≠ some k := fun {k j} hk hi e => hi (by rw [← (hK k e).2, hk])
  have cell : ∀ {k : Nat} {v : Value}, W.cell? ⟨k, 0, none⟩ = some v → row ≠ some k → W'.cell? ⟨k, 0, none⟩ = some v := fun {k v} h1 h2 => by
    have hlt := World.block_lt_of_cell? W ⟨k, 0, none⟩ h1
    exact (World.cell?_of_block (a := ⟨k, 0, none⟩) (hg.block k hlt (fun e => h2 e.symm))).trans h1
  refine ⟨fun hi a b => ?_, fun hi a b => ?_, fun hi a => ?_, fun hi a b => ?_, fun hi a b => ?_, fun hi a => ?_, fun hi a => ?_⟩
  · obtain ⟨h1, h2⟩ := h.f2 a b
    exact ⟨h1.kept hg hw (fun k hk => ne (h2 k hk) hi), fun k hk => by rw [hc k (h1.blk k hk).2 (ne (h2 k hk) hi)]; exact h2 k hk⟩
  · obtain ⟨b, e, h1, h2⟩ := h.f4 a b
    exact ⟨b, e, cell h1 (ne h2 hi), by rw [hc b (World.block_lt_of_cell? W _ h1) (ne h2 hi)]; exact h2⟩
  · obtain ⟨g, cg, e, hlt, h1, h2⟩ := h.f5 a
    exact ⟨g, cg, e, Nat.lt_of_lt_of_le hlt hg.size, h1.kept hg hlt hw (ne h2 hi), by rw [hc g hlt (ne h2 hi)]; exact h2⟩
  · obtain ⟨h1, h2⟩ := h.f8 a b
    exact ⟨h1.kept hg (fun k hk => ne (h2 k hk) hi), fun k hk => by rw [hc k (h1.blk2 k hk).2 (ne (h2 k hk) hi)]; exact h2 k hk⟩
  · obtain ⟨b, e, h1, h2⟩ := h.f10 a b
    exact ⟨b, e, cell h1 (ne h2 hi), by rw [hc b (World.block_lt_of_cell? W _ h1) (ne h2 hi)]; exact h2⟩
  · obtain ⟨A', ca, e, h1, h2⟩ := h.f11 a
    exact ⟨A', ca, e, h1.kept hg (fun k hk => ne (h2 k hk) hi), fun k hk => by rw [hc k (h1.blk2 k hk).2 (ne (h2 k hk) hi)]; exact h2 k hk⟩
  · obtain ⟨g, e, hsg, h2, hC⟩ := h.f15 a
    have hlt : g < W.heap.size := by
      split at hC
      · exact hC.blk (b := g) (k := 0) (v := t19) (by simp)
      · exact hC.blk (b := g) (k := 0) (v := .slice none 0 0) (by simp)
    refine ⟨g, e, hsg, by rw [hc g hlt (ne h2 hi)]; exact h2, cls_grown_off hC hg (fun x hx e => ?_)⟩
    have hx1 : x.1 = g := by
      split at hx <;> (simp only [List.mem_cons, List.not_mem_nil, or_false] at hx; rcases hx with rfl | rfl | rfl <;> rfl)
    rw [hx1] at e
    exact ne h2 hi e.symm
theorem upL_ne {i k : Nat} (h : k ≠ i) : upL L i k = L k := if_neg h
theorem upL_same {i : Nat} : upL L i i = true := if_pos rfl
theorem LmrI.start (h0 : ∀ k, k = 2 ∨ k = 4 ∨ k = 5 ∨ k = 8 ∨ k = 10 ∨ k = 11 ∨ k = 14 ∨ k = 15 ∨ k = 16 → L k = false) (hB : Below w.heap.size w W) (hs : w.heap.size < s1) (hs1 : s1 ≤ W.heap.size) (hC : Cls W box) (hb : ∀ x ∈ box, x.1 < s1) :
    LmrI w s1 p r y R0 lr cz m mb ob box L [t16, t18, t19, t22, t24, t25, t28, t7] W := by
  refine ⟨_, _, _, _, _, _, _, _, rfl, hB, hs, hs1, hC, hb, fun _ => 0, ?_⟩
  constructor <;> (intro a; rw [h0 _ (by simp)] at a; cases a)
section
variable (h : LmrI w s1 p r y R0 lr cz m mb ob box L [t16, t18, t19, t22, t24, t25, t28, t7] W)
include h
theorem LmrI.base : Below w.heap.size w W ∧ w.heap.size < s1 ∧ s1 ≤ W.heap.size ∧ Cls W box ∧ ∃ c, LmrC w s1 p r y R0 lr cz m mb ob c L W t16 t18 t19 t22 t24 t25 t28 t7 := by
  obtain ⟨_, _, _, _, _, _, _, _, e, h1, h2, h3, h4, h5, h6⟩ := h
  injection e with e1 e; injection e with e2 e; injection e with e3 e; injection e with e4 e; injection e with e5 e; injection e with e6 e; injection e with e7 e; injection e with e8 e
  subst e1 e2 e3 e4 e5 e6 e7 e8
  exact ⟨h1, h2, h3, h4, h6⟩
theorem LmrI.go {i : Nat} {c : Nat → Nat} {row : Option Nat} {u16 u18 u19 u22 u24 u25 u28 u7 : Value} (hg : W.grownBy W' row) (hr : ∀ k, row = some k → s1 ≤ k) (hn : LmrC w s1 p r y R0 lr cz m mb ob c L' W' u16 u18 u19 u22 u24 u25 u28 u7) :
    LmrI w s1 p r y R0 lr cz m mb ob box L' [u16, u18, u19, u22, u24, u25, u28, u7] W' := by
  obtain ⟨_, _, _, _, _, _, _, _, e, h1, h2, h3, h4, h5, _⟩ := h
  refine ⟨_, _, _, _, _, _, _, _, rfl, Below.grown h1 hg (by omega) (fun k hk => by have := hr k hk; omega), h2, Nat.le_trans h3 hg.size, cls_grown_off h4 hg (fun x hx e => ?_), h5, c, hn⟩
  have a := h5 x hx
  have b := hr _ e.symm
  omega
/-- A row of rows is made. -/
theorem LmrI.op2 {v : Value} (ho : OwnLO w.heap.size s1 W' v p.rows) (hg : W.grownBy W' none) (hq : ∀ k, v.ownBlock = some k → k = W.heap.size) : LmrI w s1 p r y R0 lr cz m mb ob box (upL L 2) [v, t18, t19, t22, t24, t25, t28, t7] W' := by
  obtain ⟨_, hs, _, _, c, hc⟩ := h.base
  obtain ⟨k2, k4, k5, k8, k10, k11, k15⟩ := hc.kept (c' := fun k => if k < W.heap.size then c k else 2) (i := 0) hg hs (fun k e => by cases e) (fun k hk _ => if_pos hk)
  refine h.go (i := 0) hg (fun k e => by cases e) (c := fun k => if k < W.heap.size then c k else 2) ?_
  refine ⟨fun a b => ⟨ho, fun k hk => by rw [hq k hk, if_neg (by omega)]⟩, fun a b => k4 (by decide) a b, fun a => k5 (by decide) a, fun a b => k8 (by decide) a b, fun a b => k10 (by decide) a b, fun a => k11 (by decide) a, fun a => hc.f14 a, fun a => hc.f16 a, fun a => k15 (by decide) a⟩
theorem LmrI.op4 (T : TypeId) (hb : W' = W.alloc (.cells #[.slice R0 lr cz] T)) : LmrI w s1 p r y R0 lr cz m mb ob box (upL L 4) [t16, .slice (some ⟨W.heap.size, 0, none⟩) 1 1, t19, t22, t24, t25, t28, t7] W' := by
  obtain ⟨_, hs, _, _, c, hc⟩ := h.base
  have hg : W.grownBy W' none := by rw [hb]; exact World.grownBy_alloc W _ none
  obtain ⟨k2, k4, k5, k8, k10, k11, k15⟩ := hc.kept (c' := fun k => if k < W.heap.size then c k else 4) (i := 0) hg hs (fun k e => by cases e) (fun k hk _ => if_pos hk)
  refine h.go (i := 0) hg (fun k e => by cases e) (c := fun k => if k < W.heap.size then c k else 4) ?_
  refine ⟨fun a b => k2 (by decide) a b, fun a b => ⟨W.heap.size, rfl, by rw [hb]; simp [go_sem], if_neg (by omega)⟩, fun a => k5 (by decide) a, fun a b => k8 (by decide) a b, fun a b => k10 (by decide) a b, fun a => k11 (by decide) a, fun a => hc.f14 a, fun a => hc.f16 a, fun a => k15 (by decide) a⟩
theorem LmrI.op5 {v : Value} (h2 : L 2 = true) (h5 : L 5 = false) (hm : p.rows.length = m) (ho : OwnLO w.heap.size s1 W' v (p.rows ++ [r])) (hg : W.grownBy W' t16.ownBlock) (hq : v.ownBlock = t16.ownBlock ∨ v.ownBlock = some W.heap.size) : LmrI w s1 p r y R0 lr cz m mb ob box (upL L 5) [t16, t18, v, t22, t24, t25, t28, t7] W' := by
  obtain ⟨_, hs, hs1, _, c, hc⟩ := h.base
  obtain ⟨ho2, hc2⟩ := hc.f2 h2 h5
  have h14 : L 14 = false := by cases e : L 14 with
    | false => rfl
    | true => have := (hc.f14 e).2.1; rw [h5] at this; cases this
  have h16 : L 16 = false := by cases e : L 16 with
    | false => rfl
    | true => have := (hc.f16 e).1; rw [h14] at this; cases this
  obtain ⟨k2, k4, k5, k8, k10, k11, k15⟩ := hc.kept (c' := fun k => if k < W.heap.size ∧ t16.ownBlock ≠ some k then c k else 5) (i := 2) hg hs (fun k e => ⟨(ho2.blk k e).1, hc2 k e⟩) (fun k hk hne => if_pos ⟨hk, hne⟩)
  refine h.go (i := 0) hg (fun k e => (ho2.blk k e).1) (c := fun k => if k < W.heap.size ∧ t16.ownBlock ≠ some k then c k else 5) ?_
  refine ⟨fun a b => (by cases b), fun a b => (by cases b), fun a => ?_, fun a b => k8 (by decide) a b, fun a b => k10 (by decide) a b, fun a => k11 (by decide) a, fun a => (by rw [upL_ne (by decide), h14] at a; cases a), fun a => (by rw [upL_ne (by decide), h16] at a; cases a), fun a => ?_⟩
  · obtain ⟨g, cg, e, hb, hlt, hR⟩ := ho.at_block (by simp)
    rw [List.length_append, hm] at e
    refine ⟨g, cg, e, hlt, hR, if_neg (fun k => ?_)⟩
    have e2 : v.ownBlock = some g := by rw [e]; rfl
    rw [e2] at hq
    rcases hq with hq | hq
    · exact k.2 hq.symm
    · injection hq with hq; omega
  · obtain ⟨g, e, b, d, hC⟩ := k15 (by decide) a
    rw [h16] at hC
    exact ⟨g, e, b, d, by rw [upL_ne (by decide), h16]; exact hC⟩
theorem LmrI.op8 {v : Value} (ho : OwnI s1 W' v p.bounds) (hg : W.grownBy W' none) (hq : ∀ k, v.ownBlock = some k → k = W.heap.size) : LmrI w s1 p r y R0 lr cz m mb ob box (upL L 8) [t16, t18, t19, v, t24, t25, t28, t7] W' := by
  obtain ⟨_, hs, _, _, c, hc⟩ := h.base
  obtain ⟨k2, k4, k5, k8, k10, k11, k15⟩ := hc.kept (c' := fun k => if k < W.heap.size then c k else 8) (i := 0) hg hs (fun k e => by cases e) (fun k hk _ => if_pos hk)
  refine h.go (i := 0) hg (fun k e => by cases e) (c := fun k => if k < W.heap.size then c k else 8) ?_
  refine ⟨fun a b => k2 (by decide) a b, fun a b => k4 (by decide) a b, fun a => k5 (by decide) a, fun a b => ⟨ho, fun k hk => by rw [hq k hk, if_neg (by omega)]⟩, fun a b => k10 (by decide) a b, fun a => k11 (by decide) a, fun a => hc.f14 a, fun a => hc.f16 a, fun a => k15 (by decide) a⟩
theorem LmrI.op10 (T : TypeId) (hb : W' = W.alloc (.cells #[.int .i64 y] T)) : LmrI w s1 p r y R0 lr cz m mb ob box (upL L 10) [t16, t18, t19, t22, .slice (some ⟨W.heap.size, 0, none⟩) 1 1, t25, t28, t7] W' := by
  obtain ⟨_, hs, _, _, c, hc⟩ := h.base
  have hg : W.grownBy W' none := by rw [hb]; exact World.grownBy_alloc W _ none
  obtain ⟨k2, k4, k5, k8, k10, k11, k15⟩ := hc.kept (c' := fun k => if k < W.heap.size then c k else 10) (i := 0) hg hs (fun k e => by cases e) (fun k hk _ => if_pos hk)
  refine h.go (i := 0) hg (fun k e => by cases e) (c := fun k => if k < W.heap.size then c k else 10) ?_
  refine ⟨fun a b => k2 (by decide) a b, fun a b => k4 (by decide) a b, fun a => k5 (by decide) a, fun a b => k8 (by decide) a b, fun a b => ⟨W.heap.size, rfl, by rw [hb]; simp [go_sem], if_neg (by omega)⟩, fun a => k11 (by decide) a, fun a => hc.f14 a, fun a => hc.f16 a, fun a => k15 (by decide) a⟩
theorem LmrI.op11 {v : Value} (h8 : L 8 = true) (h11 : L 11 = false) (h14 : L 14 = false) (hm : p.bounds.length = mb) (ho : OwnI s1 W' v (p.bounds ++ [y])) (hg : W.grownBy W' t22.ownBlock) (hq : v.ownBlock = t22.ownBlock ∨ v.ownBlock = some W.heap.size) : LmrI w s1 p r y R0 lr cz m mb ob box (upL L 11) [t16, t18, t19, t22, t24, v, t28, t7] W' := by
  obtain ⟨_, hs, hs1, _, c, hc⟩ := h.base
  obtain ⟨ho2, hc2⟩ := hc.f8 h8 h11
  have h14 : L 14 = false := by cases e : L 14 with
    | false => rfl
    | true => have := (hc.f14 e).2.2; rw [h11] at this; cases this
  have h16 : L 16 = false := by cases e : L 16 with
    | false => rfl
    | true => have := (hc.f16 e).1; rw [h14] at this; cases this
  obtain ⟨k2, k4, k5, k8, k10, k11, k15⟩ := hc.kept (c' := fun k => if k < W.heap.size ∧ t22.ownBlock ≠ some k then c k else 11) (i := 8) hg hs (fun k e => ⟨(ho2.blk2 k e).1, hc2 k e⟩) (fun k hk hne => if_pos ⟨hk, hne⟩)
  refine h.go (i := 0) hg (fun k e => (ho2.blk2 k e).1) (c := fun k => if k < W.heap.size ∧ t22.ownBlock ≠ some k then c k else 11) ?_
  refine ⟨fun a b => k2 (by decide) a b, fun a b => k4 (by decide) a b, fun a => k5 (by decide) a, fun a b => (by cases b), fun a b => (by cases b), fun a => ?_, fun a => (by rw [upL_ne (by decide), h14] at a; cases a), fun a => (by rw [upL_ne (by decide), h16] at a; cases a), fun a => ?_⟩
  · obtain ⟨A', ca, e, _⟩ := ho.form
    rw [List.length_append, hm] at e
    refine ⟨A', ca, e, ho, fun k hk => if_neg (fun d => ?_)⟩
    rw [hk] at hq
    rcases hq with hq | hq
    · exact d.2 hq.symm
    · injection hq with hq; omega
  · obtain ⟨g, e, b, d, hC⟩ := k15 (by decide) a
    rw [h16] at hC
    exact ⟨g, e, b, d, by rw [upL_ne (by decide), h16]; exact hC⟩
theorem LmrI.op14 (h5 : L 5 = true) (h11 : L 11 = true) (h14 : L 14 = false) : LmrI w s1 p r y R0 lr cz m mb ob box (upL L 14) [t16, t18, t19, t22, t24, t25, .agg #[t19, t25, ob], t7] W := by
  obtain ⟨_, hs, hs1, _, c, hc⟩ := h.base
  have h16 : L 16 = false := by cases e : L 16 with
    | false => rfl
    | true => have := (hc.f16 e).1; rw [h14] at this; cases this
  refine h.go (i := 0) (World.grownBy.refl W none) (fun k e => by cases e) (c := c) ?_
  exact ⟨fun a b => hc.f2 a b, fun a b => hc.f4 a b, fun a => hc.f5 a, fun a b => hc.f8 a b, fun a b => hc.f10 a b, fun a => hc.f11 a, fun a => ⟨rfl, h5, h11⟩, fun a => (by rw [upL_ne (by decide), h16] at a; cases a), fun a => hc.f15 a⟩
theorem LmrI.op15 (h15 : L 15 = false) (T : TypeId) (hb : W' = W.alloc (.cells #[.slice none 0 0, .slice none 0 0, .slice none 0 0] T)) : LmrI w s1 p r y R0 lr cz m mb ob box (upL L 15) [t16, t18, t19, t22, t24, t25, t28, .pointer (some ⟨W.heap.size, 0, none⟩)] W' := by
  obtain ⟨_, hs, hs1, _, c, hc⟩ := h.base
  have h16 : L 16 = false := by cases e : L 16 with
    | false => rfl
    | true => have := (hc.f16 e).2; rw [h15] at this; cases this
  have hg : W.grownBy W' none := by rw [hb]; exact World.grownBy_alloc W _ none
  obtain ⟨k2, k4, k5, k8, k10, k11, k15⟩ := hc.kept (c' := fun k => if k < W.heap.size then c k else 15) (i := 0) hg hs (fun k e => by cases e) (fun k hk _ => if_pos hk)
  refine h.go (i := 0) hg (fun k e => by cases e) (c := fun k => if k < W.heap.size then c k else 15) ?_
  refine ⟨fun a b => k2 (by decide) a b, fun a b => k4 (by decide) a b, fun a => k5 (by decide) a, fun a b => k8 (by decide) a b, fun a b => k10 (by decide) a b, fun a => k11 (by decide) a, fun a => hc.f14 a, fun a => (by rw [upL_ne (by decide), h16] at a; cases a), fun a => ⟨W.heap.size, rfl, hs1, if_neg (by omega), ?_⟩⟩
  rw [upL_ne (by decide), h16, hb]
  simp [Cls, go_sem]
theorem LmrI.op16 (h14 : L 14 = true) (h15 : L 15 = true) (h16 : L 16 = false) {AO : Option Addr} {n co : Nat} (hob : ob = .slice AO n co) :
    ∃ gq g cg A' ca, t7 = .pointer (some ⟨gq, 0, none⟩) ∧ t19 = .slice (some ⟨g, 0, none⟩) (m + 1) cg ∧ t25 = .slice A' (mb + 1) ca ∧ t28 = .agg #[.slice (some ⟨g, 0, none⟩) (m + 1) cg, .slice A' (mb + 1) ca, .slice AO n co] ∧ Cls W [(gq, 0, .slice none 0 0), (gq, 1, .slice none 0 0), (gq, 2, .slice none 0 0)] ∧
      LmrI w s1 p r y R0 lr cz m mb ob box (upL L 16) [t16, t18, t19, t22, t24, t25, t28, t7] (((W.setCell ⟨gq, 0, none⟩ t19).setCell ⟨gq, 1, none⟩ t25).setCell ⟨gq, 2, none⟩ ob) := by
  obtain ⟨_, hs, hs1, _, c, hc⟩ := h.base
  obtain ⟨g, e7, hsg, hcg, hC⟩ := hc.f15 h15
  obtain ⟨e28, h5, h11⟩ := hc.f14 h14
  obtain ⟨g5, c5, e19, _⟩ := hc.f5 h5
  obtain ⟨A', ca, e25, _⟩ := hc.f11 h11
  rw [h16] at hC
  simp only [Bool.false_eq_true, if_false] at hC
  refine ⟨g, g5, c5, A', ca, e7, e19, e25, by rw [e28, e19, e25, hob], hC, ?_⟩
  have hlt : g < W.heap.size := hC.blk (b := g) (k := 0) (v := .slice none 0 0) (by simp)
  have hg : W.grownBy (((W.setCell ⟨g, 0, none⟩ t19).setCell ⟨g, 1, none⟩ t25).setCell ⟨g, 2, none⟩ ob) (some g) :=
    ((grown_set W ⟨g, 0, none⟩ t19).trans (grown_set _ ⟨g, 1, none⟩ t25)).trans (grown_set _ ⟨g, 2, none⟩ ob)
  obtain ⟨k2, k4, k5, k8, k10, k11, k15⟩ := hc.kept (c' := c) (i := 15) hg hs (fun k e => by injection e with e; subst e; exact ⟨hsg, hcg⟩) (fun k hk _ => rfl)
  refine h.go (i := 0) hg (fun k e => by injection e with e; omega) (c := c) ?_
  refine ⟨fun a b => k2 (by decide) a b, fun a b => k4 (by decide) a b, fun a => k5 (by decide) a, fun a b => k8 (by decide) a b, fun a b => k10 (by decide) a b, fun a => k11 (by decide) a, fun a => hc.f14 a, fun a => ⟨h14, h15⟩, fun a => ⟨g, e7, hsg, hcg, ?_⟩⟩
  rw [upL_same, if_pos rfl]
  simp only [Cls, and_true] at hC ⊢
  obtain ⟨⟨a1, a2⟩, ⟨b1, b2⟩, ⟨d1, d2⟩⟩ := hC
  simp [go_sem, a1, a2, b1, b2, d1, d2]
theorem LmrI.at5 (h2 : L 2 = true) (h4 : L 4 = true) (h5 : L 5 = false) : OwnLO w.heap.size s1 W t16 p.rows ∧ ∃ b, t18 = .slice (some ⟨b, 0, none⟩) 1 1 ∧ W.cell? ⟨b, 0, none⟩ = some (.slice R0 lr cz) ∧ t16.ownBlock ≠ some b := by
  obtain ⟨_, hs, hs1, _, c, hc⟩ := h.base
  obtain ⟨o2, c2⟩ := hc.f2 h2 h5
  obtain ⟨b, e, h6, h7⟩ := hc.f4 h4 h5
  exact ⟨o2, b, e, h6, fun e => by have := c2 b e; omega⟩
theorem LmrI.at11 (h2 : L 8 = true) (h4 : L 10 = true) (h5 : L 11 = false) : OwnI s1 W t22 p.bounds ∧ ∃ b, t24 = .slice (some ⟨b, 0, none⟩) 1 1 ∧ W.cell? ⟨b, 0, none⟩ = some (.int .i64 y) := by
  obtain ⟨_, hs, hs1, _, c, hc⟩ := h.base
  obtain ⟨o2, c2⟩ := hc.f8 h2 h5
  obtain ⟨b, e, h6, h7⟩ := hc.f10 h4 h5
  exact ⟨o2, b, e, h6⟩
theorem LmrI.at14 (h5 : L 5 = true) (h11 : L 11 = true) : ∃ g cg A' ca, t19 = .slice (some ⟨g, 0, none⟩) (m + 1) cg ∧ t25 = .slice A' (mb + 1) ca := by
  obtain ⟨_, hs, hs1, _, c, hc⟩ := h.base
  obtain ⟨g, cg, e19, _⟩ := hc.f5 h5
  obtain ⟨A', ca, e25, _⟩ := hc.f11 h11
  exact ⟨g, cg, A', ca, e19, e25⟩
theorem LmrI.no14 (h11 : L 11 = false) : L 14 = false := by
  obtain ⟨_, hs, hs1, _, c, hc⟩ := h.base
  cases e : L 14 with
  | false => rfl
  | true => have := (hc.f14 e).2.2; rw [h11] at this; cases this
omit h in
theorem LmrI.form {vs : List Value} (h : LmrI w s1 p r y R0 lr cz m mb ob box L vs W) : ∃ t16 t18 t19 t22 t24 t25 t28 t7, vs = [t16, t18, t19, t22, t24, t25, t28, t7] := by
  obtain ⟨t16, t18, t19, t22, t24, t25, t28, t7, e, _⟩ := h
  exact ⟨t16, t18, t19, t22, t24, t25, t28, t7, e⟩
theorem LmrI.done (hall : ∀ k, k < 17 → L k = true) : ∃ gq g cg A' ca, t7 = .pointer (some ⟨gq, 0, none⟩) ∧ s1 ≤ gq ∧ RowsRead W (some ⟨g, 0, none⟩) (p.rows ++ [r]) ∧ Ints W A' (p.bounds ++ [y]) ∧ Below w.heap.size w W ∧ Cls W (box ++ [(gq, 0, .slice (some ⟨g, 0, none⟩) (m + 1) cg), (gq, 1, .slice A' (mb + 1) ca), (gq, 2, ob)]) := by
  obtain ⟨hB, hs, hs1, hb, c, hc⟩ := h.base
  obtain ⟨g, cg, e19, hlt, hR, _⟩ := hc.f5 (hall _ (by decide))
  obtain ⟨A', ca, e25, hI, _⟩ := hc.f11 (hall _ (by decide))
  obtain ⟨gq, e7, hq, _, hC⟩ := hc.f15 (hall _ (by decide))
  rw [hall 16 (by decide), if_pos rfl, e19, e25] at hC
  refine ⟨gq, g, cg, A', ca, e7, hq, hR.read, ?_, hB, ?_⟩
  · rw [e25] at hI
    obtain ⟨A2, c2, e, hi⟩ := OwnI.ints hI
    injection e with e
    subst e
    exact hi
  · clear h
    induction box with
    | nil => exact hC
    | cons x l ih => exact ⟨hb.1, ih hb.2⟩
end
end
end Go.Proofs.Ytkepfmglljkjhaa
