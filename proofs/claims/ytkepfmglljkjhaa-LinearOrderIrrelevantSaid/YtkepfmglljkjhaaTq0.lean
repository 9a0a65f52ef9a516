/-
  The dual program of the reference (Transposed).
-/
import Derived.Test.YtkepfmglljkjhaaLs1
import Derived.Test.YtkepfmglljkjhaaTb9
import Derived.Test.YtkepfmglljkjhaaTb7
import Derived.Deep.AppendLies
namespace Go.Proofs.Ytkepfmglljkjhaa
open Go.RowKit
set_option linter.unusedVariables false
set_option linter.unusedSimpArgs false

/-- The dual program. -/
def dualV (p : LpV) : LpV := ⟨(List.range p.obj.length).map fun j => tbRow p.rows.length fun k => - p.lp.A k j, tbRow p.obj.length fun j => - p.lp.c j, tbRow p.rows.length fun k => - p.lp.b k⟩
theorem outcome_congr {P Q : LA.LP} {st num den : Int} (hm : P.m = Q.m) (hn : P.n = Q.n) (hA : ∀ i j, i < P.m → j < P.n → P.A i j = Q.A i j) (hb : ∀ i, i < P.m → P.b i = Q.b i) (hc : ∀ j, j < P.n → P.c j = Q.c j) (h : LA.Outcome P st num den) : LA.Outcome Q st num den := by
  have e1 : ∀ {x : Nat → Int} {k}, k < P.m → LA.sumN Q.n (fun j => Q.A k j * x j) = LA.sumN P.n fun j => P.A k j * x j := fun hk => by rw [← hn]; exact LA.sumN_congr fun j hj => by rw [hA _ _ hk hj]
  have e2 : ∀ {y : Nat → Int} {j}, j < P.n → LA.sumN Q.m (fun k => Q.A k j * y k) = LA.sumN P.m fun k => P.A k j * y k := fun hj => by rw [← hm]; exact LA.sumN_congr fun k hk => by rw [hA _ _ hk hj]
  have e3 : ∀ {x : Nat → Int}, LA.valP Q x = LA.valP P x := fun {x} => by unfold LA.valP; rw [← hn]; exact LA.sumN_congr fun j hj => by rw [hc j hj]
  have e4 : ∀ {y : Nat → Int}, LA.valD Q y = LA.valD P y := fun {y} => by unfold LA.valD; rw [← hm]; exact LA.sumN_congr fun k hk => by rw [hb k hk]
  have pt : ∀ {x d}, LA.IsPt P x d → LA.IsPt Q x d := fun {x d} h => ⟨fun k hk => by rw [← hm] at hk; rw [e1 hk, ← hb k hk]; exact h.1 k hk, fun j hj => h.2 j (by rw [hn]; exact hj)⟩
  have du : ∀ {y d}, LA.IsDu P y d → LA.IsDu Q y d := fun {y d} h => ⟨fun j hj => by rw [← hn] at hj; rw [e2 hj, ← hc j hj]; exact h.1 j hj, fun k hk => h.2 k (by rw [hm]; exact hk)⟩
  rcases h with ⟨h1, h2, ⟨x, d, h3, h4, h5⟩, y, e, h6, h7, h8⟩ | ⟨h1, h2, h3, y, h4⟩ | ⟨h1, h2, h3, ⟨x, d, h4, h5⟩, r, h6⟩
  · exact .inl ⟨h1, h2, ⟨x, d, h3, pt h4, by rw [e3]; exact h5⟩, y, e, h6, du h7, by rw [e4]; exact h8⟩
  · refine .inr (.inl ⟨h1, h2, h3, y, fun j hj => ?_, fun k hk => h4.2.1 k (by rw [hm]; exact hk), ?_⟩)
    · rw [← hn] at hj; rw [e2 hj]; exact h4.1 j hj
    · have := h4.2.2
      have e5 : LA.valD Q y = LA.valD P y := e4
      unfold LA.valD at e5
      rw [e5]; exact this
  · refine .inr (.inr ⟨h1, h2, h3, ⟨x, d, h4, pt h5⟩, r, fun k hk => ?_, fun j hj => h6.2.1 j (by rw [hn]; exact hj), ?_⟩)
    · rw [← hm] at hk; rw [e1 hk]; exact h6.1 k hk
    · have e5 : LA.valP Q r = LA.valP P r := e3
      unfold LA.valP at e5
      rw [e5]; exact h6.2.2
theorem dual_row {p : LpV} {j : Nat} (hj : j < p.obj.length) : (dualV p).rows[j]? = some (tbRow p.rows.length fun k => - p.lp.A k j) := by
  unfold dualV; simp only; rw [List.getElem?_map, List.getElem?_range hj]; rfl
theorem dual_lp (p : LpV) : (dualV p).lp.m = p.lp.dual.m ∧ (dualV p).lp.n = p.lp.dual.n ∧ (∀ i j, i < (dualV p).lp.m → j < (dualV p).lp.n → (dualV p).lp.A i j = p.lp.dual.A i j) ∧ (∀ i, i < (dualV p).lp.m → (dualV p).lp.b i = p.lp.dual.b i) ∧ ∀ j, j < (dualV p).lp.n → (dualV p).lp.c j = p.lp.dual.c j := by
  have hm : (dualV p).lp.m = p.obj.length := by show (dualV p).rows.length = _; unfold dualV; simp
  have hn : (dualV p).lp.n = p.rows.length := by show (dualV p).obj.length = _; unfold dualV; rw [tbRow_len]
  refine ⟨hm, hn, fun i j hi hj => ?_, fun i hi => ?_, fun j hj => ?_⟩
  · rw [hm] at hi
    rw [hn] at hj
    rw [A_at (dual_row hi) (tbRow_at _ hj)]; rfl
  · rw [hm] at hi
    exact bnd_at (p := dualV p) (tbRow_at _ hi)
  · rw [hn] at hj
    exact obj_at (p := dualV p) (tbRow_at _ hj)
theorem LpOk.b_le {p : LpV} (h : LpOk p) (i : Nat) : -20 ≤ p.lp.b i ∧ p.lp.b i ≤ 20 := by
  show -20 ≤ (p.bounds[i]?).getD 0 ∧ (p.bounds[i]?).getD 0 ≤ 20
  cases e : p.bounds[i]? with
  | none => simp
  | some b => exact h.bound e
theorem LpOk.c_le {p : LpV} (h : LpOk p) (i : Nat) : -20 ≤ p.lp.c i ∧ p.lp.c i ≤ 20 := by
  show -20 ≤ (p.obj[i]?).getD 0 ∧ (p.obj[i]?).getD 0 ≤ 20
  cases e : p.obj[i]? with
  | none => simp
  | some b => exact h.c b (List.mem_of_getElem? e)
theorem dual_okv {p : LpV} (h : LpOk p) : LpOk (dualV p) := by
  have hm : (dualV p).rows.length = p.obj.length := by unfold dualV; simp
  have hn : (dualV p).obj.length = p.rows.length := by unfold dualV; rw [tbRow_len]
  have hb : (dualV p).bounds.length = p.obj.length := by unfold dualV; rw [tbRow_len]
  refine ⟨by rw [hm]; exact h.n, by rw [hn]; exact h.m, by rw [hm, hb], fun c hc => ?_, fun i hi => ?_⟩
  · unfold dualV at hc
    obtain ⟨k, _, rfl⟩ := mem_row hc
    have := h.b_le k; omega
  · rw [hm] at hi
    have e2 : (dualV p).bounds[i]? = some (- p.lp.c i) := tbRow_at _ hi
    unfold LpV.rowC
    rw [dual_row hi, e2, hn]
    simp only [Option.getD_some]
    unfold rowF
    rw [if_neg (fun e => e (tbRow_len _ _)), if_neg (fun e => e (by have := h.c_le i; omega)), if_pos]
    intro a ha
    obtain ⟨k, _, rfl⟩ := mem_row ha
    have := h.A_le k i; omega
/-! ### Rows of own lists, whose blocks are known -/
def PAx (base : Nat) (w : World) (row : Option Nat) (cs : List Value) (x : Option Addr × Nat × List Int) : Prop :=
  cs = [.slice x.1 x.2.2.length x.2.1] ∧ Ints w x.1 x.2.2 ∧ NilOk x.1 x.2.2 x.2.1 ∧ ∀ ad, x.1 = some ad → some ad.block ≠ row ∧ base ≤ ad.block ∧ ad.block < w.heap.size
theorem pax_stable (base : Nat) : Stable (PAx base) := by
  constructor
  · rintro w w' row cs x ⟨e, hI, hn, hb⟩ hB
    exact ⟨e, hI.below hB, hn, fun ad h => ⟨(hb ad h).1, (hb ad h).2.1, Nat.lt_of_lt_of_le (hb ad h).2.2 hB.size⟩⟩
  · rintro w w' row cs x ⟨e, hI, hn, hb⟩ hg
    have hI' : Ints w' x.1 x.2.2 := Ints.grown hI hg (fun ad h => (hb ad h).1)
    have hlt : ∀ ad, x.1 = some ad → ad.block < w'.heap.size := fun ad h => Nat.lt_of_lt_of_le (hb ad h).2.2 hg.size
    exact ⟨⟨e, hI', hn, fun ad h => ⟨(hb ad h).1, (hb ad h).2.1, hlt ad h⟩⟩, ⟨e, hI', hn, fun ad h => ⟨fun e => by injection e with e; have := (hb ad h).2.2; omega, (hb ad h).2.1, hlt ad h⟩⟩⟩
def OwnAx (base : Nat) (w : World) (v : Value) (els : List (Option Addr × Nat × List Int)) : Prop := OwnEs (PAx base) 23 1 base w v els
section
variable {base : Nat} {w w' : World} {v : Value} {els : List (Option Addr × Nat × List Int)}
theorem OwnAx.below (h : OwnAx base w v els) (hb : Below w.heap.size w w') : OwnAx base w' v els := OwnEs.below (pax_stable _) h hb
theorem OwnAx.far (h : OwnAx base w v els) {p : Addr} (hp : p.block < base) (u : Value) : OwnAx base (w.setCell p u) v els :=
  OwnEs.far h (fun {w row cs a p u} h hp => ⟨h.1, Ints.far h.2.1 (fun ad e => by have := (h.2.2.2 ad e).2.1; omega) _, h.2.2.1, fun ad e => by
    have := h.2.2.2 ad e
    exact ⟨this.1, this.2.1, by simpa using this.2.2⟩⟩) hp u
theorem OwnAx.other {r : Option Nat} (h : OwnAx base w v els) (hg : w.grownBy w' r) (h1 : ∀ k, v.ownBlock = some k → r ≠ some k) (h2 : ∀ x ∈ els, ∀ ad, x.1 = some ad → r ≠ some ad.block) : OwnAx base w' v els := by
  obtain ⟨cells, ⟨a1, a2⟩, h3⟩ := h
  refine ⟨cells, ⟨a1, ?_⟩, fun i a ha => ?_⟩
  · rcases a2 with a2 | ⟨g, cap, cur, hv, hb, hh, rr⟩
    · exact Or.inl a2
    · refine Or.inr ⟨g, cap, cur, hv, hb, ?_, rr⟩
      have hlt : g < w.heap.size := by
        rcases Nat.lt_or_ge g w.heap.size with hl | hl
        · exact hl
        · rw [Array.getElem?_eq_none hl] at hh; cases hh
      rw [hg.block g hlt (fun e => h1 g (by rw [hv]; rfl) e.symm)]
      exact hh
  · obtain ⟨e, hI, hn, hb⟩ := h3 i a ha
    exact ⟨e, Ints.grown hI hg (fun ad h => fun e => h2 a (List.mem_of_getElem? ha) ad h e.symm), hn, fun ad h => ⟨(hb ad h).1, (hb ad h).2.1, Nat.lt_of_lt_of_le (hb ad h).2.2 hg.size⟩⟩
theorem OwnAx.read {n c : Nat} {A : Option Addr} (h : OwnAx base w (.slice A n c) els) : RowsRead w A (els.map (·.2.2)) := fun i r hr => by
  rw [List.getElem?_map] at hr
  obtain ⟨x, hx, rfl⟩ := Option.map_eq_some_iff.1 hr
  obtain ⟨g, cs, a, e, hb, hlt, ha, hl, hc, hp⟩ := OwnEs.at_ h (i := i) (List.getElem?_eq_some_iff.1 hx).1
  have hax : a = x := by have := ha.out; rw [hx] at this; injection this with this; exact this.symm
  subst hax
  obtain ⟨e1, hI, hn, _⟩ := hp
  subst e1
  have h0 := hc 0 _ rfl
  refine ⟨⟨g, 0, none⟩, a.1, a.2.1, e, ?_, hI, hn⟩
  have e3 : ((⟨g, 0, none⟩ : Addr).add i) = ⟨g, i, none⟩ := by
    unfold Addr.add
    split
    · rename_i hj; subst hj; rfl
    · simp
  rw [e3]
  simpa using h0
end
theorem OwnI.nilok {base n c : Nat} {w : World} {A : Option Addr} {xs : List Int} (h : OwnI base w (.slice A n c) xs) : NilOk A xs c := by
  have h1 := h.cap_le
  have h2 := h.cap_max
  have h3 := h.len
  obtain ⟨A', c', e, h4, _⟩ := h.form
  injection e with e1 e2 e3
  subst e1; subst e3
  exact ⟨h4, by omega, h2⟩
theorem step_push_at {ops : Array Oper} {o : Oper} {a : Act} {w : World} {K : Act → World → Prop} {Q : Exit → Act → World → Prop} {E : Prop} (hgd : o.guard = none) (s x : Operand)
    (ho : o.op = .call { callee := .builtin .append, args := #[s, x], argTypes := #[23, 23] })
    (w0 : World) (l : List (Nat × Nat × Value)) (base : Nat) (v : Value) (xs : List Int) (y : Int) (hs : a.eval s = v) (hown : OwnI base w v xs) (ad : Addr) (m : Nat) (hx : a.eval x = .slice (some ad) 1 m) (hc : w.cell? ad = some (.int .i64 y))
    (hlen : xs.length < 1000000000000) (hbase : base ≤ w.heap.size) (h0 : w0.heap.size ≤ base) (hB : Below w0.heap.size w0 w) (hC : Cls w l) (hl : ∀ x ∈ l, x.1 < base)
    (h : ∀ g cap w', OwnI base w' (.slice (some ⟨g, 0, none⟩) (xs.length + 1) cap) (xs ++ [y]) → Below w0.heap.size w0 w' → Cls w' l → w.heap.size ≤ w'.heap.size → w.grownBy w' v.ownBlock → (v.ownBlock = some g ∨ g = w.heap.size) → K (a.put o.dst (.slice (some ⟨g, 0, none⟩) (xs.length + 1) cap)) w') :
    if Region.wanted o (yielded ops a.tmps) = true then Oper.wp Try.prog o a w K Q else E := by
  obtain ⟨i0, hi0, hz⟩ := Option.map_eq_some_iff.1 info_int
  simp only [Prod.mk.injEq] at hz
  have hown' : w.ownsRow base 3 1 v xs.length (xs.map (Value.int .i64)) := hown
  refine step_append_lies w hgd s x 23 ho base 3 i0 (.int .i64 0) 1 8 Try.underlying23 hi0 hz.1 hz.2.1 hz.2.2 rfl (by decide) v xs.length (xs.map (Value.int .i64)) hs hown' ad 1 m [.int .i64 y] hx rfl ?_ ?_ (by decide) ?_ ?_ hbase _ rfl ?_
  · intro j u hu
    cases j with
    | zero => simp at hu; subst hu; rw [add_zero]; exact hc
    | succ j => simp at hu
  · intro u hu; simp at hu; subst hu; rfl
  · simp only [maxLen]; omega
  · omega
  · intro g cap w' h1 h2 h3 h4
    have h5 : OwnI base w' (.slice (some ⟨g, 0, none⟩) (xs.length + 1) cap) (xs ++ [y]) := by
      unfold OwnI
      rw [List.length_append, List.map_append]
      exact h1
    exact h _ _ _ h5 (own_grown hB (OwnI.mono hown h0) h2 (Nat.le_trans h0 hbase)) (hC.grown hown' h2 hl) h2.size h2 h3

end Go.Proofs.Ytkepfmglljkjhaa
