/-
  Steps of regions that draw: append of rows, of whole lists; rows that are exchanged.
-/
import Derived.Test.YtkepfmglljkjhaaTq0
import Derived.Test.YtkepfmglljkjhaaNll
namespace Go.Proofs.Ytkepfmglljkjhaa
open Go.RowKit
set_option linter.unusedVariables false
set_option linter.unusedSimpArgs false

section
variable {P : Program} {w : World}
theorem step_append_own_at {ops : Array Oper} {o : Oper} {a : Act} {K : Act → World → Prop} {Q : Exit → Act → World → Prop} {E : Prop} (hgd : o.guard = none) (s x : Operand) (t : TypeId)
    (ho : o.op = .call { callee := .builtin .append, args := #[s, x], argTypes := #[t, t] })
    (base : Nat) (e : TypeId) (i : TypeInfo) (z : Value) (size bytes : Nat) (ht : P.underlying t = some (.slice e)) (hi : P.info? e = some i) (hz : i.zero = some z)
    (hsize : i.size = size) (hby : i.bytes = bytes) (hzs : z.cells.size = size) (hsz : 0 < size)
    (v : Value) (n : Nat) (xs : List Value) (hs : a.eval s = v) (hown : w.ownsRow base e size v n xs)
    (ad : Addr) (m c : Nat) (news : List Value) (hx : a.eval x = .slice (some ad) m c) (hl : news.length = m * size) (hnews : ∀ j u, news[j]? = some u → w.cell? (ad.add j) = some u) (h1 : ∀ u ∈ news, u.oneCell' = true)
    (h63 : n + m ≤ maxLen) (hbytes : (n + m) * bytes ≤ 140737488355328) (hbase : base ≤ w.heap.size)
    (h : ∀ v' w', w'.ownsRow base e size v' (n + m) (xs ++ news) → w.grownBy w' v.ownBlock → (v' = .slice none 0 0 ↔ v = .slice none 0 0 ∧ m = 0) → (v'.ownBlock = v.ownBlock ∨ v'.ownBlock = some w.heap.size) → K (a.put o.dst v') w') :
    if Region.wanted o (yielded ops a.tmps) = true then Oper.wp P o a w K Q else E := by
  have hw : Region.wanted o (yielded ops a.tmps) = true := by simp [Region.wanted, hgd]
  rw [if_pos hw]
  obtain ⟨v', w', hr, h2, h3, h4, h5⟩ := run_append_own_at (P := P) (w := w) base t o.type e i z size bytes ht hi hz hsize hby hzs hsz v n xs hown ad m c news hl hnews h1 h63 hbytes hbase
  unfold Oper.wp execOp
  simp only [ho, resolve, invoke, builtin, Sem.run_bind, Sem.run_pure, Result.andThen_ok, List.map_toArray, List.map_cons, List.map_nil, hs, hx, hr]
  exact h _ _ h2 h3 h4 h5
theorem step_append_own_none {ops : Array Oper} {o : Oper} {a : Act} {K : Act → World → Prop} {Q : Exit → Act → World → Prop} {E : Prop} (hgd : o.guard = none) (s x : Operand) (t : TypeId)
    (ho : o.op = .call { callee := .builtin .append, args := #[s, x], argTypes := #[t, t] })
    (base : Nat) (e : TypeId) (i : TypeInfo) (size : Nat) (ht : P.underlying t = some (.slice e)) (hi : P.info? e = some i)
    (v : Value) (n : Nat) (xs : List Value) (hs : a.eval s = v) (hown : w.ownsRow base e size v n xs) (hx : a.eval x = .slice none 0 0)
    (h : K (a.put o.dst v) w) : if Region.wanted o (yielded ops a.tmps) = true then Oper.wp P o a w K Q else E := by
  have hw : Region.wanted o (yielded ops a.tmps) = true := by simp [Region.wanted, hgd]
  rw [if_pos hw]
  have hrun := run_append_owned_none (P := P) (w := w) base t o.type e i size ht hi v n xs hown
  unfold Oper.wp
  simp [execOp, ho, resolve, invoke, builtin, hs, hx, hrun, Result.andThen]
  exact h
end
/-- A cell that leads to a list of integers that lies below block K. -/
def PAo (K : Nat) (w : World) (row : Option Nat) (cs : List Value) (r : List Int) : Prop :=
  ∃ A c, cs = [.slice A r.length c] ∧ Ints w A r ∧ NilOk A r c ∧ (r ≠ [] → ∀ ad, A = some ad → ad.block < K ∧ some ad.block ≠ row)
theorem pao_stable (K : Nat) : Stable (PAo K) := by
  constructor
  · rintro w w' row cs r ⟨A, c, e, hI, hn, ha⟩ hb
    exact ⟨A, c, e, hI.below hb, hn, ha⟩
  · rintro w w' row cs r ⟨A, c, e, hI, hn, ha⟩ hg
    have hI' := hI.grown2 hg (fun hr ad h => (ha hr ad h).2)
    refine ⟨⟨A, c, e, hI', hn, ha⟩, ⟨A, c, e, hI', hn, fun hr ad h => ⟨(ha hr ad h).1, fun k => ?_⟩⟩⟩
    subst h
    have := ints_lt hI hr
    injection k with k
    omega
def OwnLO (K base : Nat) (w : World) (v : Value) (rows : List (List Int)) : Prop := OwnEs (PAo K) 23 1 base w v rows
theorem OwnLO.below {K base : Nat} {w w' : World} {v : Value} {rows : List (List Int)} (h : OwnLO K base w v rows) (hb : Below w.heap.size w w') : OwnLO K base w' v rows := OwnEs.below (pao_stable K) h hb
/-- append(v, x...) of rows, as a step. -/
theorem step_catL {Kb : Nat} {ops : Array Oper} {o : Oper} {a : Act} {w : World} {K : Act → World → Prop} {Q : Exit → Act → World → Prop} {E : Prop} (hgd : o.guard = none) (s x : Operand)
    (ho : o.op = .call { callee := .builtin .append, args := #[s, x], argTypes := #[22, 22] })
    (w0 : World) (l : List (Nat × Nat × Value)) (base : Nat) (v : Value) (xs : List (List Int)) (hs : a.eval s = v) (hown : OwnLO Kb base w v xs) (A : Option Addr) (c m : Nat) (ys : List (List Int)) (hx : a.eval x = .slice A m c) (hm : ys.length = m) (hnil : A = none → ys = [] ∧ c = 0) (hR : RowsRead w A ys)
    (zs : List (List Int)) (hzs : xs ++ ys = zs) (hfar : ∀ (i : Nat) (r : List Int) (B : Addr) (cc : Nat), ys[i]? = some r → r ≠ [] → (∃ ad, A = some ad ∧ w.cell? (ad.add i) = some (.slice (some B) r.length cc)) → B.block < Kb ∧ some B.block ≠ v.ownBlock)
    (hlen : (xs.length + m) * 24 ≤ 140737488355328) (hbase : base ≤ w.heap.size) (h0 : w0.heap.size ≤ base) (hB : Below w0.heap.size w0 w) (hC : Cls w l) (hl : ∀ x ∈ l, x.1 < base)
    (h : ∀ v' w', OwnLO Kb base w' v' zs → Below w0.heap.size w0 w' → Cls w' l → w.heap.size ≤ w'.heap.size → K (a.put o.dst v') w') : if Region.wanted o (yielded ops a.tmps) = true then Oper.wp Try.prog o a w K Q else E := by
  obtain ⟨i0, hi0, hz⟩ := Option.map_eq_some_iff.1 info_list
  simp only [Prod.mk.injEq] at hz
  obtain ⟨cells, hr, hcs⟩ := hown
  have hcl := hr.1
  subst hm
  subst hzs
  cases A with
  | none =>
    obtain ⟨rfl, rfl⟩ := hnil rfl
    refine step_append_own_none hgd s x 22 ho base 23 i0 1 Try.underlying22 hi0 v xs.length cells hs hr hx ?_
    exact h v w (by rw [List.append_nil]; exact ⟨cells, hr, hcs⟩) hB hC (Nat.le_refl _)
  | some ad =>
    obtain ⟨news, hnl, hat, h1, hrd⟩ := hR.cells
    refine step_append_own_at hgd s x 22 ho base 23 i0 (.slice none 0 0) 1 24 Try.underlying22 hi0 hz.1 hz.2.1 hz.2.2 rfl (by decide) v xs.length cells hs hr ad ys.length c news hx (by omega) hat h1 ?_ hlen hbase ?_
    · simp only [maxLen]; omega
    · intro v' w' h2 h3 _ h4
      refine h v' w' ⟨cells ++ news, by rw [List.length_append]; exact h2, fun i r ha => ?_⟩ ?_ ?_ h3.size
      · have key : ∀ {cs : List Value} {a : List Int}, PAo Kb w v.ownBlock cs a → PAo Kb w' v'.ownBlock cs a := fun hp => by
          rcases h4 with h4 | h4
          · rw [h4]; exact ((pao_stable Kb).grown hp h3).1
          · rw [h4]; exact ((pao_stable Kb).grown hp h3).2
        rw [Nat.mul_one] at *
        rcases Nat.lt_or_ge i xs.length with hi | hi
        · rw [List.getElem?_append_left hi] at ha
          have e1 : ((cells ++ news).drop i).take 1 = (cells.drop (i * 1)).take 1 := by
            rw [Nat.mul_one, List.drop_append_of_le_length (by omega), List.take_append_of_le_length (by rw [List.length_drop]; omega)]
          rw [e1]
          exact key (hcs i r ha)
        · rw [List.getElem?_append_right hi] at ha
          obtain ⟨B, cc, e2, hI, hn⟩ := hrd _ _ ha
          have e1 : ((cells ++ news).drop i).take 1 = [.slice B r.length cc] := by
            rw [List.drop_append, List.drop_eq_nil_of_le (by omega), List.nil_append, show i - cells.length = i - xs.length by omega]
            have hlt := (List.getElem?_eq_some_iff.1 e2).1
            rw [List.drop_eq_getElem_cons hlt]
            obtain ⟨_, e3⟩ := List.getElem?_eq_some_iff.1 e2
            rw [e3]; rfl
          rw [e1]
          exact key ⟨B, cc, rfl, hI, hn, fun hne ad' hB' => by
            subst hB'
            exact hfar _ _ ad' cc ha hne ⟨ad, rfl, hat _ _ e2⟩⟩
      · exact hB.grown h3 (Nat.le_trans h0 hbase) (fun k hk => Nat.le_trans h0 (hr.lt k hk).1)
      · exact hC.grown hr h3 hl
/-! ### Rows in a block whose cells can be written -/
def RowsAt (K : Nat) (w : World) (g : Nat) (ls : List (List Int)) : Prop :=
  (∀ j : Nat, w.frozen? ⟨g, j, none⟩ = false) ∧ ∀ (j : Nat) (r : List Int), ls[j]? = some r → ∃ B c, w.cell? ⟨g, j, none⟩ = some (.slice B r.length c) ∧ Ints w B r ∧ NilOk B r c ∧ (r ≠ [] → ∀ ad, B = some ad → ad.block < K)
theorem RowsAt.below {K : Nat} {w w' : World} {g : Nat} {ls : List (List Int)} (h : RowsAt K w g ls) (hg : g < w.heap.size) (hb : Below w.heap.size w w') : RowsAt K w' g ls :=
  ⟨fun j => (hb.frozen (p := ⟨g, j, none⟩) hg).trans (h.1 j), fun j r hr => by
    obtain ⟨B, c, h1, h2, h3, h4⟩ := h.2 j r hr
    exact ⟨B, c, (hb.cell (World.block_lt_of_cell? w _ h1)).trans h1, h2.below hb, h3, h4⟩⟩
theorem RowsAt.read {K : Nat} {w : World} {g : Nat} {ls : List (List Int)} (h : RowsAt K w g ls) : RowsRead w (some ⟨g, 0, none⟩) ls := fun j r hr => by
  obtain ⟨B, c, h1, h2, h3, h4⟩ := h.2 j r hr
  refine ⟨⟨g, 0, none⟩, B, c, rfl, ?_, h2, h3⟩
  have e : ((⟨g, 0, none⟩ : Addr).add j) = ⟨g, j, none⟩ := by
    unfold Addr.add; split
    · rename_i hj; subst hj; rfl
    · simp
  rw [e]; exact h1
theorem Ints.off {w : World} {B : Option Addr} {r : List Int} (h : Ints w B r) {p : Addr} (hne : r ≠ [] → ∀ ad, B = some ad → ad.block ≠ p.block) (u : Value) : Ints (w.setCell p u) B r := by
  by_cases e : r = []
  · subst e; exact Ints.nil _ _
  · exact h.far (hne e) u
theorem RowsAt.set_ {K : Nat} {w : World} {g i : Nat} {ls : List (List Int)} (h : RowsAt K w g ls) (hK : K ≤ g) (hi : i < ls.length) {B : Option Addr} {r : List Int} {c n : Nat} (hrn : r.length = n) (hI : Ints w B r) (hn : NilOk B r c) (hf : r ≠ [] → ∀ ad, B = some ad → ad.block < K) :
    RowsAt K (w.setCell ⟨g, i, none⟩ (.slice B n c)) g (ls.set i r) := by
  subst hrn
  exact ⟨fun j => by rw [World.frozen?_setCell]; exact h.1 j, fun j q hq => by
    rw [List.getElem?_set] at hq
    by_cases e : i = j
    · subst e
      rw [if_pos rfl, if_pos hi] at hq
      injection hq with hq
      subst hq
      obtain ⟨B', c', h1, _⟩ := h.2 i _ (List.getElem?_eq_getElem hi)
      exact ⟨B, c, World.cell?_setCell_same w _ _ h1, hI.off (fun hr ad e2 => by have := hf hr ad e2; show ad.block ≠ g; omega) _, hn, hf⟩
    · rw [if_neg e] at hq
      obtain ⟨B', c', h1, h2, h3, h4⟩ := h.2 j q hq
      exact ⟨B', c', by rw [World.cell?_setCell_other w _ _ _ (fun e2 => e (by injection e2))]; exact h1, h2.off (fun hr ad e2 => by have := h4 hr ad e2; show ad.block ≠ g; omega) _, h3, h4⟩⟩
theorem RowsAt.far {K : Nat} {w : World} {g : Nat} {ls : List (List Int)} (h : RowsAt K w g ls) {p : Addr} (hp : p.block ≠ g) (hq : K ≤ p.block) (u : Value) : RowsAt K (w.setCell p u) g ls :=
  ⟨fun j => by rw [World.frozen?_setCell]; exact h.1 j, fun j r hr => by
    obtain ⟨B, c, h1, h2, h3, h4⟩ := h.2 j r hr
    exact ⟨B, c, by rw [World.cell?_setCell_other w _ _ _ (fun e => hp (by rw [e]))]; exact h1, h2.off (fun hne ad e => by have := h4 hne ad e; omega) _, h3, h4⟩⟩
theorem OwnLO.at_block {K base : Nat} {w : World} {v : Value} {ls : List (List Int)} (h : OwnLO K base w v ls) (hl : ls ≠ []) : ∃ g c, v = .slice (some ⟨g, 0, none⟩) ls.length c ∧ base ≤ g ∧ g < w.heap.size ∧ RowsAt K w g ls := by
  obtain ⟨A, c, rfl⟩ := OwnEs.form h
  have h0 : 0 < ls.length := List.length_pos_iff.2 hl
  obtain ⟨g, _, _, rfl, hb, hlt, _⟩ := OwnEs.at_ h (i := 0) h0
  refine ⟨g, c, rfl, hb, hlt, fun j => OwnEs.free (A := none) h j, fun j r hr => ?_⟩
  obtain ⟨g', cs, a, e, _, _, ha, _, hc, B, c', rfl, hI, hn, hf⟩ := OwnEs.at_ h (i := j) (List.getElem?_eq_some_iff.1 hr).1
  injection e with e
  injection e with e
  subst e
  have : a = r := by have := ha.out; rw [hr] at this; injection this with this; exact this.symm
  subst this
  have h1 := hc 0 _ rfl
  rw [Nat.mul_one, Nat.add_zero] at h1
  exact ⟨B, c', h1, hI, hn, fun hne ad e2 => (hf hne ad e2).1⟩
/-- Where the rows of an argument lie. -/
theorem RowsRead.old {w w' : World} {A : Option Addr} {ls : List (List Int)} (h : RowsRead w A ls) (hb : Below w.heap.size w w') (i : Nat) (r : List Int) (B : Addr) (cc : Nat) (hr : ls[i]? = some r) (hne : r ≠ []) (hc : ∃ ad, A = some ad ∧ w'.cell? (ad.add i) = some (.slice (some B) r.length cc)) : B.block < w.heap.size := by
  obtain ⟨ad, B', c', e, h1, h2, _⟩ := h i r hr
  obtain ⟨ad', e', h3⟩ := hc
  rw [e] at e'
  injection e' with e'
  subst e'
  rw [(hb.cell (World.block_lt_of_cell? w _ h1)).trans h1] at h3
  injection h3 with h3
  injection h3 with h3
  subst h3
  exact ints_lt h2 hne
theorem OwnI.apart2 {base n c : Nat} {w : World} {A : Option Addr} {xs : List Int} (h : OwnI base w (.slice A n c) xs) {p : Addr} (hA : ∀ ad, A = some ad → ad.block ≠ p.block) (u : Value) : OwnI base (w.setCell p u) (.slice A n c) xs :=
  OwnI.apart h (fun e => by
    cases A with
    | none => cases e
    | some ad => exact hA ad rfl (by simpa [Value.ownBlock] using e)) u
theorem RowsAt.alloc_ {K : Nat} {w : World} {g : Nat} {ls : List (List Int)} (h : RowsAt K w g ls) (hg : g < w.heap.size) (o : Obj) : RowsAt K (w.alloc o) g ls := h.below hg ((Below.refl _ _).alloc (Nat.le_refl _) o)
theorem OwnI.alloc_ {base : Nat} {w : World} {v : Value} {xs : List Int} (h : OwnI base w v xs) (o : Obj) : OwnI base (w.alloc o) v xs := OwnI.below h ((Below.refl _ _).alloc (Nat.le_refl _) o)
/-! ### Two rows that are exchanged -/
def swapAt {α : Type} (l : List α) (i k : Nat) (x y : α) : List α := (l.set i y).set k x
def sig (i k j : Nat) : Nat := if j = k then i else if j = i then k else j
theorem sig_sig (i k j : Nat) : sig i k (sig i k j) = j := by unfold sig; split <;> (try split) <;> (try split) <;> (try split) <;> omega
theorem sig_lt {i k j m : Nat} (hi : i < m) (hk : k < m) (hj : j < m) : sig i k j < m := by unfold sig; split <;> (try split) <;> omega
theorem swapAt_at {α : Type} {l : List α} {i k : Nat} {x y : α} (hx : l[i]? = some x) (hy : l[k]? = some y) (j : Nat) : (swapAt l i k x y)[j]? = l[sig i k j]? := by
  have hi := (List.getElem?_eq_some_iff.1 hx).1
  have hk := (List.getElem?_eq_some_iff.1 hy).1
  unfold swapAt sig
  rw [List.getElem?_set, List.getElem?_set, List.length_set]
  by_cases e : j = k
  · subst e; rw [if_pos rfl, if_pos hk, if_pos rfl, hx]
  · rw [if_neg (Ne.symm e), if_neg e]
    by_cases e2 : j = i
    · subst e2; rw [if_pos rfl, if_pos hi, if_pos rfl, hy]
    · rw [if_neg (Ne.symm e2), if_neg e2]
theorem swapAt_len {α : Type} (l : List α) (i k : Nat) (x y : α) : (swapAt l i k x y).length = l.length := by unfold swapAt; rw [List.length_set, List.length_set]
/-- The program with two rows exchanged. -/
def swapV (p : LpV) (i k : Nat) (r q : List Int) (x y : Int) : LpV := ⟨swapAt p.rows i k r q, swapAt p.bounds i k x y, p.obj⟩
section
variable {p : LpV} {i k : Nat} {r q : List Int} {x y : Int}
theorem swap_ok (h : LpOk p) (hr : p.rows[i]? = some r) (hq : p.rows[k]? = some q) (hx : p.bounds[i]? = some x) (hy : p.bounds[k]? = some y) : LpOk (swapV p i k r q x y) := by
  have hl : (swapV p i k r q x y).rows.length = p.rows.length := swapAt_len _ _ _ _ _
  refine ⟨by rw [hl]; exact h.m, h.n, ?_, h.c, fun j hj => ?_⟩
  · rw [hl]; show (swapAt p.bounds i k x y).length = _; rw [swapAt_len]; exact h.b
  · rw [hl] at hj
    have := h.r (sig i k j) (sig_lt (List.getElem?_eq_some_iff.1 hr).1 (List.getElem?_eq_some_iff.1 hq).1 hj)
    unfold LpV.rowC at this ⊢
    show rowF (((swapAt p.rows i k r q)[j]?).getD []) (((swapAt p.bounds i k x y)[j]?).getD 0) p.obj.length = 0
    rw [swapAt_at hr hq, swapAt_at hx hy]
    exact this
theorem swap_part (hr : p.rows[i]? = some r) (hq : p.rows[k]? = some q) (hx : p.bounds[i]? = some x) (hy : p.bounds[k]? = some y) : LA.Part (swapV p i k r q x y).lp p.lp ∧ LA.Part p.lp (swapV p i k r q x y).lp := by
  have hm : (swapV p i k r q x y).lp.m = p.lp.m := swapAt_len _ _ _ _ _
  have hA : ∀ a b, (swapV p i k r q x y).lp.A a b = p.lp.A (sig i k a) b := fun a b => by
    show (((((swapAt p.rows i k r q)[a]?).getD [])[b]?).getD 0) = _
    rw [swapAt_at hr hq]; rfl
  have hb : ∀ a, (swapV p i k r q x y).lp.b a = p.lp.b (sig i k a) := fun a => by
    show (((swapAt p.bounds i k x y)[a]?).getD 0) = _
    rw [swapAt_at hx hy]; rfl
  have hi := (List.getElem?_eq_some_iff.1 hr).1
  have hk := (List.getElem?_eq_some_iff.1 hq).1
  have hs : ∀ {a}, a < p.lp.m → sig i k a < p.lp.m := fun ha => sig_lt (m := p.rows.length) hi hk ha
  refine ⟨⟨rfl, fun _ _ => rfl, fun u d h => ⟨fun a ha => ?_, h.2⟩, fun u h => ⟨fun a ha => ?_, h.2.1, h.2.2⟩⟩, ⟨rfl, fun _ _ => rfl, fun u d h => ⟨fun a ha => ?_, h.2⟩, fun u h => ⟨fun a ha => ?_, h.2.1, h.2.2⟩⟩⟩
  · have h1 := h.1 (sig i k a) (by rw [hm]; exact hs ha)
    rw [hb, sig_sig] at h1
    rw [← LA.sumN_congr (f := fun j => (swapV p i k r q x y).lp.A (sig i k a) j * u j) fun j _ => by rw [hA, sig_sig]]
    exact h1
  · have h1 := h.1 (sig i k a) (by rw [hm]; exact hs ha)
    rw [← LA.sumN_congr (f := fun j => (swapV p i k r q x y).lp.A (sig i k a) j * u j) fun j _ => by rw [hA, sig_sig]]
    exact h1
  · rw [hm] at ha
    have h1 := h.1 (sig i k a) (hs ha)
    rw [hb, LA.sumN_congr (g := fun j => p.lp.A (sig i k a) j * u j) fun j _ => by rw [hA]]
    exact h1
  · rw [hm] at ha
    have h1 := h.1 (sig i k a) (hs ha)
    rw [LA.sumN_congr (g := fun j => p.lp.A (sig i k a) j * u j) fun j _ => by rw [hA]]
    exact h1
end

end Go.Proofs.Ytkepfmglljkjhaa
