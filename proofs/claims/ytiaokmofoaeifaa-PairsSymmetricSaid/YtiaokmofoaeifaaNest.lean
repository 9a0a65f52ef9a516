/-
  An own row whose elements take several cells and lead to lists of integers: lists of lists, of pairs, of cuts, of operators.
-/
import Derived.Test.YtiaokmofoaeifaaMem2
import Derived.Maps.AppendAt
namespace Go.Proofs.Ytiaokmofoaeifaa
open Go.RowKit
set_option linter.unusedVariables false
set_option linter.unusedSimpArgs false

/-- How the cells of an element read (row: the block of the row that it lies in). -/
structure Stable {α : Type} (P : World → Option Nat → List Value → α → Prop) : Prop where
  below : ∀ {w w' : World} {row : Option Nat} {cs : List Value} {a : α}, P w row cs a → Below w.heap.size w w' → P w' row cs a
  grown : ∀ {w w' : World} {row : Option Nat} {cs : List Value} {a : α}, P w row cs a → w.grownBy w' row → P w' row cs a ∧ P w' (some w.heap.size) cs a
def OwnEs {α : Type} (P : World → Option Nat → List Value → α → Prop) (e : TypeId) (size base : Nat) (w : World) (v : Value) (els : List α) : Prop :=
  ∃ cells, w.ownsRow base e size v els.length cells ∧ ∀ i a, els[i]? = some a → P w v.ownBlock ((cells.drop (i * size)).take size) a
section
variable {α : Type} {P : World → Option Nat → List Value → α → Prop} {e : TypeId} {size base : Nat} {w w' : World} {v : Value} {els : List α}
theorem OwnEs.nil (base : Nat) (w : World) : OwnEs P e size base w (.slice none 0 0) [] := ⟨[], World.ownsRow_nil w base _ _, fun i a h => by simp at h⟩
theorem OwnEs.below (hP : Stable P) (h : OwnEs P e size base w v els) (hb : Below w.heap.size w w') : OwnEs P e size base w' v els := by
  obtain ⟨cells, h1, h2⟩ := h
  exact ⟨cells, own_below h1 hb, fun i a ha => hP.below (h2 i a ha) hb⟩
theorem OwnEs.mono {base' : Nat} (h : OwnEs P e size base w v els) (hb : base' ≤ base) : OwnEs P e size base' w v els := by
  obtain ⟨cells, ⟨h1, h2⟩, h3⟩ := h
  refine ⟨cells, ⟨h1, ?_⟩, h3⟩
  rcases h2 with h2 | ⟨g, cap, cur, hv, hg, r⟩
  · exact Or.inl h2
  · exact Or.inr ⟨g, cap, cur, hv, by omega, r⟩
theorem OwnEs.form (h : OwnEs P e size base w v els) : ∃ A c, v = .slice A els.length c := by
  obtain ⟨cells, ⟨h1, h2⟩, h3⟩ := h
  rcases h2 with ⟨h2, h4⟩ | ⟨g, cap, cur, hv, r⟩
  · exact ⟨none, 0, by rw [h4]; exact h2⟩
  · exact ⟨_, _, hv⟩
theorem OwnEs.lt (h : OwnEs P e size base w v els) : ∀ k, v.ownBlock = some k → base ≤ k ∧ k < w.heap.size := by
  obtain ⟨cells, h1, _⟩ := h
  exact h1.lt
theorem OwnEs.at_ {A : Option Addr} {n c i : Nat} (h : OwnEs P e size base w (.slice A n c) els) (hi : i < els.length) :
    ∃ g cs a, A = some ⟨g, 0, none⟩ ∧ base ≤ g ∧ g < w.heap.size ∧ Hid (els[i]? = some a) ∧ cs.length = size ∧ (∀ j u, cs[j]? = some u → w.cell? ⟨g, i * size + j, none⟩ = some u) ∧ P w (some g) cs a := by
  obtain ⟨cells, h1, h3⟩ := h
  have h0 := h1
  rcases h1.2 with ⟨h2, h4⟩ | ⟨g, cap, cur, hv, hb, hg, r⟩
  · omega
  · injection hv with e1 e2 e3
    subst e1; subst e2; subst e3
    have hlt : g < w.heap.size := by
      rcases Nat.lt_or_ge g w.heap.size with hl | hl
      · exact hl
      · rw [Array.getElem?_eq_none hl] at hg; cases hg
    have hl := h0.1
    have hle : i * size + size ≤ els.length * size := by
      have := Nat.mul_le_mul_right size (show i + 1 ≤ els.length from hi)
      rw [Nat.succ_mul] at this; exact this
    refine ⟨g, (cells.drop (i * size)).take size, els[i], rfl, hb, hlt, Lib.hid (List.getElem?_eq_getElem hi), ?_, fun j u hu => ?_, h3 i _ (List.getElem?_eq_getElem hi)⟩
    · rw [List.length_take, List.length_drop]; omega
    · have hj : j < size := by
        have := (List.getElem?_eq_some_iff.1 hu).1
        rw [List.length_take] at this; omega
      rw [List.getElem?_take_of_lt hj, List.getElem?_drop] at hu
      rw [World.ownsRow.cellAt h0 _ (by omega)]
      exact hu
theorem OwnEs.free {A : Option Addr} {n c g : Nat} (h : OwnEs P e size base w (.slice (some ⟨g, 0, none⟩) n c) els) (j : Nat) : w.frozen? ⟨g, j, none⟩ = false := by
  obtain ⟨cells, h1, _⟩ := h
  rcases h1.2 with ⟨h2, h4⟩ | ⟨g', cap, cur, hv, hb, hg, r⟩
  · cases h2
  · injection hv with e1 e2 e3
    injection e1 with e1
    injection e1 with e1
    subst e1
    simp [World.frozen?, hg]
theorem OwnEs.far (h : OwnEs P e size base w v els) (hP : ∀ {w : World} {row : Option Nat} {cs : List Value} {a : α} {p : Addr} {u : Value}, P w row cs a → p.block < base → P (w.setCell p u) row cs a) {p : Addr} (hp : p.block < base) (u : Value) : OwnEs P e size base (w.setCell p u) v els := by
  obtain ⟨cells, ⟨h1, h2⟩, h3⟩ := h
  refine ⟨cells, ⟨h1, ?_⟩, fun i a ha => hP (h3 i a ha) hp⟩
  rcases h2 with h2 | ⟨g, cap, cur, hv, hg, hh, r⟩
  · exact Or.inl h2
  · exact Or.inr ⟨g, cap, cur, hv, hg, (Below.heap_setCell w p u g (fun e => by omega)).trans hh, r⟩
set_option maxRecDepth 100000 in
/-- append(v, x) of one element whose cells lie at ad. -/
theorem wpList_el (hP : Stable P) (T : TypeId) (bytes : Nat) (z : Value) (hT : Try.prog.underlying T = some (.slice e)) (hinf : (Try.prog.info? e).map (fun i => (i.zero, i.size, i.bytes)) = some (some z, size, bytes)) (hzs : z.cells.size = size) (hsz : 0 < size) (hby : bytes ≤ 64)
    {ops : Array Oper} {rest : List Oper} {o : Oper} {a : Act} {Q : Exit → Act → World → Prop} (hgd : o.guard = none) (s x : Operand)
    (ho : o.op = .call { callee := .builtin .append, args := #[s, x], argTypes := #[T, T] })
    (w0 : World) (l : List (Nat × Nat × Value)) (hs : a.eval s = v) (hown : OwnEs P e size base w v els) (ad : Addr) (m : Nat) (hx : a.eval x = .slice (some ad) 1 m) (news : List Value) (y : α) (hnl : news.length = size) (hnews : ∀ j u, news[j]? = some u → w.cell? (ad.add j) = some u) (h1 : ∀ u ∈ news, u.oneCell' = true) (hy : P w v.ownBlock news y)
    (hlen : els.length < 1000000000000) (hbase : base ≤ w.heap.size) (h0 : w0.heap.size ≤ base) (hB : Below w0.heap.size w0 w) (hC : Cls w l) (hl : ∀ x ∈ l, x.1 < base)
    (h : ∀ v' w', OwnEs P e size base w' v' (els ++ [y]) → Below w0.heap.size w0 w' → Cls w' l → w.heap.size ≤ w'.heap.size → w.grownBy w' v.ownBlock → (v'.ownBlock = v.ownBlock ∨ v'.ownBlock = some w.heap.size) → wpList Try.prog ops Q rest (a.put o.dst v') w') :
    wpList Try.prog ops Q (o :: rest) a w := by
  obtain ⟨i0, hi0, hz⟩ := Option.map_eq_some_iff.1 hinf
  simp only [Prod.mk.injEq] at hz
  obtain ⟨cells, hr, hcs⟩ := hown
  have hcl := hr.1
  refine wpList_append_own_at w hgd s x T ho base e i0 z size bytes hT hi0 hz.1 hz.2.1 hz.2.2 hzs hsz v els.length cells hs hr ad 1 m news hx (by omega) hnews h1 ?_ ?_ hbase ?_
  · simp only [maxLen]; omega
  · have := Nat.mul_le_mul_left (els.length + 1) hby
    omega
  · intro v' w' h2 h3 _ h4
    refine h v' w' ⟨cells ++ news, by rw [List.length_append]; exact h2, fun i a ha => ?_⟩ ?_ ?_ h3.size h3 h4
    · have key : ∀ {cs : List Value} {a : α}, P w v.ownBlock cs a → P w' v'.ownBlock cs a := fun hp => by
        rcases h4 with h4 | h4
        · rw [h4]; exact (hP.grown hp h3).1
        · rw [h4]; exact (hP.grown hp h3).2
      rcases Nat.lt_or_ge i els.length with hi | hi
      · rw [List.getElem?_append_left hi] at ha
        have hle : i * size + size ≤ els.length * size := by
          have := Nat.mul_le_mul_right size (show i + 1 ≤ els.length from hi)
          rw [Nat.succ_mul] at this; exact this
        have e1 : ((cells ++ news).drop (i * size)).take size = (cells.drop (i * size)).take size := by
          rw [List.drop_append_of_le_length (by omega), List.take_append_of_le_length (by rw [List.length_drop]; omega)]
        rw [e1]
        exact key (hcs i a ha)
      · have hie : i = els.length := by
          have := (List.getElem?_eq_some_iff.1 ha).1
          rw [List.length_append] at this
          simp at this; omega
        subst hie
        rw [List.getElem?_append_right (Nat.le_refl _)] at ha
        simp at ha
        subst ha
        have e1 : ((cells ++ news).drop (els.length * size)).take size = news := by
          rw [← hcl, List.drop_left, List.take_of_length_le (by omega)]
        rw [e1]
        exact key hy
    · exact hB.grown h3 (Nat.le_trans h0 hbase) (fun k hk => Nat.le_trans h0 (hr.lt k hk).1)
    · exact hC.grown hr h3 hl
end

theorem OwnI.blk_ {base n c : Nat} {w : World} {A : Option Addr} {xs : List Int} (h : OwnI base w (.slice A n c) xs) : ∀ ad, A = some ad → base ≤ ad.block ∧ ad.block < w.heap.size := fun ad e => by
  subst e
  exact h.lt ad.block rfl
theorem cells_one {w : World} {ad : Addr} {v : Value} (h : w.cell? ad = some v) : ∀ j u, [v][j]? = some u → w.cell? (ad.add j) = some u := fun j u hu => by
  cases j with
  | zero => simp at hu; subst hu; exact h
  | succ j => simp at hu
theorem cells_two {w : World} {g : Nat} {v u : Value} (h : w.cell? ⟨g, 0, none⟩ = some v) (h1 : w.cell? ⟨g, 1, none⟩ = some u) : ∀ j x, [v, u][j]? = some x → w.cell? ((⟨g, 0, none⟩ : Addr).add j) = some x := fun j x hx => by
  cases j with
  | zero => simp at hx; subst hx; exact h
  | succ j =>
    cases j with
    | zero => simp at hx; subst hx; exact h1
    | succ j => simp at hx
/-- A cell that leads to a list of integers. -/
def PList (B : Nat) (w : World) (row : Option Nat) (cs : List Value) (r : List Int) : Prop :=
  ∃ A c, cs = [.slice A r.length c] ∧ Ints w A r ∧ (A = none → r = [] ∧ c = 0) ∧ r.length ≤ c ∧ c ≤ 9223372036854775807 ∧ ∀ ad, A = some ad → some ad.block ≠ row ∧ ad.block < w.heap.size ∧ B ≤ ad.block
theorem Ints.grown {w w' : World} {A : Option Addr} {xs : List Int} {row : Option Nat} (h : Ints w A xs) (hg : w.grownBy w' row) (hne : ∀ ad, A = some ad → some ad.block ≠ row) : Ints w' A xs := fun j u hu => by
  obtain ⟨ad, e, hc⟩ := h j u hu
  exact ⟨ad, e, hg.cell hc (by rw [add_block]; exact hne ad e)⟩
theorem plist_stable (B : Nat) : Stable (PList B) := by
  constructor
  · rintro w w' row cs r ⟨A, c, e, hI, hn, h1, h2, ha⟩ hb
    exact ⟨A, c, e, hI.below hb, hn, h1, h2, fun ad h => ⟨(ha ad h).1, Nat.lt_of_lt_of_le (ha ad h).2.1 hb.size, (ha ad h).2.2⟩⟩
  · rintro w w' row cs r ⟨A, c, e, hI, hn, h1, h2, ha⟩ hg
    have hI' := hI.grown hg (fun ad h => (ha ad h).1)
    exact ⟨⟨A, c, e, hI', hn, h1, h2, fun ad h => ⟨(ha ad h).1, Nat.lt_of_lt_of_le (ha ad h).2.1 hg.size, (ha ad h).2.2⟩⟩,
      ⟨A, c, e, hI', hn, h1, h2, fun ad h => ⟨fun e => by injection e with e; have := (ha ad h).2.1; omega, Nat.lt_of_lt_of_le (ha ad h).2.1 hg.size, (ha ad h).2.2⟩⟩⟩
theorem Ints.far {w : World} {A : Option Addr} {xs : List Int} (h : Ints w A xs) {p : Addr} (hp : ∀ ad, A = some ad → ad.block ≠ p.block) (u : Value) : Ints (w.setCell p u) A xs := fun j x hx => by
  obtain ⟨ad, e, hc⟩ := h j x hx
  refine ⟨ad, e, ?_⟩
  rw [World.cell?_setCell_other w p (ad.add j) u (fun k => hp ad e (by rw [k, add_block]))]
  exact hc
theorem plist_far {B : Nat} {w : World} {row : Option Nat} {cs : List Value} {r : List Int} {p : Addr} {u : Value} (h : PList B w row cs r) (hp : p.block < B) : PList B (w.setCell p u) row cs r := by
  obtain ⟨A, c, e, hI, hn, h1, h2, ha⟩ := h
  refine ⟨A, c, e, hI.far (fun ad h => by have := (ha ad h).2.2; omega) u, hn, h1, h2, fun ad h => ⟨(ha ad h).1, ?_, (ha ad h).2.2⟩⟩
  have := (ha ad h).2.1
  simpa using this
/-- An own list, seen as an element. -/
theorem plist_of {B base : Nat} {w : World} {v : Value} {r : List Int} {row : Option Nat} (h : OwnI base w v r) (hB : B ≤ base) (hr : ∀ k, row = some k → k < base) : PList B w row [v] r := by
  obtain ⟨A, c, rfl, hn, hI⟩ := h.form
  refine ⟨A, c, rfl, hI, hn, h.cap_le, h.cap_max, fun ad e => ?_⟩
  subst e
  have := h.blk_ _ rfl
  exact ⟨fun e => by have := hr _ e.symm; omega, this.2, by omega⟩
/-- A list of lists of the call's own. -/
def OwnLL (base : Nat) (w : World) (v : Value) (rows : List (List Int)) : Prop := OwnEs (PList base) 22 1 base w v rows
theorem OwnLL.far {base : Nat} {w : World} {v : Value} {rows : List (List Int)} (h : OwnLL base w v rows) {p : Addr} (hp : p.block < base) (u : Value) : OwnLL base (w.setCell p u) v rows :=
  OwnEs.far h (fun h hp => plist_far h hp) hp u
theorem OwnLL.below {base : Nat} {w w' : World} {v : Value} {rows : List (List Int)} (h : OwnLL base w v rows) (hb : Below w.heap.size w w') : OwnLL base w' v rows := OwnEs.below (plist_stable _) h hb
theorem info_list : (Try.prog.info? 22).map (fun i => (i.zero, i.size, i.bytes)) = some (some (.slice none 0 0), 1, 24) := by kernel_rfl
/-- A pair of numbers. -/
def PPair (w : World) (row : Option Nat) (cs : List Value) (p : Int × Int) : Prop := cs = [.int .i64 p.1, .int .i64 p.2]
theorem ppair_stable : Stable PPair := ⟨fun h _ => h, fun h _ => ⟨h, h⟩⟩
theorem Arr.grown {w w' : World} {g : Nat} {e : TypeId} {xs : List Value} {row : Option Nat} (h : Arr w g e xs) (hg : w.grownBy w' row) (hne : row ≠ some g) : Arr w' g e xs := (hg.block g h.lt (fun e => hne e.symm)).trans h

/-- A list of pairs of the call's own. -/
def OwnPP (base : Nat) (w : World) (v : Value) (ps : List (Int × Int)) : Prop := OwnEs PPair 54 2 base w v ps
theorem OwnPP.far {base : Nat} {w : World} {v : Value} {ps : List (Int × Int)} (h : OwnPP base w v ps) {p : Addr} (hp : p.block < base) (u : Value) : OwnPP base (w.setCell p u) v ps :=
  OwnEs.far h (fun h _ => h) hp u
theorem OwnPP.below {base : Nat} {w w' : World} {v : Value} {ps : List (Int × Int)} (h : OwnPP base w v ps) (hb : Below w.heap.size w w') : OwnPP base w' v ps := OwnEs.below ppair_stable h hb
theorem info_pair : (Try.prog.info? 54).map (fun i => (i.zero, i.size, i.bytes)) = some (some (.agg #[.int .i64 0, .int .i64 0]), 2, 16) := by kernel_rfl

end Go.Proofs.Ytiaokmofoaeifaa
