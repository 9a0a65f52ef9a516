/-
  The memory of a tableau.
-/
import Derived.Test.YtkepfmglljkjhaaNll
import Derived.Test.YtkepfmglljkjhaaLa8
namespace Go.Proofs.Ytkepfmglljkjhaa
open Go.RowKit
set_option linter.unusedVariables false
set_option linter.unusedSimpArgs false

/-- Where a tableau lies. -/
structure TbLay where
  b : Nat
  gR : Nat
  cR : Nat
  blk : Nat → Nat
  AB : Option Addr
  cB : Nat
def tbRow (N : Nat) (f : Nat → Int) : List Int := (List.range N).map f
theorem tbRow_len (N : Nat) (f : Nat → Int) : (tbRow N f).length = N := by unfold tbRow; rw [List.length_map, List.length_range]
theorem tbRow_at {N j : Nat} (f : Nat → Int) (h : j < N) : (tbRow N f)[j]? = some (f j) := by
  unfold tbRow; rw [List.getElem?_map, List.getElem?_range h]; rfl
theorem tbRow_set {N j : Nat} (f : Nat → Int) (x : Int) : (tbRow N f).set j x = tbRow N fun k => if k = j then x else f k := by
  apply List.ext_getElem?
  intro i
  rw [List.getElem?_set]
  unfold tbRow
  rw [List.length_map, List.length_range, List.getElem?_map, List.getElem?_map]
  rcases Nat.lt_or_ge i N with h | h
  · rw [List.getElem?_range h]
    by_cases e : j = i
    · subst e; simp [h]
    · rw [if_neg e]; simp [Ne.symm e]
  · rw [List.getElem?_eq_none (by rw [List.length_range]; exact h)]
    by_cases e : j = i
    · subst e; simp; omega
    · rw [if_neg e]; rfl
theorem tbRow_congr {N : Nat} {f g : Nat → Int} (h : ∀ j, j < N → f j = g j) : tbRow N f = tbRow N g := by
  unfold tbRow
  exact List.map_congr_left fun j hj => h j (List.mem_range.1 hj)
def tbBas (m : Nat) (bs : Nat → Nat) : List Int := tbRow m fun i => (bs i : Int)
structure TbMem (base : Nat) (w : World) (L : TbLay) (m N : Nat) (bs : Nat → Nat) (T : Nat → Nat → Int) (den : Int) : Prop where
  box0 : w.cell? ⟨L.b, 0, none⟩ = some (.slice (some ⟨L.gR, 0, none⟩) (m + 2) L.cR)
  box1 : w.cell? ⟨L.b, 1, none⟩ = some (.slice L.AB m L.cB)
  box2 : w.cell? ⟨L.b, 2, none⟩ = some (.int .i64 den)
  free2 : w.frozen? ⟨L.b, 2, none⟩ = false
  out : ∀ i, i < m + 2 → w.cell? ⟨L.gR, i, none⟩ = some (.slice (some ⟨L.blk i, 0, none⟩) N N)
  row : ∀ i, i < m + 2 → IArr w (L.blk i) (tbRow N (T i))
  basis : OwnI base w (.slice L.AB m L.cB) (tbBas m bs)
  sep : ∀ i, i < m + 2 → base ≤ L.blk i ∧ L.blk i ≠ L.b ∧ L.blk i ≠ L.gR ∧ ∀ ad, L.AB = some ad → ad.block ≠ L.blk i
  inj : ∀ i k, i < m + 2 → k < m + 2 → i ≠ k → L.blk i ≠ L.blk k
  sepB : base ≤ L.b ∧ base ≤ L.gR ∧ L.b ≠ L.gR ∧ ∀ ad, L.AB = some ad → ad.block ≠ L.b ∧ ad.block ≠ L.gR
section
variable {base m N : Nat} {w w' : World} {L : TbLay} {bs : Nat → Nat} {T : Nat → Nat → Int} {den : Int}
theorem TbMem.below (h : TbMem base w L m N bs T den) (hb : Below w.heap.size w w') : TbMem base w' L m N bs T den :=
  { box0 := (hb.cell (World.block_lt_of_cell? w _ h.box0)).trans h.box0
    box1 := (hb.cell (World.block_lt_of_cell? w _ h.box1)).trans h.box1
    box2 := (hb.cell (World.block_lt_of_cell? w _ h.box2)).trans h.box2
    free2 := (hb.frozen (World.block_lt_of_cell? w _ h.box2)).trans h.free2
    out := fun i hi => (hb.cell (World.block_lt_of_cell? w _ (h.out i hi))).trans (h.out i hi)
    row := fun i hi => (h.row i hi).below hb
    basis := h.basis.below hb
    sep := h.sep, inj := h.inj, sepB := h.sepB }
theorem TbMem.cell (h : TbMem base w L m N bs T den) {i j : Nat} (hi : i < m + 2) (hj : j < N) : w.cell? ⟨L.blk i, j, none⟩ = some (.int .i64 (T i j)) ∧ w.frozen? ⟨L.blk i, j, none⟩ = false := by
  obtain ⟨x, hx, hc, hf⟩ := (h.row i hi).cell (i := j) (by rw [tbRow_len]; exact hj)
  have := hx.out
  rw [tbRow_at _ hj] at this
  injection this with this
  subst this
  exact ⟨hc, hf⟩
theorem OwnI.apart {base : Nat} {w : World} {v : Value} {xs : List Int} (h : OwnI base w v xs) {p : Addr} (hp : v.ownBlock ≠ some p.block) (u : Value) : OwnI base (w.setCell p u) v xs := by
  obtain ⟨h1, h2⟩ := h
  refine ⟨h1, ?_⟩
  rcases h2 with h2 | ⟨g, cap, cur, hv, hg, hh, r⟩
  · exact Or.inl h2
  · exact Or.inr ⟨g, cap, cur, hv, hg, (Below.heap_setCell w p u g (fun e => hp (by rw [hv, e]; rfl))).trans hh, r⟩
/-- An entry is written. -/
theorem TbMem.set (h : TbMem base w L m N bs T den) {i j : Nat} (hi : i < m + 2) (x : Int) {T' : Nat → Nat → Int} (hT : ∀ a, a < m + 2 → ∀ c, c < N → T' a c = if a = i ∧ c = j then x else T a c) :
    TbMem base (w.setCell ⟨L.blk i, j, none⟩ (.int .i64 x)) L m N bs T' den := by
  obtain ⟨s1, s2, s3, s4⟩ := h.sep i hi
  have hne : ∀ {p : Addr} {v : Value}, p.block ≠ L.blk i → w.cell? p = some v → (w.setCell ⟨L.blk i, j, none⟩ (.int .i64 x)).cell? p = some v := fun {p v} hp hc => by
    rw [World.cell?_setCell_other w _ p _ (fun e => hp (by rw [← e]))]; exact hc
  refine { box0 := hne (Ne.symm s2) h.box0, box1 := hne (Ne.symm s2) h.box1, box2 := hne (Ne.symm s2) h.box2, free2 := by rw [World.frozen?_setCell]; exact h.free2, out := fun k hk => hne (Ne.symm s3) (h.out k hk), row := fun k hk => ?_, basis := ?_, sep := h.sep, inj := h.inj, sepB := h.sepB }
  · by_cases e : k = i
    · subst e
      have h1 := (h.row k hk).set_ j x
      rw [tbRow_set] at h1
      rw [tbRow_congr (g := fun c => if c = j then x else T k c) fun c hc => by rw [hT k hk c hc]; simp]
      exact h1
    · rw [tbRow_congr (g := T k) fun c hc => by rw [hT k hk c hc]; simp [e]]
      exact (h.row k hk).far (h.inj i k hi hk (Ne.symm e)) _
  · refine OwnI.apart h.basis (fun e => ?_) _
    cases hA : L.AB with
    | none => rw [hA] at e; cases e
    | some ad =>
      rw [hA] at e
      have e2 : ad.block = L.blk i := by simpa [Value.ownBlock] using e
      exact s4 ad hA e2
/-- The common denominator is written. -/
theorem TbMem.setDen (h : TbMem base w L m N bs T den) (x : Int) : TbMem base (w.setCell ⟨L.b, 2, none⟩ (.int .i64 x)) L m N bs T x := by
  obtain ⟨t1, t2, t3, t4⟩ := h.sepB
  have hoff : ∀ {k : Nat} {v : Value}, k ≠ 2 → w.cell? ⟨L.b, k, none⟩ = some v → (w.setCell ⟨L.b, 2, none⟩ (.int .i64 x)).cell? ⟨L.b, k, none⟩ = some v := fun {k v} hk hc => by
    rw [World.cell?_setCell_other w _ _ _ (fun e => hk (by injection e with _ e _; exact e.symm))]; exact hc
  refine { box0 := hoff (by omega) h.box0, box1 := hoff (by omega) h.box1, box2 := World.cell?_setCell_same w _ _ h.box2, free2 := by rw [World.frozen?_setCell]; exact h.free2, out := fun k hk => ?_, row := fun k hk => (h.row k hk).far (Ne.symm (h.sep k hk).2.1) _, basis := ?_, sep := h.sep, inj := h.inj, sepB := h.sepB }
  · rw [World.cell?_setCell_other w _ _ _ (fun e => t3 (by injection e))]; exact h.out k hk
  · refine OwnI.apart h.basis (fun e => ?_) _
    cases hA : L.AB with
    | none => rw [hA] at e; cases e
    | some ad =>
      rw [hA] at e
      have e2 : ad.block = L.b := by simpa [Value.ownBlock] using e
      exact (t4 ad hA).1 e2
/-- A variable of the basis is written. -/
theorem TbMem.setBas (h : TbMem base w L m N bs T den) {g r : Nat} (hA : L.AB = some ⟨g, 0, none⟩) (c : Nat) :
    TbMem base (w.setCell ⟨g, r, none⟩ (.int .i64 c)) L m N (LA.pivB bs r c) T den := by
  obtain ⟨t1, t2, t3, t4⟩ := h.sepB
  have hb := (t4 _ hA).1
  have hg := (t4 _ hA).2
  have hne : ∀ {p : Addr} {v : Value}, p.block ≠ g → w.cell? p = some v → (w.setCell ⟨g, r, none⟩ (.int .i64 c)).cell? p = some v := fun {p v} hp hc => by
    rw [World.cell?_setCell_other w _ p _ (fun e => hp (by rw [← e]))]; exact hc
  refine { box0 := hne (Ne.symm hb) h.box0, box1 := hne (Ne.symm hb) h.box1, box2 := hne (Ne.symm hb) h.box2, free2 := by rw [World.frozen?_setCell]; exact h.free2, out := fun k hk => hne (Ne.symm hg) (h.out k hk), row := fun k hk => (h.row k hk).far (p := ⟨g, r, none⟩) (show g ≠ L.blk k from (h.sep k hk).2.2.2 _ hA) _, basis := ?_, sep := h.sep, inj := h.inj, sepB := h.sepB }
  have h1 := h.basis
  rw [hA] at h1 ⊢
  have h2 := h1.set_ (by unfold tbBas; rw [tbRow_len]) r (c : Int)
  have e : (tbBas m bs).set r (c : Int) = tbBas m (LA.pivB bs r c) := by
    unfold tbBas
    rw [tbRow_set]
    exact tbRow_congr fun j _ => by unfold LA.pivB; split <;> rfl
  rw [e] at h2
  exact h2
theorem TbMem.bas (h : TbMem base w L m N bs T den) {i : Nat} (hi : i < m) : ∃ g, L.AB = some ⟨g, 0, none⟩ ∧ base ≤ g ∧ g < w.heap.size ∧ w.cell? ⟨g, i, none⟩ = some (.int .i64 (bs i)) ∧ w.frozen? ⟨g, i, none⟩ = false := by
  have hb := h.basis
  obtain ⟨g, x, hA, h1, h2, h3, h4, h5⟩ := hb.at_ (k := i) (by unfold tbBas; rw [tbRow_len]; exact hi)
  have := h3.out
  unfold tbBas at this
  rw [tbRow_at _ hi] at this
  injection this with this
  subst this
  exact ⟨g, hA, h1, h2, h4, h5⟩
theorem TbMem.congr (h : TbMem base w L m N bs T den) {T' : Nat → Nat → Int} {bs' : Nat → Nat} (hb : ∀ i, i < m → bs' i = bs i) (hT : ∀ a, a < m + 2 → ∀ c, c < N → T' a c = T a c) : TbMem base w L m N bs' T' den :=
  { h with
    row := fun i hi => by rw [tbRow_congr (g := T i) fun c hc => hT i hi c hc]; exact h.row i hi
    basis := by
      have e : tbBas m bs' = tbBas m bs := tbRow_congr fun i hi => by rw [hb i hi]
      rw [e]; exact h.basis }
end

end Go.Proofs.Ytkepfmglljkjhaa
