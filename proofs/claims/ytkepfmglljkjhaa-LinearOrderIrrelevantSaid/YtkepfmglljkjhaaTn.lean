/-
  The rows of a tableau while it is made.
-/
import Derived.Test.YtkepfmglljkjhaaTb5
import Derived.Laws.CopyOwn
namespace Go.Proofs.Ytkepfmglljkjhaa
open Go.RowKit
set_option linter.unusedVariables false
set_option linter.unusedSimpArgs false

set_option maxRecDepth 100000 in
/-- append(v, x...) of elements whose cells lie at ad. -/
theorem wpList_els {α : Type} {P : World → Option Nat → List Value → α → Prop} {e : TypeId} {size base : Nat} {w : World} {v : Value} {els : List α} (hP : Stable P) (T : TypeId) (bytes : Nat) (z : Value) (hT : Try.prog.underlying T = some (.slice e)) (hinf : (Try.prog.info? e).map (fun i => (i.zero, i.size, i.bytes)) = some (some z, size, bytes)) (hzs : z.cells.size = size) (hsz : 0 < size) (hby : bytes ≤ 64)
    {ops : Array Oper} {rest : List Oper} {o : Oper} {a : Act} {Q : Exit → Act → World → Prop} (hgd : o.guard = none) (s x : Operand)
    (ho : o.op = .call { callee := .builtin .append, args := #[s, x], argTypes := #[T, T] })
    (w0 : World) (l : List (Nat × Nat × Value)) (hs : a.eval s = v) (hown : OwnEs P e size base w v els) (ad : Addr) (k m : Nat) (hx : a.eval x = .slice (some ad) k m) (news : List Value) (ys : List α) (hyl : ys.length = k) (hnl : news.length = k * size) (hnews : ∀ j u, news[j]? = some u → w.cell? (ad.add j) = some u) (h1 : ∀ u ∈ news, u.oneCell' = true) (hy : ∀ i y, ys[i]? = some y → P w v.ownBlock ((news.drop (i * size)).take size) y)
    (hlen : els.length < 1000000000000) (hk : k < 1000000) (hbase : base ≤ w.heap.size) (h0 : w0.heap.size ≤ base) (hB : Below w0.heap.size w0 w) (hC : Cls w l) (hl : ∀ x ∈ l, x.1 < base)
    (h : ∀ v' w', OwnEs P e size base w' v' (els ++ ys) → Below w0.heap.size w0 w' → Cls w' l → w.heap.size ≤ w'.heap.size → w.grownBy w' v.ownBlock → (v'.ownBlock = v.ownBlock ∨ v'.ownBlock = some w.heap.size) → wpList Try.prog ops Q rest (a.put o.dst v') w') :
    wpList Try.prog ops Q (o :: rest) a w := by
  obtain ⟨i0, hi0, hz⟩ := Option.map_eq_some_iff.1 hinf
  simp only [Prod.mk.injEq] at hz
  obtain ⟨cells, hr, hcs⟩ := hown
  have hcl := hr.1
  refine wpList_append_own_at w hgd s x T ho base e i0 z size bytes hT hi0 hz.1 hz.2.1 hz.2.2 hzs hsz v els.length cells hs hr ad k m news hx hnl hnews h1 ?_ ?_ hbase ?_
  · simp only [maxLen]; omega
  · have := Nat.mul_le_mul_left (els.length + k) hby
    omega
  · intro v' w' h2 h3 _ h4
    refine h v' w' ⟨cells ++ news, by rw [List.length_append, hyl]; exact h2, fun i a ha => ?_⟩ ?_ ?_ h3.size h3 h4
    · have key : ∀ {cs : List Value} {a : α}, P w v.ownBlock cs a → P w' v'.ownBlock cs a := fun hp => by
        rcases h4 with h4 | h4
        · rw [h4]; exact (hP.grown hp h3).1
        · rw [h4]; exact (hP.grown hp h3).2
      rcases Nat.lt_or_ge i els.length with hi | hi
      · rw [List.getElem?_append_left hi] at ha
        have hle : i * size + size ≤ els.length * size := by
          have := Nat.mul_le_mul_right size (show i + 1 ≤ els.length from hi)
          rw [Nat.succ_mul] at this; exact this
        have e1 : ((cells ++ news).drop (i * size)).take size = (cells.drop (i * size)).take size := by
          rw [List.drop_append_of_le_length (by omega), List.take_append_of_le_length (by rw [List.length_drop]; omega)]
        rw [e1]
        exact key (hcs i a ha)
      · rw [List.getElem?_append_right hi] at ha
        have e1 : ((cells ++ news).drop (i * size)).take size = (news.drop ((i - els.length) * size)).take size := by
          have h5 : i * size = cells.length + (i - els.length) * size := by
            rw [hcl, ← Nat.add_mul]; congr 1; omega
          rw [h5, List.drop_length_add_append]
        rw [e1]
        exact key (hy _ _ ha)
    · exact hB.grown h3 (Nat.le_trans h0 hbase) (fun k hk => Nat.le_trans h0 (hr.lt k hk).1)
    · exact hC.grown hr h3 hl
/-- A cell that leads to a row of N numbers in block x.1. -/
def PRw (N base : Nat) (w : World) (row : Option Nat) (cs : List Value) (x : Nat × (Nat → Int)) : Prop :=
  cs = [.slice (some ⟨x.1, 0, none⟩) N N] ∧ IArr w x.1 (tbRow N x.2) ∧ row ≠ some x.1 ∧ base ≤ x.1
theorem prw_stable (N base : Nat) : Stable (PRw N base) := by
  constructor
  · rintro w w' row cs x ⟨e, hI, hn, hb⟩ hB
    exact ⟨e, hI.below hB, hn, hb⟩
  · rintro w w' row cs x ⟨e, hI, hn, hb⟩ hg
    have hI' : IArr w' x.1 (tbRow N x.2) := Arr.grown hI hg hn
    exact ⟨⟨e, hI', hn, hb⟩, ⟨e, hI', fun h => by injection h with h; have := hI.lt; omega, hb⟩⟩
def OwnRw (N base : Nat) (w : World) (v : Value) (els : List (Nat × (Nat → Int))) : Prop := OwnEs (PRw N base) 23 1 base w v els
section
variable {N base : Nat} {w w' : World} {v : Value} {els : List (Nat × (Nat → Int))}
theorem OwnRw.below (h : OwnRw N base w v els) (hb : Below w.heap.size w w') : OwnRw N base w' v els := OwnEs.below (prw_stable _ _) h hb
theorem OwnRw.far (h : OwnRw N base w v els) {p : Addr} (hp : p.block < base) (u : Value) : OwnRw N base (w.setCell p u) v els :=
  OwnEs.far h (fun {w row cs a p u} h hp => ⟨h.1, IArr.far h.2.1 (fun e => by have := h.2.2.2; omega) _, h.2.2.1, h.2.2.2⟩) hp u
theorem OwnRw.other {r : Option Nat} (h : OwnRw N base w v els) (hg : w.grownBy w' r) (h1 : ∀ k, v.ownBlock = some k → r ≠ some k) (h2 : ∀ x ∈ els, r ≠ some x.1) : OwnRw N base w' v els := by
  obtain ⟨cells, ⟨a1, a2⟩, h3⟩ := h
  refine ⟨cells, ⟨a1, ?_⟩, fun i a ha => ?_⟩
  · rcases a2 with a2 | ⟨g, cap, cur, hv, hb, hh, rr⟩
    · exact Or.inl a2
    · refine Or.inr ⟨g, cap, cur, hv, hb, ?_, rr⟩
      have hlt : g < w.heap.size := by
        rcases Nat.lt_or_ge g w.heap.size with hl | hl
        · exact hl
        · rw [Array.getElem?_eq_none hl] at hh; cases hh
      rw [hg.block g hlt (fun e => h1 g (by rw [hv]; rfl) e.symm)]
      exact hh
  · obtain ⟨e, hI, hn, hb⟩ := h3 i a ha
    exact ⟨e, Arr.grown hI hg (h2 a (List.mem_of_getElem? ha)), hn, hb⟩
/-- The blocks of a tableau's rows. -/
theorem OwnRw.tab {m : Nat} {bs : Nat → Nat} {T : Nat → Nat → Int} {b c : Nat} {A : Option Addr} {AB : Option Addr} {cB : Nat} {base0 : Nat} (h : OwnRw N base w (.slice A (m + 2) c) els) (hl : els.length = m + 2)
    (hT : ∀ (i : Nat) (x : Nat × (Nat → Int)), els[i]? = some x → ∀ j, j < N → x.2 j = T i j) (hnd : ∀ (i k : Nat) (x y : Nat × (Nat → Int)), i ≠ k → els[i]? = some x → els[k]? = some y → x.1 ≠ y.1)
    (hb0 : w.cell? ⟨b, 0, none⟩ = some (.slice A (m + 2) c)) (hb1 : w.cell? ⟨b, 1, none⟩ = some (.slice AB m cB)) (hb2 : w.cell? ⟨b, 2, none⟩ = some (.int .i64 1)) (hf : w.frozen? ⟨b, 2, none⟩ = false) (hbb : b < base) (hbb0 : base0 ≤ b)
    (hB : OwnI base w (.slice AB m cB) (tbBas m bs)) (hsep : ∀ ad, AB = some ad → A ≠ some ⟨ad.block, 0, none⟩ ∧ ∀ x ∈ els, ad.block ≠ x.1) :
    ∃ L : TbLay, L.b = b ∧ TbMem base0 w L m N bs T 1 := by
  have h0 : 0 < els.length := by omega
  obtain ⟨gR, _, _, rfl, hgR, hgRl, _⟩ := OwnEs.at_ h (i := 0) h0
  have hel : ∀ i, i < m + 2 → ∃ x, els[i]? = some x := fun i hi => ⟨_, List.getElem?_eq_getElem (by omega)⟩
  have hat : ∀ i x, els[i]? = some x → w.cell? ⟨gR, i, none⟩ = some (.slice (some ⟨x.1, 0, none⟩) N N) ∧ IArr w x.1 (tbRow N x.2) ∧ gR ≠ x.1 ∧ base ≤ x.1 := fun i x hx => by
    obtain ⟨g', cs, a, e, _, _, ha, _, hc, hp⟩ := OwnEs.at_ h (i := i) (List.getElem?_eq_some_iff.1 hx).1
    injection e with e
    injection e with e
    subst e
    have hax : a = x := by have := ha.out; rw [hx] at this; injection this with this; exact this.symm
    subst hax
    obtain ⟨e1, hI, hn, hb⟩ := hp
    subst e1
    have h1 := hc 0 _ rfl
    rw [Nat.mul_one, Nat.add_zero] at h1
    exact ⟨h1, hI, fun e => hn (by rw [e]), hb⟩
  refine ⟨⟨b, gR, c, fun i => ((els[i]?).getD (0, fun _ => 0)).1, AB, cB⟩, rfl, { box0 := hb0, box1 := hb1, box2 := hb2, free2 := hf, out := fun i hi => ?_, row := fun i hi => ?_, basis := OwnI.mono hB (by omega), sep := fun i hi => ?_, inj := fun i k hi hk hne => ?_, sepB := ⟨hbb0, by show base0 ≤ gR; omega, by show b ≠ gR; omega, fun ad hA => ⟨?_, ?_⟩⟩ }⟩
  · obtain ⟨x, hx⟩ := hel i hi
    show w.cell? ⟨gR, i, none⟩ = some (.slice (some ⟨((els[i]?).getD (0, fun _ => 0)).1, 0, none⟩) N N)
    rw [hx]; exact (hat i x hx).1
  · obtain ⟨x, hx⟩ := hel i hi
    show IArr w ((els[i]?).getD (0, fun _ => 0)).1 _
    rw [hx, tbRow_congr (g := x.2) fun j hj => (hT i x hx j hj).symm]
    exact (hat i x hx).2.1
  · obtain ⟨x, hx⟩ := hel i hi
    show base0 ≤ ((els[i]?).getD (0, fun _ => 0)).1 ∧ ((els[i]?).getD (0, fun _ => 0)).1 ≠ b ∧ ((els[i]?).getD (0, fun _ => 0)).1 ≠ gR ∧ ∀ ad, AB = some ad → ad.block ≠ ((els[i]?).getD (0, fun _ => 0)).1
    rw [hx]
    have h3 := (hat i x hx).2.2
    exact ⟨by have := h3.2; show base0 ≤ x.1; omega, by have := h3.2; show x.1 ≠ b; omega, fun e => h3.1 e.symm, fun ad hA => (hsep ad hA).2 x (List.mem_of_getElem? hx)⟩
  · obtain ⟨x, hx⟩ := hel i hi
    obtain ⟨y, hy⟩ := hel k hk
    show ((els[i]?).getD (0, fun _ => 0)).1 ≠ ((els[k]?).getD (0, fun _ => 0)).1
    rw [hx, hy]
    exact hnd i k x y hne hx hy
  · show ad.block ≠ b
    subst hA
    have := (hB.blk_ ad rfl).1
    omega
  · show ad.block ≠ gR
    intro e
    exact (hsep ad hA).1 (by rw [e])
end

end Go.Proofs.Ytkepfmglljkjhaa
