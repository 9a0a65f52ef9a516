/-
  Lists and operators in memory of their own.
-/
import Derived.Test.YtihkgdlanfemcaaZMA
import Derived.Test.YtihkgdlanfemcaaZME
import Derived.Deep.AppendLies
namespace Go.Proofs.Ytihkgdlanfemcaa
open Go.RowKit
set_option linter.unusedVariables false
set_option linter.unusedSimpArgs false

/-- An operator in memory: three lists of its own and a cost. -/
def POp (B : Nat) (w : World) (row : Option Nat) (cs : List Value) (o : OpV) : Prop :=
  ∃ A0 c0 A1 c1 A2 c2, cs = [.slice A0 o.pre.length c0, .slice A1 o.add.length c1, .slice A2 o.del.length c2, .int .i64 o.cost] ∧ PList B w row [.slice A0 o.pre.length c0] o.pre ∧ PList B w row [.slice A1 o.add.length c1] o.add ∧ PList B w row [.slice A2 o.del.length c2] o.del
theorem pop_stable (B : Nat) : Stable (POp B) := by
  constructor
  · rintro w w' row cs o ⟨A0, c0, A1, c1, A2, c2, e, h0, h1, h2⟩ hb
    exact ⟨A0, c0, A1, c1, A2, c2, e, (plist_stable B).below h0 hb, (plist_stable B).below h1 hb, (plist_stable B).below h2 hb⟩
  · rintro w w' row cs o ⟨A0, c0, A1, c1, A2, c2, e, h0, h1, h2⟩ hg
    exact ⟨⟨A0, c0, A1, c1, A2, c2, e, ((plist_stable B).grown h0 hg).1, ((plist_stable B).grown h1 hg).1, ((plist_stable B).grown h2 hg).1⟩, ⟨A0, c0, A1, c1, A2, c2, e, ((plist_stable B).grown h0 hg).2, ((plist_stable B).grown h1 hg).2, ((plist_stable B).grown h2 hg).2⟩⟩
def OwnOps (base : Nat) (w : World) (v : Value) (ops : List OpV) : Prop := OwnEs (POp base) 61 4 base w v ops
theorem OwnOps.far {base : Nat} {w : World} {v : Value} {ops : List OpV} (h : OwnOps base w v ops) {p : Addr} (hp : p.block < base) (u : Value) : OwnOps base (w.setCell p u) v ops :=
  OwnEs.far h (fun h hp => by obtain ⟨A0, c0, A1, c1, A2, c2, e, h0, h1, h2⟩ := h; exact ⟨A0, c0, A1, c1, A2, c2, e, plist_far h0 hp, plist_far h1 hp, plist_far h2 hp⟩) hp u
theorem OwnOps.below {base : Nat} {w w' : World} {v : Value} {ops : List OpV} (h : OwnOps base w v ops) (hb : Below w.heap.size w w') : OwnOps base w' v ops := OwnEs.below (pop_stable _) h hb
theorem OwnOps.drew {base : Nat} {w : World} {v : Value} {ops : List OpV} (h : OwnOps base w v ops) : OwnOps base w.drew v ops := h.below (bdrew (Below.refl _ _))
theorem info_op : (Try.prog.info? 61).map (fun i => (i.zero, i.size, i.bytes)) = some (some (.agg #[.slice none 0 0, .slice none 0 0, .slice none 0 0, .int .i64 0]), 4, 80) := by kernel_rfl
theorem plist_mono {B B' : Nat} {w : World} {row : Option Nat} {cs : List Value} {r : List Int} (h : PList B w row cs r) (hb : B' ≤ B) : PList B' w row cs r := by
  obtain ⟨A, c, e, hI, hn, h1, h2, h3⟩ := h
  exact ⟨A, c, e, hI, hn, h1, h2, fun ad he => ⟨(h3 ad he).1, (h3 ad he).2.1, by have := (h3 ad he).2.2; omega⟩⟩
theorem OwnOps.mono {base base' : Nat} {w : World} {v : Value} {ops : List OpV} (h : OwnOps base w v ops) (hb : base' ≤ base) : OwnOps base' w v ops := by
  obtain ⟨cells, h1, h2⟩ := OwnEs.mono h hb
  exact ⟨cells, h1, fun i a ha => by
    obtain ⟨A0, c0, A1, c1, A2, c2, e, h3, h4, h5⟩ := h2 i a ha
    exact ⟨A0, c0, A1, c1, A2, c2, e, plist_mono h3 hb, plist_mono h4 hb, plist_mono h5 hb⟩⟩
/-- The operators, as a task's. -/
theorem OwnOps.at_ {base n c : Nat} {w : World} {A : Option Addr} {ops : List OpV} (h : OwnOps base w (.slice A n c) ops) (hl : ∀ o ∈ ops, lenOk o.pre.length ∧ lenOk o.add.length ∧ lenOk o.del.length) : OpsAt w A ops := fun k o hk => by
  have hlt := (List.getElem?_eq_some_iff.1 hk).1
  obtain ⟨g, cs, a, rfl, _, _, ha, hcl, hc, A0, c0, A1, c1, A2, c2, e, h0, h1, h2⟩ := OwnEs.at_ h (i := k) hlt
  have : o = a := by have := ha.out; rw [hk] at this; injection this
  subst this
  subst e
  have hadd : (⟨g, 0, none⟩ : Addr).add (k * 4) = ⟨g, k * 4, none⟩ := by
    unfold Addr.add
    split
    · rename_i hj; rw [hj]
    · simp
  have hf : ∀ {A : Option Addr} {c : Nat} {xs : List Int}, PList base w (some g) [.slice A xs.length c] xs → Ints w A xs := fun h => by
    obtain ⟨A', c', e, hI, _⟩ := h
    injection e with e
    injection e with e1 e2 e3
    rw [e1]; exact hI
  have hlo := hl o (List.mem_of_getElem? hk)
  refine ⟨⟨g, 0, none⟩, A0, c0, A1, c1, A2, c2, rfl, ?_, ?_, ?_, ?_, ⟨hf h0, hf h1, hf h2, hlo.1, hlo.2.1, hlo.2.2⟩⟩
  · rw [hadd]; exact hc 0 _ rfl
  · rw [hadd]; exact hc 1 _ rfl
  · rw [hadd]; exact hc 2 _ rfl
  · rw [hadd]; exact hc 3 _ rfl
section
variable {α : Type} {P : World → Option Nat → List Value → α → Prop} {e : TypeId} {size base : Nat} {w : World} {v : Value} {els : List α}
set_option maxRecDepth 100000 in
/-- append(v, x) of one element, as a step of a region that draws. -/
theorem step_el (hP : Stable P) (T : TypeId) (bytes : Nat) (z : Value) (hT : Try.prog.underlying T = some (.slice e)) (hinf : (Try.prog.info? e).map (fun i => (i.zero, i.size, i.bytes)) = some (some z, size, bytes)) (hzs : z.cells.size = size) (hsz : 0 < size) (hby : bytes ≤ 128)
    {ops : Array Oper} {o : Oper} {a : Act} {K : Act → World → Prop} {Q : Exit → Act → World → Prop} {E : Prop} (hgd : o.guard = none) (s x : Operand)
    (ho : o.op = .call { callee := .builtin .append, args := #[s, x], argTypes := #[T, T] })
    (w0 : World) (l : List (Nat × Nat × Value)) (hs : a.eval s = v) (hown : OwnEs P e size base w v els) (ad : Addr) (m : Nat) (hx : a.eval x = .slice (some ad) 1 m) (news : List Value) (y : α) (hnl : news.length = size) (hnews : ∀ j u, news[j]? = some u → w.cell? (ad.add j) = some u) (h1 : ∀ u ∈ news, u.oneCell' = true) (hy : P w v.ownBlock news y)
    (hlen : els.length < 1000000000000) (hbase : base ≤ w.heap.size) (h0 : w0.heap.size ≤ base) (hB : Below w0.heap.size w0 w) (hC : Cls w l) (hl : ∀ x ∈ l, x.1 < base)
    (h : ∀ g cap w', OwnEs P e size base w' (.slice (some ⟨g, 0, none⟩) (els.length + 1) cap) (els ++ [y]) → Below w0.heap.size w0 w' → Cls w' l → w.heap.size ≤ w'.heap.size → w.grownBy w' v.ownBlock → K (a.put o.dst (.slice (some ⟨g, 0, none⟩) (els.length + 1) cap)) w') :
    if Region.wanted o (yielded ops a.tmps) = true then Oper.wp Try.prog o a w K Q else E := by
  obtain ⟨i0, hi0, hz⟩ := Option.map_eq_some_iff.1 hinf
  simp only [Prod.mk.injEq] at hz
  obtain ⟨cells, hr, hcs⟩ := hown
  have hcl := hr.1
  refine step_append_lies w hgd s x T ho base e i0 z size bytes hT hi0 hz.1 hz.2.1 hz.2.2 hzs hsz v els.length cells hs hr ad 1 m news hx (by omega) hnews h1 (by decide) ?_ ?_ hbase _ rfl ?_
  · simp only [maxLen]; omega
  · have := Nat.mul_le_mul_left (els.length + 1) hby
    omega
  · intro g cap w' h2 h3 h4 h5
    refine h g cap w' ⟨cells ++ news, by rw [List.length_append]; exact h2, fun i a ha => ?_⟩ ?_ ?_ h3.size h3
    · have key : ∀ {cs : List Value} {a : α}, P w v.ownBlock cs a → P w' (some g) cs a := fun hp => by
        rcases h4 with h4 | h4
        · rw [← h4]; exact (hP.grown hp h3).1
        · rw [h4]; exact (hP.grown hp h3).2
      rcases Nat.lt_or_ge i els.length with hi | hi
      · rw [List.getElem?_append_left hi] at ha
        have hle : i * size + size ≤ els.length * size := by
          have := Nat.mul_le_mul_right size (show i + 1 ≤ els.length from hi)
          rw [Nat.succ_mul] at this; exact this
        have e1 : ((cells ++ news).drop (i * size)).take size = (cells.drop (i * size)).take size := by
          rw [List.drop_append_of_le_length (by omega), List.take_append_of_le_length (by rw [List.length_drop]; omega)]
        rw [e1]
        exact key (hcs i a ha)
      · have hie : i = els.length := by
          have := (List.getElem?_eq_some_iff.1 ha).1
          rw [List.length_append] at this
          simp at this; omega
        subst hie
        rw [List.getElem?_append_right (Nat.le_refl _)] at ha
        simp at ha
        subst ha
        have e1 : ((cells ++ news).drop (els.length * size)).take size = news := by
          rw [← hcl, List.drop_left, List.take_of_length_le (by omega)]
        rw [e1]
        exact key hy
    · exact hB.grown h3 (Nat.le_trans h0 hbase) (fun k hk => Nat.le_trans h0 (hr.lt k hk).1)
    · exact hC.grown hr h3 hl
end
theorem Fresh.away {B : Nat} {w : World} {A : Option Addr} {c : Nat} {xs : List Int} (h : Fresh B w A c xs) {p : Addr} (hp : ∀ ad, A = some ad → ad.block ≠ p.block) (u : Value) : Fresh B (w.setCell p u) A c xs := by
  obtain ⟨A', c', e, hI, hn, h1, h2, h3⟩ := h
  injection e with e
  injection e with e1 e2 e3
  subst e1; subst e3
  exact ⟨A, c, rfl, hI.far hp u, hn, h1, h2, fun ad he => ⟨(h3 ad he).1, by have := (h3 ad he).2.1; simpa using this, (h3 ad he).2.2⟩⟩
theorem Fresh.blk {B : Nat} {w : World} {A : Option Addr} {c : Nat} {xs : List Int} (h : Fresh B w A c xs) : ∀ ad, A = some ad → B ≤ ad.block ∧ ad.block < w.heap.size := by
  obtain ⟨A', c', e, hI, hn, h1, h2, h3⟩ := h
  injection e with e
  injection e with e1 e2 e3
  subst e1
  exact fun ad he => ⟨(h3 ad he).2.2, (h3 ad he).2.1⟩

end Go.Proofs.Ytihkgdlanfemcaa
