/-
  Rows of lists that lie anywhere: append of a whole [][]int, of one list; the reading of an argument [][]int with its size.
-/
import Derived.Test.YtkepfmglljkjhaaMA
import Derived.Test.YtkepfmglljkjhaaOpl
import Derived.SizedLaws
namespace Go.Proofs.Ytkepfmglljkjhaa
open Go.Joins Go.ChangeShapes Go.WideShapes Go.RowKit Go.Deep
set_option linter.unusedVariables false
set_option linter.unusedSimpArgs false

/-- A cell that leads to a list of integers, wherever it lies. -/
def PAny (w : World) (row : Option Nat) (cs : List Value) (r : List Int) : Prop :=
  ∃ A c, cs = [.slice A r.length c] ∧ Ints w A r ∧ NilOk A r c ∧ (r ≠ [] → ∀ ad, A = some ad → some ad.block ≠ row)
theorem ints_lt {w : World} {ad : Addr} {r : List Int} (h : Ints w (some ad) r) (hr : r ≠ []) : ad.block < w.heap.size := by
  cases r with
  | nil => exact absurd rfl hr
  | cons x r =>
    obtain ⟨ad', e, hc⟩ := h 0 (.int .i64 x) rfl
    injection e with e
    subst e
    exact World.block_lt_of_cell? w _ hc
theorem Ints.grown2 {w w' : World} {A : Option Addr} {xs : List Int} {row : Option Nat} (h : Ints w A xs) (hg : w.grownBy w' row) (hne : xs ≠ [] → ∀ ad, A = some ad → some ad.block ≠ row) : Ints w' A xs := by
  by_cases e : xs = []
  · subst e; exact Ints.nil _ _
  · exact h.grown hg (hne e)
theorem pany_stable : Stable PAny := by
  constructor
  · rintro w w' row cs r ⟨A, c, e, hI, hn, ha⟩ hb
    exact ⟨A, c, e, hI.below hb, hn, ha⟩
  · rintro w w' row cs r ⟨A, c, e, hI, hn, ha⟩ hg
    have hI' := hI.grown2 hg ha
    refine ⟨⟨A, c, e, hI', hn, ha⟩, ⟨A, c, e, hI', hn, fun hr ad h k => ?_⟩⟩
    subst h
    have := ints_lt hI hr
    injection k with k
    omega
def OwnLA (base : Nat) (w : World) (v : Value) (rows : List (List Int)) : Prop := OwnEs PAny 23 1 base w v rows
theorem OwnLA.below {base : Nat} {w w' : World} {v : Value} {rows : List (List Int)} (h : OwnLA base w v rows) (hb : Below w.heap.size w w') : OwnLA base w' v rows := OwnEs.below pany_stable h hb
theorem OwnLA.read {base n c : Nat} {w : World} {A : Option Addr} {ls : List (List Int)} (h : OwnLA base w (.slice A n c) ls) : RowsRead w A ls := fun i r hr => by
  obtain ⟨g, cs, a, rfl, _, _, ha, _, hc, B, c', rfl, hI, hn, _⟩ := OwnEs.at_ h (i := i) (List.getElem?_eq_some_iff.1 hr).1
  have : a = r := by have := ha.out; rw [hr] at this; injection this with this; exact this.symm
  subst this
  refine ⟨⟨g, 0, none⟩, B, c', rfl, ?_, hI, hn⟩
  have h1 := hc 0 _ rfl
  have e : ((⟨g, 0, none⟩ : Addr).add i) = ⟨g, i, none⟩ := by
    unfold Addr.add; split
    · rename_i hj; subst hj; rfl
    · simp
  rw [e]
  simpa using h1
theorem RowsRead.below {w w' : World} {A : Option Addr} {ls : List (List Int)} (h : RowsRead w A ls) (hb : Below w.heap.size w w') : RowsRead w' A ls := fun i r hr => by
  obtain ⟨ad, B, c, e, h1, h2, h3⟩ := h i r hr
  exact ⟨ad, B, c, e, (hb.cell (World.block_lt_of_cell? w _ h1)).trans h1, h2.below hb, h3⟩
theorem RowsRead.nil (w : World) (A : Option Addr) : RowsRead w A [] := fun i r h => by simp at h
/-- The cells of rows. -/
theorem RowsRead.cells {w : World} {ad : Addr} {ls : List (List Int)} (h : RowsRead w (some ad) ls) : ∃ cs : List Value, cs.length = ls.length ∧ (∀ j u, cs[j]? = some u → w.cell? (ad.add j) = some u) ∧ (∀ u ∈ cs, u.oneCell' = true) ∧
    ∀ (i : Nat) (r : List Int), ls[i]? = some r → ∃ B c, cs[i]? = some (.slice B r.length c) ∧ Ints w B r ∧ NilOk B r c := by
  have each : ∀ i : Nat, ∃ u : Value, ∀ r, ls[i]? = some r → ∃ B c, u = .slice B r.length c ∧ w.cell? (ad.add i) = some u ∧ Ints w B r ∧ NilOk B r c := fun i => by
    cases hi : ls[i]? with
    | none => exact ⟨default, fun r hr => by cases hr⟩
    | some r =>
      obtain ⟨ad', B, c, e, h1, h2, h3⟩ := h i r hi
      injection e with e
      subst e
      exact ⟨.slice B r.length c, fun r' hr => by injection hr with hr; subst hr; exact ⟨B, c, rfl, h1, h2, h3⟩⟩
  obtain ⟨f, hf⟩ := Classical.axiomOfChoice each
  have hat : ∀ (j : Nat) (u : Value), ((List.range ls.length).map f)[j]? = some u → ∃ r, ls[j]? = some r ∧ u = f j := fun j u hu => by
    obtain ⟨hj, rfl⟩ := List.getElem?_eq_some_iff.1 hu
    rw [List.length_map, List.length_range] at hj
    exact ⟨ls[j], List.getElem?_eq_getElem hj, by simp⟩
  refine ⟨(List.range ls.length).map f, by simp, fun j u hu => ?_, fun u hu => ?_, fun i r hr => ?_⟩
  · obtain ⟨r, hr, rfl⟩ := hat j u hu
    obtain ⟨B, c, e, hc, _⟩ := hf j r hr
    exact hc
  · obtain ⟨j, hj⟩ := List.getElem?_of_mem hu
    obtain ⟨r, hr, rfl⟩ := hat j u hj
    obtain ⟨B, c, e, hc, _⟩ := hf j r hr
    rw [e]; rfl
  · obtain ⟨B, c, e, hc, hI, hn⟩ := hf i r hr
    have hi := (List.getElem?_eq_some_iff.1 hr).1
    exact ⟨B, c, by rw [List.getElem?_map, List.getElem?_range hi]; simp [e], hI, hn⟩
set_option maxRecDepth 100000 in
/-- append(v, x...) of rows. -/
theorem wpList_catL {ops : Array Oper} {rest : List Oper} {o : Oper} {a : Act} {w : World} {Q : Exit → Act → World → Prop} (hgd : o.guard = none) (s x : Operand)
    (ho : o.op = .call { callee := .builtin .append, args := #[s, x], argTypes := #[22, 22] })
    (w0 : World) (l : List (Nat × Nat × Value)) (base : Nat) (v : Value) (xs : List (List Int)) (hs : a.eval s = v) (hown : OwnLA base w v xs) (A : Option Addr) (c m : Nat) (ys : List (List Int)) (hx : a.eval x = .slice A m c) (hm : ys.length = m) (hnil : A = none → ys = [] ∧ c = 0) (hR : RowsRead w A ys)
    (zs : List (List Int)) (hzs : xs ++ ys = zs) (hfar : ∀ (i : Nat) (r : List Int) (B : Addr) (cc : Nat), ys[i]? = some r → r ≠ [] → (∃ ad, A = some ad ∧ w.cell? (ad.add i) = some (.slice (some B) r.length cc)) → some B.block ≠ v.ownBlock)
    (hlen : (xs.length + m) * 24 ≤ 140737488355328) (hbase : base ≤ w.heap.size) (h0 : w0.heap.size ≤ base) (hB : Below w0.heap.size w0 w) (hC : Cls w l) (hl : ∀ x ∈ l, x.1 < base)
    (h : ∀ v' w', OwnLA base w' v' zs → Below w0.heap.size w0 w' → Cls w' l → w.heap.size ≤ w'.heap.size → wpList Try.prog ops Q rest (a.put o.dst v') w') : wpList Try.prog ops Q (o :: rest) a w := by
  obtain ⟨i0, hi0, hz⟩ := Option.map_eq_some_iff.1 info_list
  simp only [Prod.mk.injEq] at hz
  obtain ⟨cells, hr, hcs⟩ := hown
  have hcl := hr.1
  subst hm
  subst hzs
  cases A with
  | none =>
    obtain ⟨rfl, rfl⟩ := hnil rfl
    refine wpList_append_own_none hgd s x 22 ho base 23 i0 1 Try.underlying22 hi0 v xs.length cells hs hr hx ?_
    exact h v w (by rw [List.append_nil]; exact ⟨cells, hr, hcs⟩) hB hC (Nat.le_refl _)
  | some ad =>
    obtain ⟨news, hnl, hat, h1, hrd⟩ := hR.cells
    refine wpList_append_own_at w hgd s x 22 ho base 23 i0 (.slice none 0 0) 1 24 Try.underlying22 hi0 hz.1 hz.2.1 hz.2.2 rfl (by decide) v xs.length cells hs hr ad ys.length c news hx (by omega) hat h1 ?_ hlen hbase ?_
    · simp only [maxLen]; omega
    · intro v' w' h2 h3 _ h4
      refine h v' w' ⟨cells ++ news, by rw [List.length_append]; exact h2, fun i r ha => ?_⟩ ?_ ?_ h3.size
      · have key : ∀ {cs : List Value} {a : List Int}, PAny w v.ownBlock cs a → PAny w' v'.ownBlock cs a := fun hp => by
          rcases h4 with h4 | h4
          · rw [h4]; exact (pany_stable.grown hp h3).1
          · rw [h4]; exact (pany_stable.grown hp h3).2
        rw [Nat.mul_one] at *
        rcases Nat.lt_or_ge i xs.length with hi | hi
        · rw [List.getElem?_append_left hi] at ha
          have e1 : ((cells ++ news).drop i).take 1 = (cells.drop (i * 1)).take 1 := by
            rw [Nat.mul_one, List.drop_append_of_le_length (by omega), List.take_append_of_le_length (by rw [List.length_drop]; omega)]
          rw [e1]
          exact key (hcs i r ha)
        · rw [List.getElem?_append_right hi] at ha
          obtain ⟨B, cc, e2, hI, hn⟩ := hrd _ _ ha
          have e1 : ((cells ++ news).drop i).take 1 = [.slice B r.length cc] := by
            rw [List.drop_append, List.drop_eq_nil_of_le (by omega), List.nil_append, show i - cells.length = i - xs.length by omega]
            have hlt := (List.getElem?_eq_some_iff.1 e2).1
            rw [List.drop_eq_getElem_cons hlt]
            obtain ⟨_, e3⟩ := List.getElem?_eq_some_iff.1 e2
            rw [e3]; rfl
          rw [e1]
          exact key ⟨B, cc, rfl, hI, hn, fun hne ad' hB' => by
            subst hB'
            exact hfar _ _ ad' cc ha hne ⟨ad, rfl, hat _ _ e2⟩⟩
      · exact hB.grown h3 (Nat.le_trans h0 hbase) (fun k hk => Nat.le_trans h0 (hr.lt k hk).1)
      · exact hC.grown hr h3 hl

section
variable {H : Type} {enc : TypeId × Value → H} {w : World}
/-- .. and how many there can be. -/
theorem rows_size {fuel : Nat} {cs : List Value} {x : DataW H × List MemPlace} (h : DataW.trod enc Try.prog w 0 (fun _ => true) true fuel 22 cs = some x) :
    ∃ A c n, cs = [.slice A n c] ∧ (n = 0 ∨ ∃ els sp, x.1 = .slice els sp ∧ els.length = n) := by
  rcases open_slice1 Try.underlying22 (by kernel_rfl) h with ⟨rfl, rfl⟩ | ⟨a, len, cap, m, n, V, D, Pl, rfl, hb, hl, hm, hmm, hx, hi⟩
  · exact ⟨none, 0, 0, rfl, .inl rfl⟩
  · refine ⟨some a, cap, len, rfl, .inr ?_⟩
    rw [hx]
    exact ⟨_, _, rfl, by simp⟩
set_option maxRecDepth 100000 in
theorem open_rowsS {r : Go.Reach} {b0 : Nat} {v : Value} {d : DataW H} {p : List MemPlace} (hv : Value.okWide Try.prog w r b0 22 v) (h : DataW.Trod enc Try.prog w 0 (fun _ => true) true 22 v d p) :
    ∃ A c ls, v = .slice A ls.length c ∧ ls.length ≤ c ∧ lenOk c ∧ (A = none → ls = [] ∧ c = 0) ∧ RowsRead w A ls ∧ (ls = [] ∨ ∃ els sp, d = .slice els sp ∧ els.length = ls.length) := by
  obtain ⟨A, c, ls, e, h1, h2, h3, h4⟩ := open_rowsW hv h
  refine ⟨A, c, ls, e, h1, h2, h3, h4, ?_⟩
  obtain ⟨fuel, hf⟩ := h
  obtain ⟨A', c', n, e', h5⟩ := rows_size hf
  subst e
  have e2 : (Value.slice A ls.length c).cells.toList = [.slice A ls.length c] := rfl
  rw [show (Value.slice A ls.length c).cells.toList = [.slice A ls.length c] from rfl] at e'
  injection e' with e'
  injection e' with e3 e4 e5
  rcases h5 with h5 | ⟨els, sp, h6, h7⟩
  · exact .inl (List.eq_nil_of_length_eq_zero (by omega))
  · exact .inr ⟨els, sp, h6, by omega⟩
end
/-- A single row. -/
theorem rows_one {w : World} {g : Nat} {B : Option Addr} {r : List Int} {c : Nat} (h : w.cell? ⟨g, 0, none⟩ = some (.slice B r.length c)) (hI : Ints w B r) (hn : NilOk B r c) : RowsRead w (some ⟨g, 0, none⟩) [r] := fun i x hx => by
  match i, hx with
  | 0, hx => simp at hx; subst hx; exact ⟨_, B, c, rfl, h, hI, hn⟩
  | i + 1, hx => simp at hx
/-- How long a row of rows can be that came in. -/
theorem rows_room {H : Type} {ts : List TypeId} {ds : List (DataW H)} {ls : List (List Int)} {j : Nat} {d : DataW H} (hwt : (DataW.weightsEach Try.prog ts ds).all (· ≤ reachBytes) = true) (ht : ts[j]? = some 22) (hd : ds[j]? = some d)
    (h : ls = [] ∨ ∃ els sp, d = .slice els sp ∧ els.length = ls.length) : ls.length * 24 ≤ 140737488351232 := by
  rcases h with rfl | ⟨els, sp, rfl, h⟩
  · simp
  · have h1 := sized_slice hwt ht hd Try.underlying22
    have e : Try.prog.bytesOf 23 = 24 := by kernel_rfl
    have e2 : reachBytes = 140737488351232 := rfl
    rw [e, e2] at h1
    omega

end Go.Proofs.Ytkepfmglljkjhaa
