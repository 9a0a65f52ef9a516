/-
  relaxplan.Best: its rows and its table of costs.
-/
import Derived.Test.YtihkgdlanfemcaaRb1
import Derived.Test.YtihkgdlanfemcaaUfunc
import Derived.Test.YtihkgdlanfemcaaUlayf
import Derived.Test.YtihkgdlanfemcaaRxb
import Derived.Maps.Own
import Derived.Maps.OwnOps
import Derived.Maps.OwnSet
namespace Go.Proofs.Ytihkgdlanfemcaa
open Go.RowKit Go.Sort Go.Maps
set_option linter.unusedVariables false
set_option linter.unusedSimpArgs false

theorem info_u32 : (Try.prog.info? 99).map (fun i => (i.zero, i.size, i.bytes)) = some (some (.int .u32 0), 1, 4) := by kernel_rfl
/-! ### The states' row -/
def OwnS (base : Nat) (w : World) (v : Value) (ls : List (List Int)) : Prop := Own1 encW 99 base w v ls
theorem OwnS.below {base : Nat} {w w' : World} {v : Value} {ls : List (List Int)} (h : OwnS base w v ls) (hb : Below w.heap.size w w') : OwnS base w' v ls := OwnEs.below (p1_stable _) h hb
theorem OwnS.form {base : Nat} {w : World} {v : Value} {ls : List (List Int)} (h : OwnS base w v ls) : ∃ A c, v = .slice A ls.length c := OwnEs.form h
theorem OwnS.at_ {base n c k : Nat} {w : World} {A : Option Addr} {ls : List (List Int)} (h : OwnS base w (.slice A n c) ls) (hk : k < ls.length) :
    ∃ g l, A = some ⟨g, 0, none⟩ ∧ Hid (ls[k]? = some l) ∧ w.cell? ⟨g, k, none⟩ = some (.int .u32 (wv l)) := by
  obtain ⟨g, cs, l, rfl, _, _, hl, _, hc, hP⟩ := OwnEs.at_ h hk
  unfold P1 at hP
  subst hP
  refine ⟨g, l, rfl, hl, ?_⟩
  have h1 := hc 0 _ rfl
  rw [Nat.mul_one, Nat.add_zero] at h1
  exact h1
theorem OwnS.other {base K : Nat} {w w' : World} {v : Value} {ls : List (List Int)} (h : OwnS base w v ls) (hg : w.grownBy w' (some K)) (hK : K < base) : OwnS base w' v ls := by
  obtain ⟨cells, ⟨h1, h2⟩, h3⟩ := h
  refine ⟨cells, ⟨h1, ?_⟩, h3⟩
  rcases h2 with h2 | ⟨g, cap, cur, hv, hb, hh, r⟩
  · exact Or.inl h2
  · refine Or.inr ⟨g, cap, cur, hv, hb, (hg.block g ?_ (fun e => ?_)).trans hh, r⟩
    · rcases Nat.lt_or_ge g w.heap.size with hl | hl
      · exact hl
      · rw [Array.getElem?_eq_none hl] at hh; cases hh
    · injection e with e; omega
theorem OwnS.apart {base K : Nat} {w : World} {v : Value} {ls : List (List Int)} (h : OwnS base w v ls) (hK : K < base) : some K ≠ v.ownBlock := fun e => by
  have := (OwnEs.lt h K e.symm).1
  omega
theorem owns_one (w : World) (B : Nat) (l : List Int) (hB : B ≤ w.heap.size) : OwnS B (w.alloc (.cells #[.int .u32 (wv l)] 99)) (.slice (some ⟨w.heap.size, 0, none⟩) 1 1) [l] := by
  refine ⟨[encW l], ⟨by simp, .inr ⟨w.heap.size, 1, #[.int .u32 (wv l)], rfl, hB, Arr.new w _ [.int .u32 (wv l)], by simp, by decide, by simp, by simp [encW]⟩⟩, fun i a ha => ?_⟩
  cases i with
  | succ i => simp at ha
  | zero => simp at ha; subst ha; rfl
theorem Cls.grown_at {w w' : World} {l : List (Nat × Nat × Value)} {K : Nat} (hC : Cls w l) (hg : w.grownBy w' (some K)) (hl : ∀ x ∈ l, x.1 ≠ K) : Cls w' l := by
  induction l with
  | nil => trivial
  | cons x r ih =>
    obtain ⟨b, k, u⟩ := x
    obtain ⟨⟨h1, h2⟩, h3⟩ := hC
    have hlt := World.block_lt_of_cell? w ⟨b, k, none⟩ h1
    have hne : w'.heap[b]? = w.heap[b]? := hg.block b hlt (fun e => by
      injection e with e
      exact hl _ (List.mem_cons_self ..) e)
    refine ⟨⟨?_, ?_⟩, ih h3 (fun y hy => hl y (List.mem_cons_of_mem _ hy))⟩
    · rw [← h1]; simp only [World.cell?, hne]
    · rw [← h2]; simp only [World.frozen?, hne]
theorem OwnS.cls {base : Nat} {w w' : World} {v : Value} {ls : List (List Int)} {l : List (Nat × Nat × Value)} (h : OwnS base w v ls) (hC : Cls w l) (hg : w.grownBy w' v.ownBlock) (hl : ∀ x ∈ l, x.1 < base) : Cls w' l := by
  obtain ⟨cells, h1, _⟩ := h
  exact hC.grown h1 hg hl
theorem grown_below {w0 w w' : World} {K : Nat} (hB : Below w0.heap.size w0 w) (hg : w.grownBy w' (some K)) (hK : w0.heap.size ≤ K) : Below w0.heap.size w0 w' := hB.grown hg (by have := hB.size; omega) (fun k hk => by injection hk with hk; omega)

/-! ### slices.SortFunc -/
theorem cfW_swo : SWO (ltOf cfW) := by
  have h : ∀ x y, ltOf cfW x y = decide (ones32 (wv x) < ones32 (wv y)) := fun x y => by
    unfold ltOf cfW
    exact decide_eq_decide.2 cmpV_neg
  exact ⟨fun x => by rw [h]; simp, fun x y z h1 h2 => by rw [h] at *; simp at *; omega, fun x y z h1 h2 => by rw [h] at *; simp at *; omega⟩
theorem sortf_any {w0 w : World} {base : Nat} {v : Value} {ls : List (List Int)} (h : OwnS base w v ls) (h0 : w0.heap.size ≤ base) (hB : Below w0.heap.size w0 w) (hl : ls.length ≤ 1000000000000) :
    Calls Try.prog 76 #[v, .func (.func 77) #[] #[]] w fun e w' => e = .returned (.tuple #[]) ∧ ∃ rs, rs.Perm ls ∧ (∀ (i j : Nat) (a b : List Int), i < j → rs[i]? = some a → rs[j]? = some b → ones32 (wv a) ≤ ones32 (wv b)) ∧ OwnS base w' v rs ∧ w.grownBy w' v.ownBlock ∧ Below w0.heap.size w0 w' := by
  have hc := sortfunc_own lays_sortf (enc := encW) (e := 99) (fun _ => rfl) (fun _ => rfl) cfW cfW_swo 77 #[] (fun args w => by kernel_rfl) (fun W x y => bestcmp_any x y W) h h0 hB hl
  refine hc.mono ?_
  rintro e w' ⟨rfl, rs, h1, h2, h3, h4, h5⟩
  refine ⟨rfl, rs, h1, fun i j a b hij ha hb => ?_, h3, h4, h5⟩
  have := h2 i j a b hij ha hb
  unfold cfW at this
  rw [cmpV_neg] at this
  omega

/-! ### The table of costs -/
theorem law_u32 : Keyed Try.prog 99 := int_keyed Try.underlying99
theorem zero_int (w : World) : (zeroValue 3).run Try.prog w = .ok (.int .i64 0) w := by kernel_rfl
def TabM (B m : Nat) (w : World) (D : DataW Unit) : Prop := w.ownsMap Try.prog 99 (plainElem Try.prog 3) B m D
theorem TabM.below {B m : Nat} {w w' : World} {D : DataW Unit} (h : TabM B m w D) (hb : Below w.heap.size w w') : TabM B m w' D := by
  have hlt := World.ownsMap.lt h
  obtain ⟨es, clock, h1, h2⟩ := h
  exact ⟨es, clock, (hb.block B hlt).trans h1, h2⟩
theorem SetP.wf {l : List Int} {n : Nat} (h : SetP l (n : Int)) (hn : n ≤ 24) : (Lit.int .u32 (wordV l)).wf = true := WalkArith.wf_u32 (by have := h.word_u32 hn; omega)
theorem SetP.key {l : List Int} {n : Nat} (h : SetP l (n : Int)) (hn : n ≤ 24) : keyOf Try.prog 99 (.int .u32 (wordV l)) = some (.int .u32 (wordV l)) := keyOf_int_mk Try.underlying99 (h.wf hn)
/-- The table holds the costs f of the states ls. -/
structure KM (D : DataW Unit) (ls : List (List Int)) (n : Nat) (f : List Int → Int) : Prop where
  has : ∀ l, SetP l (n : Int) → Maps.has D (.int .u32 (wordV l)) = decide (l ∈ ls)
  val : ∀ l, SetP l (n : Int) → l ∈ ls → D.atKey (.int .u32 (wordV l)) (.lit (.int .i64 0)) = .lit (.int .i64 (f l))
theorem KM.empty (n : Nat) (f : List Int → Int) : KM (.map []) [] n f := ⟨fun l _ => rfl, fun l _ h => by simp at h⟩
theorem KM.put {D : DataW Unit} {ls ls' : List (List Int)} {n : Nat} {f f' : List Int → Int} (h : KM D ls n f) (hD : IsMap D) {r : List Int} (hr : SetP r (n : Int)) (hm : ∀ l, l ∈ ls' ↔ l ∈ ls ∨ l = r) {y : Int} (hy : f' r = y) (hf : ∀ l ∈ ls, l ≠ r → f' l = f l) : KM (D.put (.int .u32 (wordV r)) (.lit (.int .i64 y))) ls' n f' := by
  have hne : ∀ l, SetP l (n : Int) → l ≠ r → (Lit.int .u32 (wordV l)) ≠ .int .u32 (wordV r) := fun l hl e h1 => e (word_inj hl hr (by injection h1))
  refine ⟨fun l hl => ?_, fun l hl hin => ?_⟩
  · by_cases e : l = r
    · subst e
      rw [Maps.has_put_same hD (k := .int .u32 (wordV l)) trivial, decide_eq_true ((hm l).2 (.inr rfl))]
    · rw [Maps.has_put_other (hne l hl e), h.has l hl]
      refine decide_eq_decide.2 ?_
      rw [hm]
      exact ⟨.inl, fun h => h.resolve_right e⟩
  · by_cases e : l = r
    · subst e
      rw [Maps.atKey_put_same hD (k := .int .u32 (wordV l)) trivial, hy]
    · rw [Maps.atKey_put_other (hne l hl e)]
      have hl2 := ((hm l).1 hin).resolve_right e
      rw [h.val l hl hl2, hf l hl2 e]
theorem KM.mem {D : DataW Unit} {ls ls' : List (List Int)} {n : Nat} {f : List Int → Int} (h : KM D ls n f) (hm : ∀ l, l ∈ ls' ↔ l ∈ ls) : KM D ls' n f :=
  ⟨fun l hl => by rw [h.has l hl]; exact decide_eq_decide.2 (hm l).symm, fun l hl hin => h.val l hl ((hm l).1 hin)⟩
theorem KM.at_ {D : DataW Unit} {ls : List (List Int)} {n : Nat} {f : List Int → Int} (h : KM D ls n f) {l : List Int} (hl : SetP l (n : Int)) (hin : l ∈ ls) {c : Int} (hat : D.atKey (.int .u32 (wordV l)) (.lit (.int .i64 0)) = .lit (.int .i64 c)) : c = f l := by
  rw [h.val l hl hin] at hat
  injection hat with hat
  injection hat with _ hat
  exact hat.symm
/-- 'm[k] = v' within a literal. -/
theorem wpList_insert_own {H : Type} {P : Program} (w : World) {ops : Array Oper} {rest : List Oper} {o : Oper} {a : Act} {Q : Exit → Act → World → Prop}
    (hg : o.guard = none) (m x v : Operand) (t : TypeId) (hop : o.op = Op.insert t m x v)
    (k e : TypeId) (K : Keyed P k) (ht : P.underlying t = some (.map k e)) (R : Value → Option (DataW H × List MemPlace)) (b n : Nat) (D : DataW H)
    (hm : a.eval m = .map (some b)) (hown : w.ownsMap P k R b n D) (hn : n < maxLen) (key val : Value) (kl : Lit) (hx : a.eval x = key) (hv : a.eval v = val) (hkey : keyOf P k key = some kl)
    (d : DataW H) (ps : List MemPlace) (hval : R val = some (d, ps))
    (hK : ∀ w', w'.ownsMap P k R b (n + 1) (D.put kl d) → w.grownBy w' (some b) → wpList P ops Q rest (a.put o.dst undef) w') :
    wpList P ops Q (o :: rest) a w := by
  refine wpList_plain hg fun K' hK' => ?_
  obtain ⟨w', hrun, r1, r2⟩ := hown.update K ht hn hkey hval
  unfold Oper.wp
  simp [execOp, hop, hm, hx, hv, hrun, Result.andThen]
  exact hK' _ _ (hK w' r1 r2)
theorem elem_int {c : Int} (h : -9223372036854775808 ≤ c ∧ c ≤ 9223372036854775807) : plainElem (H := Unit) Try.prog 3 (.int .i64 c) = some (.lit (.int .i64 c), []) := plainElem_int Try.underlying3 (WalkArith.wf_i64 h)

end Go.Proofs.Ytihkgdlanfemcaa
