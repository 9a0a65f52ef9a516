/-
  relaxplan.Best: its rows and its table of costs.
  relaxplan.Best: what it returns.
-/
import Derived.Test.YtihkgdlanfemcaaZ5
import Derived.Test.YtihkgdlanfemcaaZ18
import Derived.Test.YtihkgdlanfemcaaZ19
import Derived.Test.YtihkgdlanfemcaaZ9
import Derived.Maps.Own
import Derived.Maps.OwnOps
import Derived.Maps.OwnSet
import Derived.Test.YtihkgdlanfemcaaZ7
namespace Go.Proofs.Ytihkgdlanfemcaa
open Go.RowKit Go.Sort Go.Maps
set_option linter.unusedVariables false
set_option linter.unusedSimpArgs false

theorem info_u32 : (Try.prog.info? 99).map (fun i => (i.zero, i.size, i.bytes)) = some (some (.int .u32 0), 1, 4) := by kernel_rfl
/-! ### The states' row -/
def OwnS (base : Nat) (w : World) (v : Value) (ls : List (List Int)) : Prop := Own1 encW 99 base w v ls
theorem OwnS.below {base : Nat} {w w' : World} {v : Value} {ls : List (List Int)} (h : OwnS base w v ls) (hb : Below w.heap.size w w') : OwnS base w' v ls := OwnEs.below (p1_stable _) h hb
theorem OwnS.form {base : Nat} {w : World} {v : Value} {ls : List (List Int)} (h : OwnS base w v ls) : ∃ A c, v = .slice A ls.length c := OwnEs.form h
theorem OwnS.at_ {base n c k : Nat} {w : World} {A : Option Addr} {ls : List (List Int)} (h : OwnS base w (.slice A n c) ls) (hk : k < ls.length) :
    ∃ g l, A = some ⟨g, 0, none⟩ ∧ Hid (ls[k]? = some l) ∧ w.cell? ⟨g, k, none⟩ = some (.int .u32 (wv l)) := by
  obtain ⟨g, cs, l, rfl, _, _, hl, _, hc, hP⟩ := OwnEs.at_ h hk
  unfold P1 at hP
  subst hP
  refine ⟨g, l, rfl, hl, ?_⟩
  have h1 := hc 0 _ rfl
  rw [Nat.mul_one, Nat.add_zero] at h1
  exact h1
theorem OwnS.other {base K : Nat} {w w' : World} {v : Value} {ls : List (List Int)} (h : OwnS base w v ls) (hg : w.grownBy w' (some K)) (hK : K < base) : OwnS base w' v ls := by
  obtain ⟨cells, ⟨h1, h2⟩, h3⟩ := h
  refine ⟨cells, ⟨h1, ?_⟩, h3⟩
  rcases h2 with h2 | ⟨g, cap, cur, hv, hb, hh, r⟩
  · exact Or.inl h2
  · refine Or.inr ⟨g, cap, cur, hv, hb, (hg.block g ?_ (fun e => ?_)).trans hh, r⟩
    · rcases Nat.lt_or_ge g w.heap.size with hl | hl
      · exact hl
      · rw [Array.getElem?_eq_none hl] at hh; cases hh
    · injection e with e; omega
theorem OwnS.apart {base K : Nat} {w : World} {v : Value} {ls : List (List Int)} (h : OwnS base w v ls) (hK : K < base) : some K ≠ v.ownBlock := fun e => by
  have := (OwnEs.lt h K e.symm).1
  omega
theorem owns_one (w : World) (B : Nat) (l : List Int) (hB : B ≤ w.heap.size) : OwnS B (w.alloc (.cells #[.int .u32 (wv l)] 99)) (.slice (some ⟨w.heap.size, 0, none⟩) 1 1) [l] := by
  refine ⟨[encW l], ⟨by simp, .inr ⟨w.heap.size, 1, #[.int .u32 (wv l)], rfl, hB, Arr.new w _ [.int .u32 (wv l)], by simp, by decide, by simp, by simp [encW]⟩⟩, fun i a ha => ?_⟩
  cases i with
  | succ i => simp at ha
  | zero => simp at ha; subst ha; rfl
theorem Cls.grown_at {w w' : World} {l : List (Nat × Nat × Value)} {K : Nat} (hC : Cls w l) (hg : w.grownBy w' (some K)) (hl : ∀ x ∈ l, x.1 ≠ K) : Cls w' l := by
  induction l with
  | nil => trivial
  | cons x r ih =>
    obtain ⟨b, k, u⟩ := x
    obtain ⟨⟨h1, h2⟩, h3⟩ := hC
    have hlt := World.block_lt_of_cell? w ⟨b, k, none⟩ h1
    have hne : w'.heap[b]? = w.heap[b]? := hg.block b hlt (fun e => by
      injection e with e
      exact hl _ (List.mem_cons_self ..) e)
    refine ⟨⟨?_, ?_⟩, ih h3 (fun y hy => hl y (List.mem_cons_of_mem _ hy))⟩
    · rw [← h1]; simp only [World.cell?, hne]
    · rw [← h2]; simp only [World.frozen?, hne]
theorem OwnS.cls {base : Nat} {w w' : World} {v : Value} {ls : List (List Int)} {l : List (Nat × Nat × Value)} (h : OwnS base w v ls) (hC : Cls w l) (hg : w.grownBy w' v.ownBlock) (hl : ∀ x ∈ l, x.1 < base) : Cls w' l := by
  obtain ⟨cells, h1, _⟩ := h
  exact hC.grown h1 hg hl
theorem grown_below {w0 w w' : World} {K : Nat} (hB : Below w0.heap.size w0 w) (hg : w.grownBy w' (some K)) (hK : w0.heap.size ≤ K) : Below w0.heap.size w0 w' := hB.grown hg (by have := hB.size; omega) (fun k hk => by injection hk with hk; omega)

/-! ### slices.SortFunc -/
theorem cfW_swo : SWO (ltOf cfW) := by
  have h : ∀ x y, ltOf cfW x y = decide (ones32 (wv x) < ones32 (wv y)) := fun x y => by
    unfold ltOf cfW
    exact decide_eq_decide.2 cmpV_neg
  exact ⟨fun x => by rw [h]; simp, fun x y z h1 h2 => by rw [h] at *; simp at *; omega, fun x y z h1 h2 => by rw [h] at *; simp at *; omega⟩
theorem sortf_any {w0 w : World} {base : Nat} {v : Value} {ls : List (List Int)} (h : OwnS base w v ls) (h0 : w0.heap.size ≤ base) (hB : Below w0.heap.size w0 w) (hl : ls.length ≤ 1000000000000) :
    Calls Try.prog 76 #[v, .func (.func 77) #[] #[]] w fun e w' => e = .returned (.tuple #[]) ∧ ∃ rs, rs.Perm ls ∧ (∀ (i j : Nat) (a b : List Int), i < j → rs[i]? = some a → rs[j]? = some b → ones32 (wv a) ≤ ones32 (wv b)) ∧ OwnS base w' v rs ∧ w.grownBy w' v.ownBlock ∧ Below w0.heap.size w0 w' := by
  have hc := sortfunc_own lays_sortf (enc := encW) (e := 99) (fun _ => rfl) (fun _ => rfl) cfW cfW_swo 77 #[] (fun args w => by kernel_rfl) (fun W x y => bestcmp_any x y W) h h0 hB hl
  refine hc.mono ?_
  rintro e w' ⟨rfl, rs, h1, h2, h3, h4, h5⟩
  refine ⟨rfl, rs, h1, fun i j a b hij ha hb => ?_, h3, h4, h5⟩
  have := h2 i j a b hij ha hb
  unfold cfW at this
  rw [cmpV_neg] at this
  omega

/-! ### The table of costs -/
theorem law_u32 : Keyed Try.prog 99 := int_keyed Try.underlying99
theorem zero_int (w : World) : (zeroValue 3).run Try.prog w = .ok (.int .i64 0) w := by kernel_rfl
def TabM (B m : Nat) (w : World) (D : DataW Unit) : Prop := w.ownsMap Try.prog 99 (plainElem Try.prog 3) B m D
theorem TabM.below {B m : Nat} {w w' : World} {D : DataW Unit} (h : TabM B m w D) (hb : Below w.heap.size w w') : TabM B m w' D := by
  have hlt := World.ownsMap.lt h
  obtain ⟨es, clock, h1, h2⟩ := h
  exact ⟨es, clock, (hb.block B hlt).trans h1, h2⟩
theorem SetP.wf {l : List Int} {n : Nat} (h : SetP l (n : Int)) (hn : n ≤ 24) : (Lit.int .u32 (wordV l)).wf = true := WalkArith.wf_u32 (by have := h.word_u32 hn; omega)
theorem SetP.key {l : List Int} {n : Nat} (h : SetP l (n : Int)) (hn : n ≤ 24) : keyOf Try.prog 99 (.int .u32 (wordV l)) = some (.int .u32 (wordV l)) := keyOf_int_mk Try.underlying99 (h.wf hn)
/-- The table holds the costs f of the states ls. -/
structure KM (D : DataW Unit) (ls : List (List Int)) (n : Nat) (f : List Int → Int) : Prop where
  has : ∀ l, SetP l (n : Int) → Maps.has D (.int .u32 (wordV l)) = decide (l ∈ ls)
  val : ∀ l, SetP l (n : Int) → l ∈ ls → D.atKey (.int .u32 (wordV l)) (.lit (.int .i64 0)) = .lit (.int .i64 (f l))
theorem KM.empty (n : Nat) (f : List Int → Int) : KM (.map []) [] n f := ⟨fun l _ => rfl, fun l _ h => by simp at h⟩
theorem KM.put {D : DataW Unit} {ls ls' : List (List Int)} {n : Nat} {f f' : List Int → Int} (h : KM D ls n f) (hD : IsMap D) {r : List Int} (hr : SetP r (n : Int)) (hm : ∀ l, l ∈ ls' ↔ l ∈ ls ∨ l = r) {y : Int} (hy : f' r = y) (hf : ∀ l ∈ ls, l ≠ r → f' l = f l) : KM (D.put (.int .u32 (wordV r)) (.lit (.int .i64 y))) ls' n f' := by
  have hne : ∀ l, SetP l (n : Int) → l ≠ r → (Lit.int .u32 (wordV l)) ≠ .int .u32 (wordV r) := fun l hl e h1 => e (word_inj hl hr (by injection h1))
  refine ⟨fun l hl => ?_, fun l hl hin => ?_⟩
  · by_cases e : l = r
    · subst e
      rw [Maps.has_put_same hD (k := .int .u32 (wordV l)) trivial, decide_eq_true ((hm l).2 (.inr rfl))]
    · rw [Maps.has_put_other (hne l hl e), h.has l hl]
      refine decide_eq_decide.2 ?_
      rw [hm]
      exact ⟨.inl, fun h => h.resolve_right e⟩
  · by_cases e : l = r
    · subst e
      rw [Maps.atKey_put_same hD (k := .int .u32 (wordV l)) trivial, hy]
    · rw [Maps.atKey_put_other (hne l hl e)]
      have hl2 := ((hm l).1 hin).resolve_right e
      rw [h.val l hl hl2, hf l hl2 e]
theorem KM.mem {D : DataW Unit} {ls ls' : List (List Int)} {n : Nat} {f : List Int → Int} (h : KM D ls n f) (hm : ∀ l, l ∈ ls' ↔ l ∈ ls) : KM D ls' n f :=
  ⟨fun l hl => by rw [h.has l hl]; exact decide_eq_decide.2 (hm l).symm, fun l hl hin => h.val l hl ((hm l).1 hin)⟩
theorem KM.at_ {D : DataW Unit} {ls : List (List Int)} {n : Nat} {f : List Int → Int} (h : KM D ls n f) {l : List Int} (hl : SetP l (n : Int)) (hin : l ∈ ls) {c : Int} (hat : D.atKey (.int .u32 (wordV l)) (.lit (.int .i64 0)) = .lit (.int .i64 c)) : c = f l := by
  rw [h.val l hl hin] at hat
  injection hat with hat
  injection hat with _ hat
  exact hat.symm
/-- 'm[k] = v' within a literal. -/
theorem wpList_insert_own {H : Type} {P : Program} (w : World) {ops : Array Oper} {rest : List Oper} {o : Oper} {a : Act} {Q : Exit → Act → World → Prop}
    (hg : o.guard = none) (m x v : Operand) (t : TypeId) (hop : o.op = Op.insert t m x v)
    (k e : TypeId) (K : Keyed P k) (ht : P.underlying t = some (.map k e)) (R : Value → Option (DataW H × List MemPlace)) (b n : Nat) (D : DataW H)
    (hm : a.eval m = .map (some b)) (hown : w.ownsMap P k R b n D) (hn : n < maxLen) (key val : Value) (kl : Lit) (hx : a.eval x = key) (hv : a.eval v = val) (hkey : keyOf P k key = some kl)
    (d : DataW H) (ps : List MemPlace) (hval : R val = some (d, ps))
    (hK : ∀ w', w'.ownsMap P k R b (n + 1) (D.put kl d) → w.grownBy w' (some b) → wpList P ops Q rest (a.put o.dst undef) w') :
    wpList P ops Q (o :: rest) a w := by
  refine wpList_plain hg fun K' hK' => ?_
  obtain ⟨w', hrun, r1, r2⟩ := hown.update K ht hn hkey hval
  unfold Oper.wp
  simp [execOp, hop, hm, hx, hv, hrun, Result.andThen]
  exact hK' _ _ (hK w' r1 r2)
theorem elem_int {c : Int} (h : -9223372036854775808 ≤ c ∧ c ≤ 9223372036854775807) : plainElem (H := Unit) Try.prog 3 (.int .i64 c) = some (.lit (.int .i64 c), []) := plainElem_int Try.underlying3 (WalkArith.wf_i64 h)

end Go.Proofs.Ytihkgdlanfemcaa

namespace Go.Proofs.Ytihkgdlanfemcaa
open Go.RowKit Go.Sort Go.Maps
set_option linter.unusedVariables false
set_option linter.unusedSimpArgs false

/-- What relaxplan.Best returns: a cost, or a fault where too many states are reached. -/
def RBOut (n : Nat) (ops : List OpV) (goal st : List Int) (d c j : Int) : Prop :=
  ((c = 0 ∧ j = 0) ∧ RBest n ops goal st d ∧ ∃ ls, RSt n ops st ls ls.length 0 ∧ ls.length ≤ 2000) ∨ ((d = 0 ∧ c = 10 ∧ j = -7) ∧ ∃ ls : List (List Int), ls.Nodup ∧ ls.length = 2001 ∧ ∀ l ∈ ls, Rch n ops st l)
/-- The costs at first. -/
def f0V (st l : List Int) : Int := if l = st then 0 else 1000000000
theorem many_of {n : Nat} {ops : List OpV} {st : List Int} {ls : List (List Int)} {k p : Nat} (h : RSt n ops st ls k p) (hl : 2000 < ls.length) : ∃ ls : List (List Int), ls.Nodup ∧ ls.length = 2001 ∧ ∀ l ∈ ls, Rch n ops st l :=
  ⟨ls.take 2001, List.Nodup.sublist (List.take_sublist _ _) h.nodup, by rw [List.length_take]; omega, fun l hl => h.rch l (List.mem_of_mem_take hl)⟩
theorem p1_w {w : World} {row : Option Nat} {r : List Int} (h : wv r = wordV r) : P1 encW w row [.int .u32 (wordV r)] r := by unfold P1 encW; rw [h]
theorem rx_at {ops : List OpV} {p : Nat} {o : OpV} (h : ops[p]? = some o) : (ops.map rxO)[p]? = some (rxO o) := by rw [List.getElem?_map, h]; rfl
theorem rx_opAt {ops : List OpV} {p : Nat} {o : OpV} (h : ops[p]? = some o) : opAt (ops.map rxO) (p : Int) = rxO o := opAt_of (by simpa using rx_at h)
theorem rx_can {ops : List OpV} {p : Nat} {o : OpV} {l : List Int} (h : ops[p]? = some o) : CanV (ops.map rxO) l (p : Int) ↔ ∀ q ∈ o.pre, q ∈ l :=
  ⟨fun ⟨o', h1, h2⟩ => by
    rw [Int.toNat_natCast, rx_at h] at h1
    injection h1 with h1
    subst h1; exact h2, fun h2 => ⟨rxO o, by rw [Int.toNat_natCast]; exact rx_at h, h2⟩⟩
/-- The facts of an operator's word. -/
structure OpW (n : Nat) (o : OpV) : Prop where
  pre : SetP o.pre (n : Int)
  add : SetP o.add (n : Int)
  cost : 0 ≤ o.cost ∧ o.cost ≤ 100
theorem opw_of {t : TaskV} {n : Nat} (hv : Valid t) (hn : t.facts = n) : ∀ o ∈ t.ops, OpW n o := fun o ho => by
  obtain ⟨⟨h1, h2, _, _⟩, h3⟩ := hv.ops o ho
  rw [hn] at h1 h2
  exact ⟨h1, h2, h3⟩
set_option maxRecDepth 100000 in
set_option maxHeartbeats 4000000 in
theorem rbest_2 (w : World) (t : TaskV) (Ai Ag Ao : Option Addr) (ci cg co : Nat) (hT : TaskMem w Ai Ag Ao t) (S : Option Addr) (cs : Nat) (st : List Int) (hS : Ints w S st) (hls : lenOk st.length) (n : Nat) (hn : t.facts = n) (hv : Valid t) (h2 : SetP st t.facts) :
    Calls Try.prog 34 #[.agg #[.int .i64 t.facts, .slice Ai t.init.length ci, .slice Ag t.goal.length cg, .slice Ao t.ops.length co], .slice S st.length cs] w fun e w' => ∃ d c j, e = .returned (.tuple #[.int .i64 d, .agg #[.int .i64 c, .int .i64 j]]) ∧ RBOut n (t.ops.map rxO) t.goal st d c j ∧ Below w.heap.size w w' := by
  have HN := Lib.hid hn
  have HV := Lib.hid hv
  have H2 := Lib.hid h2
  have hn24 : n ≤ 24 := by have := hv.f1; omega
  have h40 : t.ops.length ≤ 40 := hv.nops
  have HST := Lib.hid (show SetP st (n : Int) by rw [← hn]; exact h2)
  have HGO := Lib.hid (show SetP t.goal (n : Int) by have := hv.goal; rw [hn] at this; exact this)
  have HOW := Lib.hid (opw_of hv hn)
  have hgl : t.goal.length ≤ 9223372036854775807 := hT.lgoal.le
  clear hv h2 hn
  go_enter Try.func34, Try.ntmps34
  go_wp2_with fail
  refine (statefault_3 _ _ _ _ _ _ _ _ (hT.below (by repeat (first | with_reducible exact Below.refl _ _ | with_reducible apply bdrew | with_reducible apply bdrewN | with_reducible apply balloc | ((with_reducible refine bset ?_ ?_ _); rotate_left; (first | omega | (simp <;> omega)))))) _ _ _ (hS.below (by repeat (first | with_reducible exact Below.refl _ _ | with_reducible apply bdrew | with_reducible apply bdrewN | with_reducible apply balloc | ((with_reducible refine bset ?_ ?_ _); rotate_left; (first | omega | (simp <;> omega)))))) hls HV.out H2.out).mono ?_
  rintro e w1 ⟨rfl, hB1⟩
  have D1 := dstep w hB1 (by repeat (first | with_reducible exact Below.refl _ _ | with_reducible apply bdrew | with_reducible apply bdrewN | with_reducible apply balloc | ((with_reducible refine bset ?_ ?_ _); rotate_left; (first | omega | (simp <;> omega)))))
  have d1s := D1.size
  have C1 := Cls.below (l := [(w.heap.size, 0, .int .i64 t.facts), (w.heap.size, 1, .slice Ai t.init.length ci), (w.heap.size, 2, .slice Ag t.goal.length cg), (w.heap.size, 3, .slice Ao t.ops.length co), (w.heap.size + 1, 0, .int .i64 0), (w.heap.size + 1, 1, .int .i64 0)]) hB1 (by simp [Cls, go_sem])
  have F1 := C1
  simp only [Cls, and_true] at F1
  have y1w1 : w.heap.size + 1 < w1.heap.size := C1.blk (b := w.heap.size + 1) (k := 0) (v := .int .i64 0) (by simp)
  have y1w0 : w.heap.size < w1.heap.size := (by omega)
  have y1wp1 : w.heap.size < w1.heap.size + 1 := (by omega)
  have y1wp2 : w.heap.size < w1.heap.size + 1 + 1 := (by omega)
  have hmm := @run_makeMap Try.prog
  go_wp2_with fail
  refine (rword_any _ _ _ _ (hS.below (by repeat (first | with_reducible exact D1 | with_reducible apply bdrew | with_reducible apply bdrewN | with_reducible apply balloc | ((with_reducible refine bset ?_ ?_ _); rotate_left; (first | omega | (simp <;> omega)))))) n HST.out hn24).mono ?_
  rintro e w9 ⟨rfl, hW9⟩
  rw [← hW9]
  clear hW9 w9
  go_wp2_with (refine wpList_insert_own _ rfl (.tmp 28) (.tmp 30) _ 101 rfl 99 3 law_u32 Try.underlying101 (plainElem Try.prog 3) (w1.heap.size + 1) 0 (.map [] : DataW Unit) rfl ?q1 (by decide) _ _ (.int .u32 (wordV st)) rfl rfl (HST.out.key hn24) (.lit (.int .i64 0)) [] (elem_int (by omega)) ?_; (case q1 => (have h := World.ownsMap_made (H := Unit) (w1.alloc (.cells #[.int .i64 0, .int .i64 0] 29)) Try.prog 99 (plainElem Try.prog 3); simpa using h)); intro w2 hown2 hgrow2; have D2 := grown_below (w0 := w) (by repeat (first | with_reducible exact D1 | with_reducible apply bdrew | with_reducible apply bdrewN | with_reducible apply balloc | ((with_reducible refine bset ?_ ?_ _); rotate_left; (first | omega | (simp <;> omega))))) hgrow2 (by omega); have C2 := Cls.grown_at (l := [(w.heap.size, 0, .int .i64 t.facts), (w.heap.size, 1, .slice Ai t.init.length ci), (w.heap.size, 2, .slice Ag t.goal.length cg), (w.heap.size, 3, .slice Ao t.ops.length co), (w.heap.size + 1, 0, .int .i64 0), (w.heap.size + 1, 1, .int .i64 0)]) (by simp [Cls, go_sem, F1, y1w1, y1w0, y1wp1, y1wp2]) hgrow2 (by (simp <;> omega)); have sz2 := hgrow2.size; simp at sz2; clear hgrow2)
  have d2s := D2.size
  have F2 := C2
  simp only [Cls, and_true] at F2
  have y2w1 : w.heap.size + 1 < w2.heap.size := C2.blk (b := w.heap.size + 1) (k := 0) (v := .int .i64 0) (by simp)
  have y2w0 : w.heap.size < w2.heap.size := (by omega)
  have y2wp1 : w.heap.size < w2.heap.size + 1 := (by omega)
  have y2wp2 : w.heap.size < w2.heap.size + 1 + 1 := (by omega)
  have HKM2 := Lib.hid ((KM.empty n (f0V st)).put isMap_empty HST.out (ls' := [st]) (by simp) (show f0V st st = 0 by simp [f0V]) (by simp))
  have HTM2 : TabM (w1.heap.size + 1) 1 w2 _ := hown2
  clear hown2
  go_wp2_with fail
  refine (rword_any _ _ _ _ (hS.below (by repeat (first | with_reducible exact D2 | with_reducible apply bdrew | with_reducible apply bdrewN | with_reducible apply balloc | ((with_reducible refine bset ?_ ?_ _); rotate_left; (first | omega | (simp <;> omega)))))) n HST.out hn24).mono ?_
  rintro e w9 ⟨rfl, hW9⟩
  rw [← hW9]
  clear hW9 w9
  have HO2 := Lib.hid (show OwnS (w1.heap.size + 1 + 1) (w2.alloc (.cells #[.int .u32 (wordV st)] 99)) (.slice (some ⟨w2.heap.size, 0, none⟩) 1 1) [st] by have h := owns_one w2 (w1.heap.size + 1 + 1) st (by omega); rwa [HST.out.wv hn24] at h)
  have HR2 := Lib.hid (RSt.start (ops := (t.ops.map rxO)) HST.out)
  go_wp2_with fail
  go_loopw [8, 9] (fun a i wr => ∃ (ls : List (List Int)) (k : Nat), k ≤ ls.length ∧ ls.length ≤ 2000 ∧ i = .int .i64 k ∧ OwnS (w1.heap.size + 1 + 1) wr a ls ∧ (∃ D, TabM (w1.heap.size + 1) ls.length wr D ∧ Hid (KM D ls n (f0V st))) ∧ Hid (RSt n (t.ops.map rxO) st ls k 0) ∧ (w1.heap.size + 1 + 1) ≤ wr.heap.size ∧ Below w.heap.size w wr ∧ Cls wr [(w.heap.size, 0, .int .i64 t.facts), (w.heap.size, 1, .slice Ai t.init.length ci), (w.heap.size, 2, .slice Ag t.goal.length cg), (w.heap.size, 3, .slice Ao t.ops.length co), (w.heap.size + 1, 0, .int .i64 0), (w.heap.size + 1, 1, .int .i64 0)]) (fun _ i _ => 2001 - (intOf i).toNat)
  case atStart => exact ⟨[st], 0, by simp, by simp, rfl, HO2.out, ⟨_, HTM2.kept (row := none) (World.grownBy_alloc _ _ _) (by simp), HKM2⟩, HR2, (by simp; omega), (by repeat (first | with_reducible exact D2 | with_reducible apply bdrew | with_reducible apply bdrewN | with_reducible apply balloc | ((with_reducible refine bset ?_ ?_ _); rotate_left; (first | omega | (simp <;> omega))))), (by simp [Cls, go_sem, F2, y2w1, y2w0, y2wp1, y2wp2])⟩
  case round =>
    obtain ⟨ls, k, hk, hl2, rfl, hO, ⟨D, hTM, hKM⟩, hR, hbz, hBr, hCr⟩ := hrel
    obtain ⟨w3, rfl⟩ : ∃ wo : World, wo = wr := ⟨_, rfl⟩
    have drs := hBr.size
    have Fr := hCr
    simp only [Cls, and_true] at Fr
    have yrw1 : w.heap.size + 1 < w3.heap.size := hCr.blk (b := w.heap.size + 1) (k := 0) (v := .int .i64 0) (by simp)
    have yrw0 : w.heap.size < w3.heap.size := (by omega)
    have yrwp1 : w.heap.size < w3.heap.size + 1 := (by omega)
    have yrwp2 : w.heap.size < w3.heap.size + 1 + 1 := (by omega)
    by_cases hlt : k < ls.length
    · obtain ⟨A1, c1, rfl⟩ := hO.form
      go_wp2_with fail
      go_loopw [8, 44] (fun a i wr => ∃ (ls : List (List Int)) (p : Nat), k < ls.length ∧ p ≤ t.ops.length ∧ ls.length ≤ 2000 + p ∧ i = .int .i64 p ∧ OwnS (w1.heap.size + 1 + 1) wr a ls ∧ (∃ D, TabM (w1.heap.size + 1) ls.length wr D ∧ Hid (KM D ls n (f0V st))) ∧ Hid (RSt n (t.ops.map rxO) st ls k p) ∧ (w1.heap.size + 1 + 1) ≤ wr.heap.size ∧ Below w.heap.size w wr ∧ Cls wr [(w.heap.size, 0, .int .i64 t.facts), (w.heap.size, 1, .slice Ai t.init.length ci), (w.heap.size, 2, .slice Ag t.goal.length cg), (w.heap.size, 3, .slice Ao t.ops.length co), (w.heap.size + 1, 0, .int .i64 0), (w.heap.size + 1, 1, .int .i64 0)]) (fun _ i _ => t.ops.length - (intOf i).toNat)
      case atStart => exact ⟨ls, 0, hlt, Nat.zero_le _, by omega, rfl, hO.below (by repeat (first | with_reducible exact Below.refl _ _ | with_reducible apply bdrew | with_reducible apply bdrewN | with_reducible apply balloc | ((with_reducible refine bset ?_ ?_ _); rotate_left; (first | omega | (simp <;> omega))))), ⟨D, hTM, hKM⟩, hR, hbz, (by repeat (first | with_reducible exact hBr | with_reducible apply bdrew | with_reducible apply bdrewN | with_reducible apply balloc | ((with_reducible refine bset ?_ ?_ _); rotate_left; (first | omega | (simp <;> omega))))), (Cls.below (w := w3) (by repeat (first | with_reducible exact Below.refl _ _ | with_reducible apply bdrew | with_reducible apply bdrewN | with_reducible apply balloc | ((with_reducible refine bset ?_ ?_ _); rotate_left; (first | omega | (simp <;> omega))))) hCr)⟩
      case round =>
        clear hO hTM hKM hR hk hl2 hlt hbz D
        obtain ⟨ls, p, hkl, hp, hl2, rfl, hO, ⟨D, hTM, hKM⟩, hR, hbz, hBs, hCs⟩ := hrel
        obtain ⟨w4, rfl⟩ : ∃ wo : World, wo = wr := ⟨_, rfl⟩
        have dss := hBs.size
        have Fs := hCs
        simp only [Cls, and_true] at Fs
        have ysw1 : w.heap.size + 1 < w4.heap.size := hCs.blk (b := w.heap.size + 1) (k := 0) (v := .int .i64 0) (by simp)
        have ysw0 : w.heap.size < w4.heap.size := (by omega)
        have yswp1 : w.heap.size < w4.heap.size + 1 := (by omega)
        have yswp2 : w.heap.size < w4.heap.size + 1 + 1 := (by omega)
        obtain ⟨A2, c2, rfl⟩ := hO.form
        by_cases hlp : p < t.ops.length
        · obtain ⟨ad, o, A0, c0, A3, c3, A4, c4, rfl, ho, hc0, hc1, hc2, hc3, hm⟩ := hT.ops.at2 hBs hlp
          obtain ⟨hpre, hadd, hcost⟩ := HOW.out o (List.mem_of_getElem? ho.out)
          have HPRE := Lib.hid hpre
          have HADD := Lib.hid hadd
          have HPC := Lib.hid (rx_can (l := []) ho.out)
          clear hpre hadd HPC
          obtain ⟨g, r, he, hr, hrc⟩ := hO.at_ hkl
          subst he
          have HRS := Lib.hid (hR.out.set r (List.mem_of_getElem? hr.out))
          rw [HRS.out.wv hn24] at hrc
          have hgb : g < w4.heap.size := World.block_lt_of_cell? w4 _ hrc
          obtain ⟨nx, hnx⟩ : ∃ x, Hid (nextV n r (rxO o) = x) := ⟨_, Lib.hid rfl⟩
          have HNS := Lib.hid (show SetP nx (n : Int) by rw [← hnx.out]; exact nextV_set n r _)
          have hor : bits .or .u32 (wordV r) (wordV o.add) = wordV nx := by rw [← hnx.out]; exact rx_word HRS.out HADD.out hn24
          by_cases hsub : ∀ q ∈ o.pre, q ∈ r
          · have hz : bits .andNot .u32 (wordV o.pre) (wordV r) = 0 := (word_sub HPRE.out HRS.out hn24).2 hsub
            have HCAN := Lib.hid ((rx_can ho.out).2 hsub)
            clear hsub
            go_wp2_with fail
            go_quiet (((go_at_call 75; refine (rword_any _ _ _ _ (hm.add.below (by repeat (first | with_reducible exact hBs | with_reducible apply bdrew | with_reducible apply bdrewN | with_reducible apply balloc | ((with_reducible refine bset ?_ ?_ _); rotate_left; (first | omega | (simp <;> omega)))))) n HADD.out hn24).mono ?_; rintro e w9 ⟨rfl, rfl⟩; exact ⟨rfl, _, rfl⟩)))
            go_wp2_with fail
            go_quiet (((go_at_call 75; refine (rword_any _ _ _ _ (hm.pre.below (by repeat (first | with_reducible exact hBs | with_reducible apply bdrew | with_reducible apply bdrewN | with_reducible apply balloc | ((with_reducible refine bset ?_ ?_ _); rotate_left; (first | omega | (simp <;> omega)))))) n HPRE.out hn24).mono ?_; rintro e w9 ⟨rfl, rfl⟩; exact ⟨rfl, _, rfl⟩)))
            by_cases hin : nx ∈ ls
            · have hhas : Maps.has D (.int .u32 (wordV nx)) = true := by rw [hKM.out.has nx HNS.out]; exact decide_eq_true hin
              have HR2 := Lib.hid (hR.out.skip hr.out (fun _ => by rw [rx_opAt ho.out, hnx.out]; exact hin))
              clear hin
              go_wp2_with (at_lookup; refine wpList_lookup_own_ok_int _ rfl _ _ 101 rfl 99 3 .i64 law_u32 Try.underlying101 Try.underlying3 (zero_int _) (w1.heap.size + 1) ls.length D rfl (TabM.below hTM (by repeat (first | with_reducible exact Below.refl _ _ | with_reducible apply bdrew | with_reducible apply bdrewN | with_reducible apply balloc | ((with_reducible refine bset ?_ ?_ _); rotate_left; (first | omega | (simp <;> omega)))))) _ _ rfl (HNS.out.key hn24) ?_; intro c hat hwc; rw [hhas]; clear hat hwc)
              go_roundw
              case rel => exact ⟨ls, p + 1, hkl, by omega, by omega, by go_num, hO.below (by repeat (first | with_reducible exact Below.refl _ _ | with_reducible apply bdrew | with_reducible apply bdrewN | with_reducible apply balloc | ((with_reducible refine bset ?_ ?_ _); rotate_left; (first | omega | (simp <;> omega))))), ⟨D, hTM.below (by repeat (first | with_reducible exact Below.refl _ _ | with_reducible apply bdrew | with_reducible apply bdrewN | with_reducible apply balloc | ((with_reducible refine bset ?_ ?_ _); rotate_left; (first | omega | (simp <;> omega))))), hKM⟩, HR2, (by simp; omega), (by repeat (first | with_reducible exact hBs | with_reducible apply bdrew | with_reducible apply bdrewN | with_reducible apply balloc | ((with_reducible refine bset ?_ ?_ _); rotate_left; (first | omega | (simp <;> omega))))), (Cls.below (w := w4) (by repeat (first | with_reducible exact Below.refl _ _ | with_reducible apply bdrew | with_reducible apply bdrewN | with_reducible apply balloc | ((with_reducible refine bset ?_ ?_ _); rotate_left; (first | omega | (simp <;> omega))))) hCs)⟩
              case measure => simp [intOf]; omega
            · have hhas : Maps.has D (.int .u32 (wordV nx)) = false := by rw [hKM.out.has nx HNS.out]; exact decide_eq_false hin
              have HR2 := Lib.hid (hR.out.add (p := p) hr.out (by rw [List.length_map]; exact hlp) HCAN.out (by rw [rx_opAt ho.out, hnx.out]; exact hin))
              rw [rx_opAt ho.out, hnx.out] at HR2
              have HNE := Lib.hid (show f0V st nx = 1000000000 by
                unfold f0V
                rw [if_neg]
                intro e
                rw [e] at hin
                exact hin (List.mem_of_getElem? hR.out.head))
              have HLA := Lib.hid (show (ls ++ [nx]).length = ls.length + 1 by simp)
              have hlen : ls.length < 1000000000000 := by omega
              clear hin
              have HKM5 := Lib.hid (hKM.out.put (World.ownsMap.isMap hTM) HNS.out (ls' := ls ++ [nx]) (by simp) HNE.out (fun l _ _ => rfl))
              go_wp2_with (first | (at_lookup; refine wpList_lookup_own_ok_int _ rfl _ _ 101 rfl 99 3 .i64 law_u32 Try.underlying101 Try.underlying3 (zero_int _) (w1.heap.size + 1) ls.length D rfl (TabM.below hTM (by repeat (first | with_reducible exact Below.refl _ _ | with_reducible apply bdrew | with_reducible apply bdrewN | with_reducible apply balloc | ((with_reducible refine bset ?_ ?_ _); rotate_left; (first | omega | (simp <;> omega)))))) _ _ rfl (HNS.out.key hn24) ?_; intro c hat hwc; rw [hhas]; clear hat hwc) | (at_mapUpdate; refine wpList_mapUpdate_own _ rfl _ _ _ 101 rfl 99 3 law_u32 Try.underlying101 (plainElem Try.prog 3) (w1.heap.size + 1) ls.length D rfl (TabM.below hTM (by repeat (first | with_reducible exact Below.refl _ _ | with_reducible apply bdrew | with_reducible apply bdrewN | with_reducible apply balloc | ((with_reducible refine bset ?_ ?_ _); rotate_left; (first | omega | (simp <;> omega)))))) (by unfold maxLen; omega) _ _ _ rfl rfl (HNS.out.key hn24) (.lit (.int .i64 1000000000)) [] (elem_int (by omega)) ?_; intro w5 hown5 hgrow5; have D5 := grown_below (w0 := w) (by repeat (first | with_reducible exact hBs | with_reducible apply bdrew | with_reducible apply bdrewN | with_reducible apply balloc | ((with_reducible refine bset ?_ ?_ _); rotate_left; (first | omega | (simp <;> omega))))) hgrow5 (by omega); have C5 := Cls.grown_at (l := [(w.heap.size, 0, .int .i64 t.facts), (w.heap.size, 1, .slice Ai t.init.length ci), (w.heap.size, 2, .slice Ag t.goal.length cg), (w.heap.size, 3, .slice (some ad) t.ops.length co), (w.heap.size + 1, 0, .int .i64 0), (w.heap.size + 1, 1, .int .i64 0)]) (Cls.below (w := w4) (by repeat (first | with_reducible exact Below.refl _ _ | with_reducible apply bdrew | with_reducible apply bdrewN | with_reducible apply balloc | ((with_reducible refine bset ?_ ?_ _); rotate_left; (first | omega | (simp <;> omega))))) hCs) hgrow5 (by (simp <;> omega)); have sz5 := hgrow5.size; simp at sz5; have HO5 := Lib.hid ((hO.below (by repeat (first | with_reducible exact Below.refl _ _ | with_reducible apply bdrew | with_reducible apply bdrewN | with_reducible apply balloc | ((with_reducible refine bset ?_ ?_ _); rotate_left; (first | omega | (simp <;> omega)))))).other hgrow5 (by omega)); have HT5 := Lib.hid (show TabM (w1.heap.size + 1) (ls.length + 1) w5 _ from hown5); clear hgrow5 hown5) | (at_builtin; refine wpList_el (p1_stable encW) 102 4 (.int .u32 0) Try.underlying102 info_u32 rfl (by decide) (by decide) rfl (.tmp 75) (.tmp 77) rfl w [(w.heap.size, 0, .int .i64 t.facts), (w.heap.size, 1, .slice Ai t.init.length ci), (w.heap.size, 2, .slice Ag t.goal.length cg), (w.heap.size, 3, .slice (some ad) t.ops.length co), (w.heap.size + 1, 0, .int .i64 0), (w.heap.size + 1, 1, .int .i64 0)] rfl (OwnEs.below (p1_stable encW) HO5.out ?p1) ⟨w5.heap.size, 0, none⟩ 1 rfl [.int .u32 (wordV nx)] nx rfl (cells_one ?p2) ?p8 (p1_w (HNS.out.wv hn24)) hlen ?p3 ?p4 ?p5 ?p6 ?p7 ?_; (case p1 => repeat (first | with_reducible exact Below.refl _ _ | with_reducible apply bdrew | with_reducible apply bdrewN | with_reducible apply balloc | ((with_reducible refine bset ?_ ?_ _); rotate_left; (first | omega | (simp <;> omega))))); (case p2 => simp [go_sem]); (case p3 => (first | omega | (simp <;> omega))); (case p4 => (first | omega | (simp <;> omega))); (case p5 => repeat (first | with_reducible exact D5 | with_reducible apply bdrew | with_reducible apply bdrewN | with_reducible apply balloc | ((with_reducible refine bset ?_ ?_ _); rotate_left; (first | omega | (simp <;> omega))))); (case p6 => exact Cls.below (w := w5) (by repeat (first | with_reducible exact Below.refl _ _ | with_reducible apply bdrew | with_reducible apply bdrewN | with_reducible apply balloc | ((with_reducible refine bset ?_ ?_ _); rotate_left; (first | omega | (simp <;> omega))))) C5); (case p7 => (simp <;> omega)); (case p8 => intro u hu; simp at hu; subst hu; rfl); intro v6 w6 o6 D6 C6 sz6 G6 at6; have HT6 := Lib.hid (World.ownsMap.kept (TabM.below HT5.out (by repeat (first | with_reducible exact Below.refl _ _ | with_reducible apply bdrew | with_reducible apply bdrewN | with_reducible apply balloc | ((with_reducible refine bset ?_ ?_ _); rotate_left; (first | omega | (simp <;> omega)))))) G6 (OwnS.apart HO5.out (by omega))); clear G6 at6))
              have sz6' := sz6
              simp at sz6'
              go_roundw
              case rel => exact ⟨ls ++ [nx], p + 1, by rw [HLA.out]; omega, by omega, by rw [HLA.out]; omega, by go_num, o6, ⟨_, by rw [HLA.out]; exact HT6.out, HKM5⟩, HR2, by omega, D6, C6⟩
              case measure => simp [intOf]; omega
          · obtain ⟨z, hz⟩ : ∃ z, bits .andNot .u32 (wordV o.pre) (wordV r) = z := ⟨_, rfl⟩
            have hz0 : ¬ z = 0 := fun e => hsub ((word_sub HPRE.out HRS.out hn24).1 (by rw [hz, e]))
            have hz1 : (z == 0) = false := by simpa using hz0
            have HR2 := Lib.hid (hR.out.skip hr.out (fun h => absurd ((rx_can ho.out).1 h) hsub))
            clear hsub
            go_wp2_with fail
            go_quiet (((go_at_call 75; refine (rword_any _ _ _ _ (hm.add.below (by repeat (first | with_reducible exact hBs | with_reducible apply bdrew | with_reducible apply bdrewN | with_reducible apply balloc | ((with_reducible refine bset ?_ ?_ _); rotate_left; (first | omega | (simp <;> omega)))))) n HADD.out hn24).mono ?_; rintro e w9 ⟨rfl, rfl⟩; exact ⟨rfl, _, rfl⟩)))
            go_wp2_with fail
            go_quiet (((go_at_call 75; refine (rword_any _ _ _ _ (hm.pre.below (by repeat (first | with_reducible exact hBs | with_reducible apply bdrew | with_reducible apply bdrewN | with_reducible apply balloc | ((with_reducible refine bset ?_ ?_ _); rotate_left; (first | omega | (simp <;> omega)))))) n HPRE.out hn24).mono ?_; rintro e w9 ⟨rfl, rfl⟩; exact ⟨rfl, _, rfl⟩)))
            go_wp2
            go_roundw
            case rel => exact ⟨ls, p + 1, hkl, by omega, by omega, by go_num, hO.below (by repeat (first | with_reducible exact Below.refl _ _ | with_reducible apply bdrew | with_reducible apply bdrewN | with_reducible apply balloc | ((with_reducible refine bset ?_ ?_ _); rotate_left; (first | omega | (simp <;> omega))))), ⟨D, hTM.below (by repeat (first | with_reducible exact Below.refl _ _ | with_reducible apply bdrew | with_reducible apply bdrewN | with_reducible apply balloc | ((with_reducible refine bset ?_ ?_ _); rotate_left; (first | omega | (simp <;> omega))))), hKM⟩, HR2, (by simp; omega), (by repeat (first | with_reducible exact hBs | with_reducible apply bdrew | with_reducible apply bdrewN | with_reducible apply balloc | ((with_reducible refine bset ?_ ?_ _); rotate_left; (first | omega | (simp <;> omega))))), (Cls.below (w := w4) (by repeat (first | with_reducible exact Below.refl _ _ | with_reducible apply bdrew | with_reducible apply bdrewN | with_reducible apply balloc | ((with_reducible refine bset ?_ ?_ _); rotate_left; (first | omega | (simp <;> omega))))) hCs)⟩
            case measure => simp [intOf]; omega
        · have HR2 := Lib.hid (hR.out.row (by rw [List.length_map]; omega))
          by_cases hbig : 2000 < ls.length
          · have HMA := Lib.hid (many_of HR2.out hbig)
            have hb1 : (ls.length : Int) > 2000 := by omega
            clear hbig
            go_wp2
            refine bodyPost_ret (v := .tuple #[.int .i64 0, .agg #[.int .i64 10, .int .i64 (-7)]]) ?_ rfl ⟨0, 10, -7, rfl, .inr ⟨⟨rfl, rfl, rfl⟩, HMA.out⟩, by repeat (first | with_reducible exact hBs | with_reducible apply bdrew | with_reducible apply bdrewN | with_reducible apply balloc | ((with_reducible refine bset ?_ ?_ _); rotate_left; (first | omega | (simp <;> omega))))⟩
            simp [results, Try.results34, go_sem, Fs, ysw1, ysw0, yswp1, yswp2]
          · have hb1 : ¬ (ls.length : Int) > 2000 := by omega
            go_wp2
            go_roundw
            case rel => exact ⟨ls, k + 1, by omega, by omega, by go_num, hO, ⟨D, hTM, hKM⟩, HR2, hbz, hBs, hCs⟩
            case measure => simp [intOf]; omega
    · have HE := Lib.hid (show k = ls.length by omega)
      have HR3 := Lib.hid (show RSt n (t.ops.map rxO) st ls ls.length 0 by have h := hR.out; rw [HE.out] at h; exact h)
      have hl3 : ls.length ≤ 1000000000000 := by omega
      clear hR HE
      obtain ⟨A1, c1, rfl⟩ := hO.form
      go_wp2_with fail
      refine (sortf_any (w0 := w) (hO.below (by repeat (first | with_reducible exact Below.refl _ _ | with_reducible apply bdrew | with_reducible apply bdrewN | with_reducible apply balloc | ((with_reducible refine bset ?_ ?_ _); rotate_left; (first | omega | (simp <;> omega)))))) (by omega) (by repeat (first | with_reducible exact hBr | with_reducible apply bdrew | with_reducible apply bdrewN | with_reducible apply balloc | ((with_reducible refine bset ?_ ?_ _); rotate_left; (first | omega | (simp <;> omega))))) hl3).mono ?_
      rintro e w5 ⟨rfl, rs, hperm, hsort, hO5, hg5, D5⟩
      have C5 := OwnS.cls (hO.below (by repeat (first | with_reducible exact Below.refl _ _ | with_reducible apply bdrew | with_reducible apply bdrewN | with_reducible apply balloc | ((with_reducible refine bset ?_ ?_ _); rotate_left; (first | omega | (simp <;> omega)))))) hCr hg5 (by (simp <;> omega))
      have hT5 : TabM (w1.heap.size + 1) ls.length w5 D := World.ownsMap.kept (TabM.below hTM (by repeat (first | with_reducible exact Below.refl _ _ | with_reducible apply bdrew | with_reducible apply bdrewN | with_reducible apply balloc | ((with_reducible refine bset ?_ ?_ _); rotate_left; (first | omega | (simp <;> omega)))))) hg5 (OwnS.apart hO (by omega))
      have sz5 := hg5.size
      try simp at sz5
      have HLEN := Lib.hid hperm.length_eq
      have HMEM := Lib.hid (fun l => hperm.mem_iff (a := l))
      have HSET := Lib.hid (fun l (hl : l ∈ rs) => HR3.out.set l ((HMEM.out l).1 hl))
      have HND := Lib.hid (hperm.nodup_iff.2 HR3.out.nodup)
      have HORD := Lib.hid (ordered_of (ops := t.ops) hn24 HSET.out HND.out (fun i j a b hij ha hb => by
        have h := hsort i j a b hij ha hb
        rwa [(HSET.out a (List.mem_of_getElem? ha)).wv hn24, (HSET.out b (List.mem_of_getElem? hb)).wv hn24] at h))
      have HCL := Lib.hid (fun (l : List Int) (p : Nat) (o : OpV) (hl : l ∈ rs) (ho : (t.ops.map rxO)[p]? = some o) (hc : ∀ q ∈ o.pre, q ∈ l) => (HMEM.out _).2 (HR3.out.closed l p o ((HMEM.out l).1 hl) ho hc))
      have HCO := Lib.hid (show ∀ o ∈ (t.ops.map rxO), 0 ≤ o.cost from fun o ho => by
        obtain ⟨o', h1, rfl⟩ := List.mem_map.1 ho
        exact (HOW.out o' h1).cost.1)
      have HSM := Lib.hid ((HMEM.out st).2 (List.mem_of_getElem? HR3.out.head))
      have HK5 := Lib.hid (hKM.out.mem (ls' := rs) HMEM.out)
      have HD5 := Lib.hid (DPI.init (n := n) (ops := (t.ops.map rxO)) (goal := t.goal) (st := st) (ls := rs) (f := f0V st) (fun l _ => rfl) (by simp [f0V]))
      clear hperm hsort hg5 hO hTM hKM hCr hBr
      go_wp2_with fail
      go_loopw [15, 88] (fun b i wr => ∃ (k : Nat) (bv : Int) (f : List Int → Int) (D : DataW Unit) (mm : Nat), k ≤ ls.length ∧ i = .int .i64 k ∧ b = .int .i64 bv ∧ OwnS (w1.heap.size + 1 + 1) wr (.slice A1 ls.length c1) rs ∧ TabM (w1.heap.size + 1) mm wr D ∧ mm ≤ 100000 + 100 * k ∧ Hid (KM D rs n f) ∧ Hid (DPI n (t.ops.map rxO) t.goal st rs k 0 k f bv) ∧ (w1.heap.size + 1 + 1) ≤ wr.heap.size ∧ Below w.heap.size w wr ∧ Cls wr [(w.heap.size, 0, .int .i64 t.facts), (w.heap.size, 1, .slice Ai t.init.length ci), (w.heap.size, 2, .slice Ag t.goal.length cg), (w.heap.size, 3, .slice Ao t.ops.length co), (w.heap.size + 1, 0, .int .i64 0), (w.heap.size + 1, 1, .int .i64 0)]) (fun _ i _ => ls.length - (intOf i).toNat)
      case atStart => exact ⟨0, 1000000000, f0V st, D, ls.length, Nat.zero_le _, rfl, rfl, hO5.below (by repeat (first | with_reducible exact Below.refl _ _ | with_reducible apply bdrew | with_reducible apply bdrewN | with_reducible apply balloc | ((with_reducible refine bset ?_ ?_ _); rotate_left; (first | omega | (simp <;> omega))))), hT5.below (by repeat (first | with_reducible exact Below.refl _ _ | with_reducible apply bdrew | with_reducible apply bdrewN | with_reducible apply balloc | ((with_reducible refine bset ?_ ?_ _); rotate_left; (first | omega | (simp <;> omega))))), by omega, HK5, HD5, by (first | omega | (simp; omega)), (by repeat (first | with_reducible exact D5 | with_reducible apply bdrew | with_reducible apply bdrewN | with_reducible apply balloc | ((with_reducible refine bset ?_ ?_ _); rotate_left; (first | omega | (simp <;> omega))))), (Cls.below (w := w5) (by repeat (first | with_reducible exact Below.refl _ _ | with_reducible apply bdrew | with_reducible apply bdrewN | with_reducible apply balloc | ((with_reducible refine bset ?_ ?_ _); rotate_left; (first | omega | (simp <;> omega))))) C5)⟩
      case round =>
        clear HK5 HD5 C5 hT5 hO5 hk hlt hbz
        obtain ⟨k, bv, f, D, mm, hk, rfl, rfl, hO, hTM, hmm2, hKM, hD, hbz, hBu, hCu⟩ := hrel
        obtain ⟨w6, rfl⟩ : ∃ wo : World, wo = wr := ⟨_, rfl⟩
        have dus := hBu.size
        have Fu := hCu
        simp only [Cls, and_true] at Fu
        have yuw1 : w.heap.size + 1 < w6.heap.size := hCu.blk (b := w.heap.size + 1) (k := 0) (v := .int .i64 0) (by simp)
        have yuw0 : w.heap.size < w6.heap.size := (by omega)
        have yuwp1 : w.heap.size < w6.heap.size + 1 := (by omega)
        have yuwp2 : w.heap.size < w6.heap.size + 1 + 1 := (by omega)
        by_cases hlt : k < ls.length
        · obtain ⟨g, l, he, hl, hlc⟩ := hO.at_ (show k < rs.length by rw [HLEN.out]; exact hlt)
          subst he
          have hgb : g < w6.heap.size := World.block_lt_of_cell? w6 _ hlc
          have HLM := Lib.hid (List.mem_of_getElem? hl.out)
          have HLS := Lib.hid (HSET.out l HLM.out)
          rw [HLS.out.wv hn24] at hlc
          obtain ⟨fl, hfl⟩ : ∃ x, Hid (f l = x) := ⟨_, Lib.hid rfl⟩
          have hflr := hD.out.rng l HLM.out
          rw [hfl.out] at hflr
          have hbr := hD.out.brng
          by_cases hgo : ∀ q ∈ t.goal, q ∈ l
          · have hz : bits .andNot .u32 (wordV t.goal) (wordV l) = 0 := (word_sub HGO.out HLS.out hn24).2 hgo
            obtain ⟨bw, hbw⟩ : ∃ x, min bv fl = x := ⟨_, rfl⟩
            have hbw2 : (if bv ≤ fl then bv else fl) = bw := by rw [← hbw]; split <;> omega
            have HD2 := Lib.hid (show DPI n (t.ops.map rxO) t.goal st rs k 0 (k + 1) f bw by rw [← hbw, ← hfl.out]; exact hD.out.goal_yes hl.out hgo)
            clear hgo
            go_wp2_with fail
            refine (rword_any _ _ _ _ (hT.goal.below (by repeat (first | with_reducible exact hBu | with_reducible apply bdrew | with_reducible apply bdrewN | with_reducible apply balloc | ((with_reducible refine bset ?_ ?_ _); rotate_left; (first | omega | (simp <;> omega)))))) n HGO.out hn24).mono ?_
            rintro e w9 ⟨rfl, hW9⟩
            rw [← hW9]
            clear hW9 w9
            go_wp2_with (at_lookup; refine wpList_lookup_own_int _ rfl _ _ 101 rfl 99 3 .i64 law_u32 Try.underlying101 Try.underlying3 (zero_int _) (w1.heap.size + 1) mm D rfl (TabM.below hTM (by repeat (first | with_reducible exact Below.refl _ _ | with_reducible apply bdrew | with_reducible apply bdrewN | with_reducible apply balloc | ((with_reducible refine bset ?_ ?_ _); rotate_left; (first | omega | (simp <;> omega)))))) _ _ rfl (HLS.out.key hn24) ?_; intro c hat hwc; obtain rfl : c = fl := (hKM.out.at_ HLS.out HLM.out hat).trans hfl.out; clear hat hwc)
            go_loopw [106] (fun i wr => ∃ (p : Nat) (f : List Int → Int) (D : DataW Unit) (mm : Nat), p ≤ t.ops.length ∧ i = .int .i64 p ∧ OwnS (w1.heap.size + 1 + 1) wr (.slice (some ⟨g, 0, none⟩) ls.length c1) rs ∧ TabM (w1.heap.size + 1) mm wr D ∧ mm ≤ 100000 + 100 * k + p ∧ Hid (KM D rs n f) ∧ Hid (DPI n (t.ops.map rxO) t.goal st rs k p (k + 1) f bw) ∧ (w1.heap.size + 1 + 1) ≤ wr.heap.size ∧ Below w.heap.size w wr ∧ Cls wr [(w.heap.size, 0, .int .i64 t.facts), (w.heap.size, 1, .slice Ai t.init.length ci), (w.heap.size, 2, .slice Ag t.goal.length cg), (w.heap.size, 3, .slice Ao t.ops.length co), (w.heap.size + 1, 0, .int .i64 0), (w.heap.size + 1, 1, .int .i64 0)]) (fun i _ => t.ops.length - (intOf i).toNat)
            case atStart => exact ⟨0, f, D, mm, Nat.zero_le _, rfl, hO.below (by repeat (first | with_reducible exact Below.refl _ _ | with_reducible apply bdrew | with_reducible apply bdrewN | with_reducible apply balloc | ((with_reducible refine bset ?_ ?_ _); rotate_left; (first | omega | (simp <;> omega))))), hTM.below (by repeat (first | with_reducible exact Below.refl _ _ | with_reducible apply bdrew | with_reducible apply bdrewN | with_reducible apply balloc | ((with_reducible refine bset ?_ ?_ _); rotate_left; (first | omega | (simp <;> omega))))), by omega, hKM, HD2, hbz, (by repeat (first | with_reducible exact hBu | with_reducible apply bdrew | with_reducible apply bdrewN | with_reducible apply balloc | ((with_reducible refine bset ?_ ?_ _); rotate_left; (first | omega | (simp <;> omega))))), (Cls.below (w := w6) (by repeat (first | with_reducible exact Below.refl _ _ | with_reducible apply bdrew | with_reducible apply bdrewN | with_reducible apply balloc | ((with_reducible refine bset ?_ ?_ _); rotate_left; (first | omega | (simp <;> omega))))) hCu)⟩
            case round =>
              clear HD2 hD hKM hTM hO hmm2 hfl hflr hbz hlc hgb
              obtain ⟨p, f, D, mm, hp, rfl, hO, hTM, hmm2, hKM, hD, hbz, hBv, hCv⟩ := hrel
              obtain ⟨w7, rfl⟩ : ∃ wo : World, wo = wr := ⟨_, rfl⟩
              have dvs := hBv.size
              have Fv := hCv
              simp only [Cls, and_true] at Fv
              have yvw1 : w.heap.size + 1 < w7.heap.size := hCv.blk (b := w.heap.size + 1) (k := 0) (v := .int .i64 0) (by simp)
              have yvw0 : w.heap.size < w7.heap.size := (by omega)
              have yvwp1 : w.heap.size < w7.heap.size + 1 := (by omega)
              have yvwp2 : w.heap.size < w7.heap.size + 1 + 1 := (by omega)
              by_cases hlp : p < t.ops.length
              · obtain ⟨ad, o, A0, c0, A3, c3, A4, c4, rfl, ho, hc0, hc1, hc2, hc3, hm⟩ := hT.ops.at2 hBv hlp
                obtain ⟨hpre, hadd, hcost⟩ := HOW.out o (List.mem_of_getElem? ho.out)
                have HPRE := Lib.hid hpre
                have HADD := Lib.hid hadd
                clear hpre hadd
                by_cases hsub : ∀ q ∈ o.pre, q ∈ l
                · have hz : bits .andNot .u32 (wordV o.pre) (wordV l) = 0 := (word_sub HPRE.out HLS.out hn24).2 hsub
                  have HIN := Lib.hid (HCL.out l p (rxO o) HLM.out (rx_at ho.out) hsub)
                  obtain ⟨nx, hnx⟩ : ∃ x, Hid (nextV n l (rxO o) = x) := ⟨_, Lib.hid rfl⟩
                  rw [hnx.out] at HIN
                  have HNS := Lib.hid (HSET.out nx HIN.out)
                  have hor : bits .or .u32 (wordV l) (wordV o.add) = wordV nx := by rw [← hnx.out]; exact rx_word HLS.out HADD.out hn24
                  obtain ⟨fl, hfl⟩ : ∃ x, Hid (f l = x) := ⟨_, Lib.hid rfl⟩
                  have hflr := hD.out.rng l HLM.out
                  rw [hfl.out] at hflr
                  obtain ⟨fn, hfn⟩ : ∃ x, Hid (f nx = x) := ⟨_, Lib.hid rfl⟩
                  have hfnr := hD.out.rng nx HIN.out
                  rw [hfn.out] at hfnr
                  obtain ⟨ev, hev⟩ : ∃ x, min fn (fl + o.cost) = x := ⟨_, rfl⟩
                  have hev2 : (if fn ≤ fl + o.cost then fn else fl + o.cost) = ev := by rw [← hev]; split <;> omega
                  have hevr : 0 ≤ ev ∧ ev ≤ 1000000000 := by rw [← hev]; omega
                  have HD7 := Lib.hid (show DPI n (t.ops.map rxO) t.goal st rs k (p + 1) (k + 1) (fun r => if r = nx then ev else f r) bw from DPI.use hD.out HORD.out HND.out HCO.out hl.out (rx_at ho.out) hsub HCL.out (by rw [hnx.out]; simp; rw [hfn.out, hfl.out]; exact hev.symm) (fun r _ hr => by rw [hnx.out] at hr; simp [hr]) HSM.out)
                  have HK7 := Lib.hid (hKM.out.put (World.ownsMap.isMap hTM) HNS.out (ls' := rs) (f' := fun r => if r = nx then ev else f r) (fun r => ⟨.inl, fun h => h.elim id fun e => e ▸ HIN.out⟩) (y := ev) (by simp) (fun r _ hr => by simp [hr]))
                  clear hsub
                  go_wp2_with fail
                  refine (rword_any _ _ _ _ (hm.pre.below (by repeat (first | with_reducible exact hBv | with_reducible apply bdrew | with_reducible apply bdrewN | with_reducible apply balloc | ((with_reducible refine bset ?_ ?_ _); rotate_left; (first | omega | (simp <;> omega)))))) n HPRE.out hn24).mono ?_
                  rintro e w9 ⟨rfl, hW9⟩
                  rw [← hW9]
                  clear hW9 w9
                  go_wp2_with fail
                  refine (rword_any _ _ _ _ (hm.add.below (by repeat (first | with_reducible exact hBv | with_reducible apply bdrew | with_reducible apply bdrewN | with_reducible apply balloc | ((with_reducible refine bset ?_ ?_ _); rotate_left; (first | omega | (simp <;> omega)))))) n HADD.out hn24).mono ?_
                  rintro e w9 ⟨rfl, hW9⟩
                  rw [← hW9]
                  clear hW9 w9
                  go_wp2_with (first | (at_lookup; refine wpList_lookup_own_int _ rfl _ _ 101 rfl 99 3 .i64 law_u32 Try.underlying101 Try.underlying3 (zero_int _) (w1.heap.size + 1) mm D rfl (TabM.below hTM (by repeat (first | with_reducible exact Below.refl _ _ | with_reducible apply bdrew | with_reducible apply bdrewN | with_reducible apply balloc | ((with_reducible refine bset ?_ ?_ _); rotate_left; (first | omega | (simp <;> omega)))))) _ _ rfl (HNS.out.key hn24) ?_; intro c hat hwc; obtain rfl : c = fn := (hKM.out.at_ HNS.out HIN.out hat).trans hfn.out; clear hat hwc) | (at_lookup; refine wpList_lookup_own_int _ rfl _ _ 101 rfl 99 3 .i64 law_u32 Try.underlying101 Try.underlying3 (zero_int _) (w1.heap.size + 1) mm D rfl (TabM.below hTM (by repeat (first | with_reducible exact Below.refl _ _ | with_reducible apply bdrew | with_reducible apply bdrewN | with_reducible apply balloc | ((with_reducible refine bset ?_ ?_ _); rotate_left; (first | omega | (simp <;> omega)))))) _ _ rfl (HLS.out.key hn24) ?_; intro c hat hwc; obtain rfl : c = fl := (hKM.out.at_ HLS.out HLM.out hat).trans hfl.out; clear hat hwc) | (at_mapUpdate; refine wpList_mapUpdate_own _ rfl _ _ _ 101 rfl 99 3 law_u32 Try.underlying101 (plainElem Try.prog 3) (w1.heap.size + 1) mm D rfl (TabM.below hTM (by repeat (first | with_reducible exact Below.refl _ _ | with_reducible apply bdrew | with_reducible apply bdrewN | with_reducible apply balloc | ((with_reducible refine bset ?_ ?_ _); rotate_left; (first | omega | (simp <;> omega)))))) (by unfold maxLen; omega) _ _ _ rfl rfl (HNS.out.key hn24) _ [] (elem_int (by omega)) ?_; intro w8 hown8 hgrow8; have D8 := grown_below (w0 := w) (by repeat (first | with_reducible exact hBv | with_reducible apply bdrew | with_reducible apply bdrewN | with_reducible apply balloc | ((with_reducible refine bset ?_ ?_ _); rotate_left; (first | omega | (simp <;> omega))))) hgrow8 (by omega); have C8 := Cls.grown_at (l := [(w.heap.size, 0, .int .i64 t.facts), (w.heap.size, 1, .slice Ai t.init.length ci), (w.heap.size, 2, .slice Ag t.goal.length cg), (w.heap.size, 3, .slice (some ad) t.ops.length co), (w.heap.size + 1, 0, .int .i64 0), (w.heap.size + 1, 1, .int .i64 0)]) (Cls.below (w := w7) (by repeat (first | with_reducible exact Below.refl _ _ | with_reducible apply bdrew | with_reducible apply bdrewN | with_reducible apply balloc | ((with_reducible refine bset ?_ ?_ _); rotate_left; (first | omega | (simp <;> omega))))) hCv) hgrow8 (by (simp <;> omega)); have sz8 := hgrow8.size; simp at sz8; have HO8 := Lib.hid ((hO.below (by repeat (first | with_reducible exact Below.refl _ _ | with_reducible apply bdrew | with_reducible apply bdrewN | with_reducible apply balloc | ((with_reducible refine bset ?_ ?_ _); rotate_left; (first | omega | (simp <;> omega)))))).other hgrow8 (by omega)); have HT8 := Lib.hid (show TabM (w1.heap.size + 1) (mm + 1) w8 (D.put (.int .u32 (wordV nx)) (.lit (.int .i64 ev))) from hown8); clear hgrow8 hown8))
                  go_roundw
                  case rel => exact ⟨p + 1, _, _, mm + 1, by omega, by go_num, HO8.out, HT8.out, by omega, HK7, HD7, by omega, D8, C8⟩
                  case measure => simp [intOf]; omega
                · obtain ⟨z, hz⟩ : ∃ z, bits .andNot .u32 (wordV o.pre) (wordV l) = z := ⟨_, rfl⟩
                  have hz0 : ¬ z = 0 := fun e => hsub ((word_sub HPRE.out HLS.out hn24).1 (by rw [hz, e]))
                  have hz1 : (z == 0) = false := by simpa using hz0
                  have HD7 := Lib.hid (hD.out.skip hl.out (rx_at ho.out) hsub)
                  clear hsub
                  go_wp2_with fail
                  refine (rword_any _ _ _ _ (hm.pre.below (by repeat (first | with_reducible exact hBv | with_reducible apply bdrew | with_reducible apply bdrewN | with_reducible apply balloc | ((with_reducible refine bset ?_ ?_ _); rotate_left; (first | omega | (simp <;> omega)))))) n HPRE.out hn24).mono ?_
                  rintro e w9 ⟨rfl, hW9⟩
                  rw [← hW9]
                  clear hW9 w9
                  go_wp2
                  go_roundw
                  case rel => exact ⟨p + 1, f, D, mm, by omega, by go_num, hO.below (by repeat (first | with_reducible exact Below.refl _ _ | with_reducible apply bdrew | with_reducible apply bdrewN | with_reducible apply balloc | ((with_reducible refine bset ?_ ?_ _); rotate_left; (first | omega | (simp <;> omega))))), hTM.below (by repeat (first | with_reducible exact Below.refl _ _ | with_reducible apply bdrew | with_reducible apply bdrewN | with_reducible apply balloc | ((with_reducible refine bset ?_ ?_ _); rotate_left; (first | omega | (simp <;> omega))))), by omega, hKM, HD7, (by simp; omega), (by repeat (first | with_reducible exact hBv | with_reducible apply bdrew | with_reducible apply bdrewN | with_reducible apply balloc | ((with_reducible refine bset ?_ ?_ _); rotate_left; (first | omega | (simp <;> omega))))), (Cls.below (w := w7) (by repeat (first | with_reducible exact Below.refl _ _ | with_reducible apply bdrew | with_reducible apply bdrewN | with_reducible apply balloc | ((with_reducible refine bset ?_ ?_ _); rotate_left; (first | omega | (simp <;> omega))))) hCv)⟩
                  case measure => simp [intOf]; omega
              · have HD7 := Lib.hid (hD.out.row (by rw [List.length_map]; omega))
                go_wp2
                go_roundw
                case rel => exact ⟨k + 1, bw, f, D, mm, by omega, by go_num, rfl, hO, hTM, by omega, hKM, HD7, hbz, hBv, hCv⟩
                case measure => simp [intOf]; omega
          · obtain ⟨z, hz⟩ : ∃ z, bits .andNot .u32 (wordV t.goal) (wordV l) = z := ⟨_, rfl⟩
            have hz0 : ¬ z = 0 := fun e => hgo ((word_sub HGO.out HLS.out hn24).1 (by rw [hz, e]))
            have hz1 : (z == 0) = false := by simpa using hz0
            have HD2 := Lib.hid (hD.out.goal_no hl.out hgo)
            clear hgo
            go_wp2_with fail
            refine (rword_any _ _ _ _ (hT.goal.below (by repeat (first | with_reducible exact hBu | with_reducible apply bdrew | with_reducible apply bdrewN | with_reducible apply balloc | ((with_reducible refine bset ?_ ?_ _); rotate_left; (first | omega | (simp <;> omega)))))) n HGO.out hn24).mono ?_
            rintro e w9 ⟨rfl, hW9⟩
            rw [← hW9]
            clear hW9 w9
            go_wp2_with fail
            go_loopw [106] (fun i wr => ∃ (p : Nat) (f : List Int → Int) (D : DataW Unit) (mm : Nat), p ≤ t.ops.length ∧ i = .int .i64 p ∧ OwnS (w1.heap.size + 1 + 1) wr (.slice (some ⟨g, 0, none⟩) ls.length c1) rs ∧ TabM (w1.heap.size + 1) mm wr D ∧ mm ≤ 100000 + 100 * k + p ∧ Hid (KM D rs n f) ∧ Hid (DPI n (t.ops.map rxO) t.goal st rs k p (k + 1) f bv) ∧ (w1.heap.size + 1 + 1) ≤ wr.heap.size ∧ Below w.heap.size w wr ∧ Cls wr [(w.heap.size, 0, .int .i64 t.facts), (w.heap.size, 1, .slice Ai t.init.length ci), (w.heap.size, 2, .slice Ag t.goal.length cg), (w.heap.size, 3, .slice Ao t.ops.length co), (w.heap.size + 1, 0, .int .i64 0), (w.heap.size + 1, 1, .int .i64 0)]) (fun i _ => t.ops.length - (intOf i).toNat)
            case atStart => exact ⟨0, f, D, mm, Nat.zero_le _, rfl, hO.below (by repeat (first | with_reducible exact Below.refl _ _ | with_reducible apply bdrew | with_reducible apply bdrewN | with_reducible apply balloc | ((with_reducible refine bset ?_ ?_ _); rotate_left; (first | omega | (simp <;> omega))))), hTM.below (by repeat (first | with_reducible exact Below.refl _ _ | with_reducible apply bdrew | with_reducible apply bdrewN | with_reducible apply balloc | ((with_reducible refine bset ?_ ?_ _); rotate_left; (first | omega | (simp <;> omega))))), by omega, hKM, HD2, hbz, (by repeat (first | with_reducible exact hBu | with_reducible apply bdrew | with_reducible apply bdrewN | with_reducible apply balloc | ((with_reducible refine bset ?_ ?_ _); rotate_left; (first | omega | (simp <;> omega))))), (Cls.below (w := w6) (by repeat (first | with_reducible exact Below.refl _ _ | with_reducible apply bdrew | with_reducible apply bdrewN | with_reducible apply balloc | ((with_reducible refine bset ?_ ?_ _); rotate_left; (first | omega | (simp <;> omega))))) hCu)⟩
            case round =>
              clear HD2 hD hKM hTM hO hmm2 hfl hflr hbz hlc hgb
              obtain ⟨p, f, D, mm, hp, rfl, hO, hTM, hmm2, hKM, hD, hbz, hBv, hCv⟩ := hrel
              obtain ⟨w7, rfl⟩ : ∃ wo : World, wo = wr := ⟨_, rfl⟩
              have dvs := hBv.size
              have Fv := hCv
              simp only [Cls, and_true] at Fv
              have yvw1 : w.heap.size + 1 < w7.heap.size := hCv.blk (b := w.heap.size + 1) (k := 0) (v := .int .i64 0) (by simp)
              have yvw0 : w.heap.size < w7.heap.size := (by omega)
              have yvwp1 : w.heap.size < w7.heap.size + 1 := (by omega)
              have yvwp2 : w.heap.size < w7.heap.size + 1 + 1 := (by omega)
              by_cases hlp : p < t.ops.length
              · obtain ⟨ad, o, A0, c0, A3, c3, A4, c4, rfl, ho, hc0, hc1, hc2, hc3, hm⟩ := hT.ops.at2 hBv hlp
                obtain ⟨hpre, hadd, hcost⟩ := HOW.out o (List.mem_of_getElem? ho.out)
                have HPRE := Lib.hid hpre
                have HADD := Lib.hid hadd
                clear hpre hadd
                by_cases hsub : ∀ q ∈ o.pre, q ∈ l
                · have hz : bits .andNot .u32 (wordV o.pre) (wordV l) = 0 := (word_sub HPRE.out HLS.out hn24).2 hsub
                  have HIN := Lib.hid (HCL.out l p (rxO o) HLM.out (rx_at ho.out) hsub)
                  obtain ⟨nx, hnx⟩ : ∃ x, Hid (nextV n l (rxO o) = x) := ⟨_, Lib.hid rfl⟩
                  rw [hnx.out] at HIN
                  have HNS := Lib.hid (HSET.out nx HIN.out)
                  have hor : bits .or .u32 (wordV l) (wordV o.add) = wordV nx := by rw [← hnx.out]; exact rx_word HLS.out HADD.out hn24
                  obtain ⟨fl, hfl⟩ : ∃ x, Hid (f l = x) := ⟨_, Lib.hid rfl⟩
                  have hflr := hD.out.rng l HLM.out
                  rw [hfl.out] at hflr
                  obtain ⟨fn, hfn⟩ : ∃ x, Hid (f nx = x) := ⟨_, Lib.hid rfl⟩
                  have hfnr := hD.out.rng nx HIN.out
                  rw [hfn.out] at hfnr
                  obtain ⟨ev, hev⟩ : ∃ x, min fn (fl + o.cost) = x := ⟨_, rfl⟩
                  have hev2 : (if fn ≤ fl + o.cost then fn else fl + o.cost) = ev := by rw [← hev]; split <;> omega
                  have hevr : 0 ≤ ev ∧ ev ≤ 1000000000 := by rw [← hev]; omega
                  have HD7 := Lib.hid (show DPI n (t.ops.map rxO) t.goal st rs k (p + 1) (k + 1) (fun r => if r = nx then ev else f r) bv from DPI.use hD.out HORD.out HND.out HCO.out hl.out (rx_at ho.out) hsub HCL.out (by rw [hnx.out]; simp; rw [hfn.out, hfl.out]; exact hev.symm) (fun r _ hr => by rw [hnx.out] at hr; simp [hr]) HSM.out)
                  have HK7 := Lib.hid (hKM.out.put (World.ownsMap.isMap hTM) HNS.out (ls' := rs) (f' := fun r => if r = nx then ev else f r) (fun r => ⟨.inl, fun h => h.elim id fun e => e ▸ HIN.out⟩) (y := ev) (by simp) (fun r _ hr => by simp [hr]))
                  clear hsub
                  go_wp2_with fail
                  refine (rword_any _ _ _ _ (hm.pre.below (by repeat (first | with_reducible exact hBv | with_reducible apply bdrew | with_reducible apply bdrewN | with_reducible apply balloc | ((with_reducible refine bset ?_ ?_ _); rotate_left; (first | omega | (simp <;> omega)))))) n HPRE.out hn24).mono ?_
                  rintro e w9 ⟨rfl, hW9⟩
                  rw [← hW9]
                  clear hW9 w9
                  go_wp2_with fail
                  refine (rword_any _ _ _ _ (hm.add.below (by repeat (first | with_reducible exact hBv | with_reducible apply bdrew | with_reducible apply bdrewN | with_reducible apply balloc | ((with_reducible refine bset ?_ ?_ _); rotate_left; (first | omega | (simp <;> omega)))))) n HADD.out hn24).mono ?_
                  rintro e w9 ⟨rfl, hW9⟩
                  rw [← hW9]
                  clear hW9 w9
                  go_wp2_with (first | (at_lookup; refine wpList_lookup_own_int _ rfl _ _ 101 rfl 99 3 .i64 law_u32 Try.underlying101 Try.underlying3 (zero_int _) (w1.heap.size + 1) mm D rfl (TabM.below hTM (by repeat (first | with_reducible exact Below.refl _ _ | with_reducible apply bdrew | with_reducible apply bdrewN | with_reducible apply balloc | ((with_reducible refine bset ?_ ?_ _); rotate_left; (first | omega | (simp <;> omega)))))) _ _ rfl (HNS.out.key hn24) ?_; intro c hat hwc; obtain rfl : c = fn := (hKM.out.at_ HNS.out HIN.out hat).trans hfn.out; clear hat hwc) | (at_lookup; refine wpList_lookup_own_int _ rfl _ _ 101 rfl 99 3 .i64 law_u32 Try.underlying101 Try.underlying3 (zero_int _) (w1.heap.size + 1) mm D rfl (TabM.below hTM (by repeat (first | with_reducible exact Below.refl _ _ | with_reducible apply bdrew | with_reducible apply bdrewN | with_reducible apply balloc | ((with_reducible refine bset ?_ ?_ _); rotate_left; (first | omega | (simp <;> omega)))))) _ _ rfl (HLS.out.key hn24) ?_; intro c hat hwc; obtain rfl : c = fl := (hKM.out.at_ HLS.out HLM.out hat).trans hfl.out; clear hat hwc) | (at_mapUpdate; refine wpList_mapUpdate_own _ rfl _ _ _ 101 rfl 99 3 law_u32 Try.underlying101 (plainElem Try.prog 3) (w1.heap.size + 1) mm D rfl (TabM.below hTM (by repeat (first | with_reducible exact Below.refl _ _ | with_reducible apply bdrew | with_reducible apply bdrewN | with_reducible apply balloc | ((with_reducible refine bset ?_ ?_ _); rotate_left; (first | omega | (simp <;> omega)))))) (by unfold maxLen; omega) _ _ _ rfl rfl (HNS.out.key hn24) _ [] (elem_int (by omega)) ?_; intro w8 hown8 hgrow8; have D8 := grown_below (w0 := w) (by repeat (first | with_reducible exact hBv | with_reducible apply bdrew | with_reducible apply bdrewN | with_reducible apply balloc | ((with_reducible refine bset ?_ ?_ _); rotate_left; (first | omega | (simp <;> omega))))) hgrow8 (by omega); have C8 := Cls.grown_at (l := [(w.heap.size, 0, .int .i64 t.facts), (w.heap.size, 1, .slice Ai t.init.length ci), (w.heap.size, 2, .slice Ag t.goal.length cg), (w.heap.size, 3, .slice (some ad) t.ops.length co), (w.heap.size + 1, 0, .int .i64 0), (w.heap.size + 1, 1, .int .i64 0)]) (Cls.below (w := w7) (by repeat (first | with_reducible exact Below.refl _ _ | with_reducible apply bdrew | with_reducible apply bdrewN | with_reducible apply balloc | ((with_reducible refine bset ?_ ?_ _); rotate_left; (first | omega | (simp <;> omega))))) hCv) hgrow8 (by (simp <;> omega)); have sz8 := hgrow8.size; simp at sz8; have HO8 := Lib.hid ((hO.below (by repeat (first | with_reducible exact Below.refl _ _ | with_reducible apply bdrew | with_reducible apply bdrewN | with_reducible apply balloc | ((with_reducible refine bset ?_ ?_ _); rotate_left; (first | omega | (simp <;> omega)))))).other hgrow8 (by omega)); have HT8 := Lib.hid (show TabM (w1.heap.size + 1) (mm + 1) w8 (D.put (.int .u32 (wordV nx)) (.lit (.int .i64 ev))) from hown8); clear hgrow8 hown8))
                  go_roundw
                  case rel => exact ⟨p + 1, _, _, mm + 1, by omega, by go_num, HO8.out, HT8.out, by omega, HK7, HD7, by omega, D8, C8⟩
                  case measure => simp [intOf]; omega
                · obtain ⟨z, hz⟩ : ∃ z, bits .andNot .u32 (wordV o.pre) (wordV l) = z := ⟨_, rfl⟩
                  have hz0 : ¬ z = 0 := fun e => hsub ((word_sub HPRE.out HLS.out hn24).1 (by rw [hz, e]))
                  have hz1 : (z == 0) = false := by simpa using hz0
                  have HD7 := Lib.hid (hD.out.skip hl.out (rx_at ho.out) hsub)
                  clear hsub
                  go_wp2_with fail
                  refine (rword_any _ _ _ _ (hm.pre.below (by repeat (first | with_reducible exact hBv | with_reducible apply bdrew | with_reducible apply bdrewN | with_reducible apply balloc | ((with_reducible refine bset ?_ ?_ _); rotate_left; (first | omega | (simp <;> omega)))))) n HPRE.out hn24).mono ?_
                  rintro e w9 ⟨rfl, hW9⟩
                  rw [← hW9]
                  clear hW9 w9
                  go_wp2
                  go_roundw
                  case rel => exact ⟨p + 1, f, D, mm, by omega, by go_num, hO.below (by repeat (first | with_reducible exact Below.refl _ _ | with_reducible apply bdrew | with_reducible apply bdrewN | with_reducible apply balloc | ((with_reducible refine bset ?_ ?_ _); rotate_left; (first | omega | (simp <;> omega))))), hTM.below (by repeat (first | with_reducible exact Below.refl _ _ | with_reducible apply bdrew | with_reducible apply bdrewN | with_reducible apply balloc | ((with_reducible refine bset ?_ ?_ _); rotate_left; (first | omega | (simp <;> omega))))), by omega, hKM, HD7, (by simp; omega), (by repeat (first | with_reducible exact hBv | with_reducible apply bdrew | with_reducible apply bdrewN | with_reducible apply balloc | ((with_reducible refine bset ?_ ?_ _); rotate_left; (first | omega | (simp <;> omega))))), (Cls.below (w := w7) (by repeat (first | with_reducible exact Below.refl _ _ | with_reducible apply bdrew | with_reducible apply bdrewN | with_reducible apply balloc | ((with_reducible refine bset ?_ ?_ _); rotate_left; (first | omega | (simp <;> omega))))) hCv)⟩
                  case measure => simp [intOf]; omega
              · have HD7 := Lib.hid (hD.out.row (by rw [List.length_map]; omega))
                go_wp2
                go_roundw
                case rel => exact ⟨k + 1, bv, f, D, mm, by omega, by go_num, rfl, hO, hTM, by omega, hKM, HD7, hbz, hBv, hCv⟩
                case measure => simp [intOf]; omega
        · have HE := Lib.hid (show k = ls.length by omega)
          have HRB := Lib.hid (show RBest n (t.ops.map rxO) t.goal st bv from DPI.best (by have h := hD.out; rw [HE.out, ← HLEN.out] at h; exact h) HSM.out HCL.out)
          go_wp2
          refine bodyPost_ret (v := .tuple #[.int .i64 bv, .agg #[.int .i64 0, .int .i64 0]]) ?_ rfl ⟨bv, 0, 0, rfl, .inl ⟨⟨rfl, rfl⟩, HRB.out, ls, HR3.out, by omega⟩, by repeat (first | with_reducible exact hBu | with_reducible apply bdrew | with_reducible apply bdrewN | with_reducible apply balloc | ((with_reducible refine bset ?_ ?_ _); rotate_left; (first | omega | (simp <;> omega))))⟩
          simp [results, Try.results34, go_sem, Fu, yuw1, yuw0, yuwp1, yuwp2]


end Go.Proofs.Ytihkgdlanfemcaa
