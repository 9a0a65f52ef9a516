/-
  lmcut.Find: what it returns.
  lmcut.Cuts: what it returns; the example.
-/
import Derived.Test.YtihkgdlanfemcaaY12
import Derived.Test.YtihkgdlanfemcaaY1
import Derived.Deep.AppendLies
import Derived.Test.YtihkgdlanfemcaaY8
namespace Go.Proofs.Ytihkgdlanfemcaa
open Go.RowKit
set_option linter.unusedVariables false
set_option linter.unusedSimpArgs false

/-- A cut in memory: a list of operators and a cost. -/
def PCut (B : Nat) (w : World) (row : Option Nat) (cs : List Value) (x : List Int × Int) : Prop := ∃ v, cs = [v, .int .i64 x.2] ∧ PList B w row [v] x.1
theorem pcut_stable (B : Nat) : Stable (PCut B) := by
  constructor
  · rintro w w' row cs x ⟨v, e, h⟩ hb
    exact ⟨v, e, (plist_stable B).below h hb⟩
  · rintro w w' row cs x ⟨v, e, h⟩ hg
    exact ⟨⟨v, e, ((plist_stable B).grown h hg).1⟩, ⟨v, e, ((plist_stable B).grown h hg).2⟩⟩
def OwnCs (base : Nat) (w : World) (v : Value) (xs : List (List Int × Int)) : Prop := OwnEs (PCut base) 80 2 base w v xs
theorem OwnCs.far {base : Nat} {w : World} {v : Value} {xs : List (List Int × Int)} (h : OwnCs base w v xs) {p : Addr} (hp : p.block < base) (u : Value) : OwnCs base (w.setCell p u) v xs :=
  OwnEs.far h (fun h hp => by obtain ⟨v, e, h⟩ := h; exact ⟨v, e, plist_far h hp⟩) hp u
theorem OwnCs.below {base : Nat} {w w' : World} {v : Value} {xs : List (List Int × Int)} (h : OwnCs base w v xs) (hb : Below w.heap.size w w') : OwnCs base w' v xs := OwnEs.below (pcut_stable _) h hb
theorem OwnCs.drew {base : Nat} {w : World} {v : Value} {xs : List (List Int × Int)} (h : OwnCs base w v xs) : OwnCs base w.drew v xs := h.below (bdrew (Below.refl _ _))
theorem info_cut : (Try.prog.info? 80).map (fun i => (i.zero, i.size, i.bytes)) = some (some (.agg #[.slice none 0 0, .int .i64 0]), 2, 32) := by kernel_rfl
theorem OwnI.grown {base : Nat} {w w' : World} {v : Value} {xs : List Int} {row : Option Nat} (h : OwnI base w v xs) (hg : w.grownBy w' row) (hne : ∀ k, row = some k → v.ownBlock ≠ some k) : OwnI base w' v xs := by
  obtain ⟨h1, h2⟩ := h
  refine ⟨h1, ?_⟩
  rcases h2 with h2 | ⟨g, cap, cur, hv, hb, hh, r⟩
  · exact Or.inl h2
  · refine Or.inr ⟨g, cap, cur, hv, hb, (hg.block g ?_ (fun e => hne g e.symm (by rw [hv]; rfl))).trans hh, r⟩
    rcases Nat.lt_or_ge g w.heap.size with hl | hl
    · exact hl
    · rw [Array.getElem?_eq_none hl] at hh; cases hh
theorem IArr.own {w : World} {g base n : Nat} {xs : List Int} (h : IArr w g xs) (hn : xs.length = n) (hb : base ≤ g) (hm : n ≤ 1000000000000) : OwnI base w (.slice (some ⟨g, 0, none⟩) n n) xs := by
  subst hn
  refine ⟨by simp, .inr ⟨g, xs.length, (xs.map (Value.int .i64)).toArray, rfl, hb, h, Nat.le_refl _, by simp only [maxLen]; omega, by simp, ?_⟩⟩
  rw [Nat.mul_one]
  exact List.take_of_length_le (by simp)
theorem step_push {ops : Array Oper} {o : Oper} {a : Act} {w : World} {K : Act → World → Prop} {Q : Exit → Act → World → Prop} {E : Prop} (hgd : o.guard = none) (s x : Operand)
    (ho : o.op = .call { callee := .builtin .append, args := #[s, x], argTypes := #[22, 22] })
    (w0 : World) (l : List (Nat × Nat × Value)) (base : Nat) (v : Value) (xs : List Int) (y : Int) (hs : a.eval s = v) (hown : OwnI base w v xs) (ad : Addr) (m : Nat) (hx : a.eval x = .slice (some ad) 1 m) (hc : w.cell? ad = some (.int .i64 y))
    (hlen : xs.length < 1000000000000) (hbase : base ≤ w.heap.size) (h0 : w0.heap.size ≤ base) (hB : Below w0.heap.size w0 w) (hC : Cls w l) (hl : ∀ x ∈ l, x.1 < base)
    (h : ∀ v' w', OwnI base w' v' (xs ++ [y]) → Below w0.heap.size w0 w' → Cls w' l → w.heap.size ≤ w'.heap.size → K (a.put o.dst v') w') :
    if Region.wanted o (yielded ops a.tmps) = true then Oper.wp Try.prog o a w K Q else E := by
  obtain ⟨i0, hi0, hz⟩ := Option.map_eq_some_iff.1 info_int
  simp only [Prod.mk.injEq] at hz
  refine step_append_lies w hgd s x 22 ho base 3 i0 (.int .i64 0) 1 8 Try.underlying22 hi0 hz.1 hz.2.1 hz.2.2 rfl (by decide) v xs.length (xs.map (Value.int .i64)) hs hown ad 1 m [.int .i64 y] hx rfl ?_ ?_ (by decide) ?_ ?_ hbase _ rfl ?_
  · intro j u hu
    cases j with
    | zero => simp at hu; subst hu; rw [add_zero]; exact hc
    | succ j => simp at hu
  · intro u hu; simp at hu; subst hu; rfl
  · simp only [maxLen]; omega
  · omega
  · intro g cap w' h1 h2 h3 h4
    have h5 : OwnI base w' (.slice (some ⟨g, 0, none⟩) (xs.length + 1) cap) (xs ++ [y]) := by
      unfold OwnI
      rw [List.length_append, List.map_append]
      exact h1
    exact h _ _ h5 (own_grown hB (OwnI.mono hown h0) h2 (Nat.le_trans h0 hbase)) (hC.grown hown h2 hl) h2.size
theorem alloc_lt (w : World) (o : Obj) : w.heap.size < (w.alloc o).heap.size := by simp
theorem comb_app {s : Bool} {V : List Int} {n : Nat} (hl : V.length = n) {xs : List Int} (hx : ∀ x ∈ xs, 0 ≤ x ∧ x < (n : Int)) : combV s (V ++ [0]) xs = combV s V xs := by
  unfold combV
  suffices h : ∀ (ys : List Int) (o : Int), (∀ x ∈ ys, 0 ≤ x ∧ x < (n : Int)) → ys.foldl (fun o p => stepV s o (valAt (V ++ [0]) p)) o = ys.foldl (fun o p => stepV s o (valAt V p)) o from h xs 0 hx
  intro ys
  induction ys with
  | nil => intro o _; rfl
  | cons y ys ih =>
    intro o h
    have hy := h y (List.mem_cons_self ..)
    rw [List.foldl_cons, List.foldl_cons, valAt_app hl hy.1 hy.2]
    exact ih _ (fun x hx => h x (List.mem_cons_of_mem _ hx))
theorem allV_app {V : List Int} (h : AllV V) : AllV (V ++ [0]) := fun v hv => by
  rcases List.mem_append.1 hv with e | e
  · exact h v e
  · simp at e; subst e; exact InV.zero
/-- All goals can be reached. -/
def GoalR (t : TaskV) (st : List Int) : Prop := ∀ q ∈ t.goal, Reach st t.ops (fun _ => true) q
theorem goal_inf_iff {n : Nat} {st goal : List Int} {ops : List OpV} {cs V : List Int} (hV : Best false n st ops cs V) (hlc : cs.length = ops.length) (hc : ∀ c ∈ cs, 0 ≤ c ∧ c ≤ 100) (hst : ∀ p ∈ st, 0 ≤ p ∧ p < (n : Int))
    (hops : ∀ o ∈ ops, (∀ p ∈ o.pre, 0 ≤ p ∧ p < (n : Int)) ∧ ∀ p ∈ o.add, 0 ≤ p ∧ p < (n : Int)) (hg : ∀ p ∈ goal, 0 ≤ p ∧ p < (n : Int)) : combV false V goal = 1000000000 ↔ ¬ ∀ q ∈ goal, Reach st ops (fun _ => true) q := by
  rw [combV_inf hV.fix.shape.all]
  have key := fun q (h : q ∈ goal) => inf_reach hV hlc (fun c h => by have := hc c h; unfold InV; omega) (fun c h => by have := hc c h; omega) (fun p h => (hst p h).1) hops (hg q h).1 (hg q h).2
  constructor
  · rintro ⟨x, hx, h⟩ hall; exact (key x hx).1 h (hall x hx)
  · intro h
    exact Classical.byContradiction fun hn => h fun q hq => Classical.byContradiction fun hr => hn ⟨q, hq, (key q hq).2 hr⟩
theorem great_at (A B : Option Addr) (c d m : Nat) (vs xs : List Int) (w : World) (v : Int) (h1 : Ints w A vs) (h2 : Ints w B xs) (hm : vs.length = m) (h3 : lenOk xs.length) (h4 : m ≤ 1000000000000) (h5 : ∀ x ∈ xs, 0 ≤ x ∧ x < (m : Int)) (h6 : AllV vs) (hv : combV false vs xs = v) :
    Calls Try.prog 87 #[.slice A m c, .slice B xs.length d] w fun e w' => e = .returned (.int .i64 v) ∧ w = w' := by
  subst hm
  subst hv
  exact greatest_any A B c d vs xs w h1 h2 h3.le (by omega) h5 h6
theorem OwnI.away {base : Nat} {w : World} {v : Value} {xs : List Int} (h : OwnI base w v xs) {p : Addr} (hp : v.ownBlock ≠ some p.block) (u : Value) : OwnI base (w.setCell p u) v xs := by
  obtain ⟨h1, h2⟩ := h
  refine ⟨h1, ?_⟩
  rcases h2 with h2 | ⟨g, cap, cur, hv, hg, hh, r⟩
  · exact Or.inl h2
  · exact Or.inr ⟨g, cap, cur, hv, hg, (Below.heap_setCell w p u g (fun e => hp (by rw [hv, e]; rfl))).trans hh, r⟩
theorem cut_at (w : World) (b : Nat) (n : Nat) (t : TaskV) (Ai Ag Ao S C Q : Option Addr) (ci cg co cs cc cq : Nat) (st left W : List Int) (hX : SBox w b n t Ai Ag Ao S C Q ci cg co cs cc cq st left W) (h40 : t.ops.length ≤ 100000000) (V : List Int) (hW : W = V ++ [0]) (Cl : List Int) (cm : Int) (h1 : cutOf n st t.goal t.ops left V = Cl) (h2 : minTo left Cl = cm) :
    Calls Try.prog 110 #[.pointer (some ⟨b, 0, none⟩)] w fun e w' => ∃ v, e = .returned (.agg #[v, .int .i64 cm]) ∧ OwnI w.heap.size w' v Cl ∧ Below w.heap.size w w' := by
  subst hW
  subst h1
  subst h2
  exact cut_any w b n t Ai Ag Ao S C Q ci cg co cs cc cq st left (V ++ [0]) hX h40
theorem own_ne {C : Option Addr} {n c k B : Nat} (h : ∀ ad, C = some ad → ad.block < B) (hk : B ≤ k) : (Value.slice C n c).ownBlock ≠ some k := fun e => by
  cases C with
  | none => cases e
  | some ad => injection e with e; have := h ad rfl; omega
theorem PCut.form {B : Nat} {w : World} {row : Option Nat} {cs : List Value} {x : List Int × Int} (h : PCut B w row cs x) : ∃ A c, cs = [.slice A x.1.length c, .int .i64 x.2] ∧ Ints w A x.1 ∧ (A = none → x.1 = [] ∧ c = 0) := by
  obtain ⟨v, rfl, A, c, e, hI, hn, _⟩ := h
  injection e with e
  subst e
  exact ⟨A, c, rfl, hI, hn⟩
set_option maxRecDepth 100000 in
set_option maxHeartbeats 4000000 in
theorem find_yes (w : World) (t : TaskV) (Ai Ag Ao : Option Addr) (ci cg co : Nat) (hT : TaskMem w Ai Ag Ao t) (S : Option Addr) (cs : Nat) (st : List Int) (hS : Ints w S st) (hls : lenOk st.length) (n : Nat) (hn : t.facts = n) (hv : Valid t) (h2 : SetP st t.facts) (hre : GoalR t st) :
    Calls Try.prog 88 #[.agg #[.int .i64 t.facts, .slice Ai t.init.length ci, .slice Ag t.goal.length cg, .slice Ao t.ops.length co], .slice S st.length cs] w fun e w' => ∃ (v : Value) (xs : List (List Int × Int)) (bs : Nat), e = .returned (.tuple #[v, .int .i64 (totalOf xs)]) ∧ w.heap.size ≤ bs ∧ OwnCs bs w' v xs ∧ CutsOk n st t.goal t.ops (t.ops.map (·.cost)) xs ∧ Best false n st t.ops (leftOf (t.ops.map (·.cost)) xs) (valuesV false n st t.ops (leftOf (t.ops.map (·.cost)) xs)) ∧ combV false (valuesV false n st t.ops (leftOf (t.ops.map (·.cost)) xs)) t.goal = 0 ∧ Below w.heap.size w w' := by
  have hls' := hls.le
  have hn24 : n ≤ 1000000000000 := by have := hv.f1; omega
  have hn6 : n ≤ 1000000 := by have := hv.f1; omega
  have hlg := hT.lgoal.le
  have hm40 := hv.nops
  have HN := Lib.hid hn
  have HV := Lib.hid hv
  have HST := Lib.hid (fun p hp => by have := h2.1 p hp; rw [hn] at this; exact this : ∀ p ∈ st, 0 ≤ p ∧ p < (n : Int))
  have HOPS := Lib.hid (ops_in hv hn)
  have HGO := Lib.hid (goal_in hv hn)
  have HC0 := Lib.hid (show ∀ c ∈ t.ops.map (·.cost), 0 ≤ c ∧ c ≤ 100 from fun c hc => by obtain ⟨o, ho, rfl⟩ := List.mem_map.1 hc; exact (hv.ops o ho).2)
  have HL0 := Lib.hid (show (t.ops.map (·.cost)).length = t.ops.length by simp)
  have HS0 := Lib.hid (sumV_le HC0.out)
  have HRE := Lib.hid hre
  rw [hn]
  have HCO : ∀ (w0 : World), TaskMem w0 Ai Ag Ao t → Calls Try.prog 109 #[.agg #[.int .i64 (n : Int), .slice Ai t.init.length ci, .slice Ag t.goal.length cg, .slice Ao t.ops.length co]] w0 fun e w' => ∃ v, e = .returned v ∧ OwnI w0.heap.size w' v (t.ops.map (·.cost)) ∧ Below w0.heap.size w0 w' := fun w0 h => by
    have := costs_any w0 t Ai Ag Ao ci cg co h hm40
    rw [hn] at this
    exact this
  have HVA : ∀ (w0 : World), TaskMem w0 Ai Ag Ao t → ∀ (Cx : Option Addr) (ccx : Nat) (left : List Int), Ints w0 Cx left → Ints w0 S st → left.length = t.ops.length → AllV left → Calls Try.prog 108 #[.agg #[.int .i64 (n : Int), .slice Ai t.init.length ci, .slice Ag t.goal.length cg, .slice Ao t.ops.length co], .slice S st.length cs, .slice Cx t.ops.length ccx, .func (.func 87) #[] #[]] w0 fun e w' => ∃ g, e = .returned (.slice (some ⟨g, 0, none⟩) n n) ∧ w0.heap.size ≤ g ∧ IArr w' g (valuesV false n st t.ops left) ∧ Best false n st t.ops left (valuesV false n st t.ops left) ∧ Below w0.heap.size w0 w' := fun w0 h Cx ccx left hC hS' hl hall => by
    have := values_at w0 t Ai Ag Ao ci cg co h n hn hn24 S cs st hS' hls HST.out Cx ccx t.ops.length left hC rfl hl hall HOPS.out _ false greatest_combines
    rw [hn] at this
    exact this
  have HCO' := Lib.hid HCO
  have HVA' := Lib.hid HVA
  clear HCO HVA hre hv h2 hn
  go_enter Try.func88, Try.ntmps88
  go_wp2_with fail
  go_region_held3 (fun W => W.cell? ⟨w.heap.size, 0, none⟩ = some (.int .i64 (n : Int)) ∧ W.cell? ⟨w.heap.size, 1, none⟩ = some (.slice Ai t.init.length ci) ∧ W.cell? ⟨w.heap.size, 2, none⟩ = some (.slice Ag t.goal.length cg) ∧ W.cell? ⟨w.heap.size, 3, none⟩ = some (.slice Ao t.ops.length co)) (first | exact hK | go_keep) (first | (go_at_call 109; refine (HCO'.out _ (hT.below (by repeat (first | with_reducible exact Below.refl _ _ | with_reducible apply bdrew | with_reducible apply bdrewN | with_reducible apply balloc | ((with_reducible refine bset ?_ ?_ _); rotate_left; (first | omega | (simp <;> omega))))))).mono ?_; rintro e w2 ⟨v2, rfl, ho2, hB2⟩; have D2 := dstep w hB2 (by repeat (first | with_reducible exact Below.refl _ _ | with_reducible apply bdrew | with_reducible apply bdrewN | with_reducible apply balloc | ((with_reducible refine bset ?_ ?_ _); rotate_left; (first | omega | (simp <;> omega))))); have d2s := D2.size; have C2 := Cls.below (l := [(w.heap.size, 0, .int .i64 (n : Int)), (w.heap.size, 1, .slice Ai t.init.length ci), (w.heap.size, 2, .slice Ag t.goal.length cg), (w.heap.size, 3, .slice Ao t.ops.length co)]) hB2 (by simp [Cls, go_sem]); have F2 := C2; simp only [Cls, and_true] at F2; have y2w0 : w.heap.size < w2.heap.size := C2.blk (b := w.heap.size) (k := 0) (v := .int .i64 (n : Int)) (by simp); have y2wp1 : w.heap.size < w2.heap.size + 1 := (by omega); have y2wp2 : w.heap.size < w2.heap.size + 1 + 1 := (by omega); have hK : w2.cell? ⟨w.heap.size, 0, none⟩ = some (.int .i64 (n : Int)) ∧ w2.cell? ⟨w.heap.size, 1, none⟩ = some (.slice Ai t.init.length ci) ∧ w2.cell? ⟨w.heap.size, 2, none⟩ = some (.slice Ag t.goal.length cg) ∧ w2.cell? ⟨w.heap.size, 3, none⟩ = some (.slice Ao t.ops.length co) := (by simp [F2]); have ho2' := (OwnI.mono (base' := w.heap.size + 1) ho2 (by simp)); obtain ⟨C, cc, rfl, -⟩ := ho2'.form_at HL0.out))
  have hC1 := ho2'.blk_
  go_wp2_with fail
  go_loopg [7, 8] (sumV (t.ops.map (·.cost))) (fun gk s7 s8 wr => ∃ (xs : List (List Int × Int)) (sQ : Value) (tt : Int), Hid (tt = totalOf xs) ∧ s8 = .int .i64 tt ∧ Hid (gk = sumV (leftOf (t.ops.map (·.cost)) xs)) ∧ Hid (CutsOk n st t.goal t.ops (t.ops.map (·.cost)) xs) ∧ OwnCs (w2.heap.size + 1) wr s7 xs ∧ OwnI (w.heap.size + 1) wr (.slice C t.ops.length cc) (leftOf (t.ops.map (·.cost)) xs) ∧ Below w.heap.size w wr ∧ Cls wr [(w.heap.size, 0, .int .i64 (n : Int)), (w.heap.size, 1, .slice Ai t.init.length ci), (w.heap.size, 2, .slice Ag t.goal.length cg), (w.heap.size, 3, .slice Ao t.ops.length co), (w2.heap.size, 0, .int .i64 (n : Int)), (w2.heap.size, 1, .slice Ai t.init.length ci), (w2.heap.size, 2, .slice Ag t.goal.length cg), (w2.heap.size, 3, .slice Ao t.ops.length co), (w2.heap.size, 4, .slice S st.length cs), (w2.heap.size, 5, .slice C t.ops.length cc), (w2.heap.size, 6, sQ)])
  case atStart => exact ⟨[], .slice none 0 0, 0, Lib.hid rfl, rfl, Lib.hid rfl, Lib.hid CutsOk.nil, OwnEs.nil _ _, ho2'.below (by repeat (first | with_reducible exact Below.refl _ _ | with_reducible apply bdrew | with_reducible apply bdrewN | with_reducible apply balloc | ((with_reducible refine bset ?_ ?_ _); rotate_left; (first | omega | (simp <;> omega))))), (by repeat (first | with_reducible exact D2 | with_reducible apply bdrew | with_reducible apply bdrewN | with_reducible apply balloc | ((with_reducible refine bset ?_ ?_ _); rotate_left; (first | omega | (simp <;> omega))))), (by simp [Cls, go_sem, F2, y2w0, y2wp1, y2wp2])⟩
  case round =>
    obtain ⟨xs, sQ, tt, htt, rfl, hgk, hok, hcs, hco, hBr, hCr⟩ := hrel
    obtain ⟨g3, rfl⟩ : ∃ g : Nat, g = gk := ⟨_, rfl⟩
    obtain ⟨w3, rfl⟩ : ∃ wo : World, wo = wr := ⟨_, rfl⟩
    obtain ⟨left, hle⟩ : ∃ left, Hid (leftOf (t.ops.map (·.cost)) xs = left) := ⟨_, Lib.hid rfl⟩
    rw [hle.out] at hco
    have HLL := Lib.hid (show left.length = t.ops.length by rw [← hle.out, leftOf_len]; exact HL0.out)
    have HLV := Lib.hid (show ∀ c ∈ left, 0 ≤ c ∧ c ≤ 100 by rw [← hle.out]; have := hok.out.left_in HL0.out HC0.out xs.length; rwa [List.take_length] at this)
    have HLA := Lib.hid (show AllV left from fun c hc => by have := HLV.out c hc; unfold InV; omega)
    have htb : 0 ≤ tt ∧ tt ≤ 4000 := by
      have h1 := hok.out.total HL0.out xs.length (Nat.le_refl _)
      rw [List.take_length] at h1
      have h3 := HS0.out
      have h4 := HL0.out
      have h5 := htt.out
      omega
    obtain ⟨htb0, htb1⟩ := htb
    have drs := hBr.size
    have Fr := hCr
    simp only [Cls, and_true] at Fr
    have yrw0 : w.heap.size < w3.heap.size := hCr.blk (b := w.heap.size) (k := 0) (v := .int .i64 (n : Int)) (by simp)
    have yrwp1 : w.heap.size < w3.heap.size + 1 := (by omega)
    have yrwp2 : w.heap.size < w3.heap.size + 1 + 1 := (by omega)
    have yrw20 : w2.heap.size < w3.heap.size := hCr.blk (b := w2.heap.size) (k := 0) (v := .int .i64 (n : Int)) (by simp)
    have yrw2p1 : w2.heap.size < w3.heap.size + 1 := (by omega)
    have yrw2p2 : w2.heap.size < w3.heap.size + 1 + 1 := (by omega)
    go_upto_region 4 with (fail)
    go_cut [18] (fun s18 wx => ∃ A5 c5, s18 = .pointer (some ⟨w2.heap.size, 0, none⟩) ∧ Hid (Best false n st t.ops left (valuesV false n st t.ops left)) ∧ Ints wx A5 (valuesV false n st t.ops left ++ [0]) ∧ OwnI (w.heap.size + 1) wx (.slice C t.ops.length cc) left ∧ OwnCs (w2.heap.size + 1) wx u7 xs ∧ Below w.heap.size w wx ∧ Cls wx [(w.heap.size, 0, .int .i64 (n : Int)), (w.heap.size, 1, .slice Ai t.init.length ci), (w.heap.size, 2, .slice Ag t.goal.length cg), (w.heap.size, 3, .slice Ao t.ops.length co), (w2.heap.size, 0, .int .i64 (n : Int)), (w2.heap.size, 1, .slice Ai t.init.length ci), (w2.heap.size, 2, .slice Ag t.goal.length cg), (w2.heap.size, 3, .slice Ao t.ops.length co), (w2.heap.size, 4, .slice S st.length cs), (w2.heap.size, 5, .slice C t.ops.length cc), (w2.heap.size, 6, .slice A5 (n + 1) c5)])
    case first =>
      have HB := hBr
      have HE := Below.refl w3.heap.size w3
      go_region_held3 (fun W => W.cell? ⟨w.heap.size, 0, none⟩ = some (.int .i64 (n : Int)) ∧ W.cell? ⟨w.heap.size, 1, none⟩ = some (.slice Ai t.init.length ci) ∧ W.cell? ⟨w.heap.size, 2, none⟩ = some (.slice Ag t.goal.length cg) ∧ W.cell? ⟨w.heap.size, 3, none⟩ = some (.slice Ao t.ops.length co) ∧ W.cell? ⟨w2.heap.size, 5, none⟩ = some (.slice C t.ops.length cc)) (first | exact hK | go_keep | simp [go_sem, F5, y2w0]) (first | (go_at_call 108; refine (HVA'.out _ (hT.below (by repeat (first | with_reducible exact HB | with_reducible apply bdrew | with_reducible apply bdrewN | with_reducible apply balloc | ((with_reducible refine bset ?_ ?_ _); rotate_left; (first | omega | (simp <;> omega)))))) _ _ left ((OwnI.ints_at hco).below (by repeat (first | with_reducible exact HE | with_reducible apply bdrew | with_reducible apply bdrewN | with_reducible apply balloc | ((with_reducible refine bset ?_ ?_ _); rotate_left; (first | omega | (simp <;> omega)))))) (hS.below (by repeat (first | with_reducible exact HB | with_reducible apply bdrew | with_reducible apply bdrewN | with_reducible apply balloc | ((with_reducible refine bset ?_ ?_ _); rotate_left; (first | omega | (simp <;> omega)))))) HLL.out HLA.out).mono ?_; rintro e w4 ⟨gv, rfl, hgv, hAv, hbest, hB4⟩; have hbest' := Lib.hid hbest; clear hbest; (first | (have hZ : w4.cell? ⟨w3.heap.size, 0, none⟩ = some (.int .i64 0) := (hB4.cell (p := ⟨w3.heap.size, 0, none⟩) (alloc_lt w3.drew _)).trans (cell_new_at w3.drew _ _ _ rfl)) | skip); have hgv' : w3.heap.size ≤ gv := (by simp at hgv; omega); have HB' := dstep w hB4 (by repeat (first | with_reducible exact HB | with_reducible apply bdrew | with_reducible apply bdrewN | with_reducible apply balloc | ((with_reducible refine bset ?_ ?_ _); rotate_left; (first | omega | (simp <;> omega))))); clear HB; have HB := HB'; clear HB'; have HE' := dstep w3 hB4 (by repeat (first | with_reducible exact HE | with_reducible apply bdrew | with_reducible apply bdrewN | with_reducible apply balloc | ((with_reducible refine bset ?_ ?_ _); rotate_left; (first | omega | (simp <;> omega))))); clear HE; have HE := HE'; clear HE'; have d4s := HE.size; have C4 := Cls.below (w := w3) HE hCr; have F4 := C4; simp only [Cls, and_true] at F4; have hK : w4.cell? ⟨w.heap.size, 0, none⟩ = some (.int .i64 (n : Int)) ∧ w4.cell? ⟨w.heap.size, 1, none⟩ = some (.slice Ai t.init.length ci) ∧ w4.cell? ⟨w.heap.size, 2, none⟩ = some (.slice Ag t.goal.length cg) ∧ w4.cell? ⟨w.heap.size, 3, none⟩ = some (.slice Ao t.ops.length co) ∧ w4.cell? ⟨w2.heap.size, 5, none⟩ = some (.slice C t.ops.length cc) := (by simp [F4]); clear hB4 hgv) | ((refine step_push (by rfl) _ _ (by rfl) w3 [(w.heap.size, 0, .int .i64 (n : Int)), (w.heap.size, 1, .slice Ai t.init.length ci), (w.heap.size, 2, .slice Ag t.goal.length cg), (w.heap.size, 3, .slice Ao t.ops.length co), (w2.heap.size, 0, .int .i64 (n : Int)), (w2.heap.size, 1, .slice Ai t.init.length ci), (w2.heap.size, 2, .slice Ag t.goal.length cg), (w2.heap.size, 3, .slice Ao t.ops.length co), (w2.heap.size, 4, .slice S st.length cs), (w2.heap.size, 5, .slice C t.ops.length cc), (w2.heap.size, 6, sQ)] w3.heap.size _ (valuesV false n st t.ops left) 0 (by rfl) (OwnI.below (IArr.own hAv hbest'.out.fix.shape.len hgv' hn24) (by repeat (first | with_reducible exact Below.refl _ _ | with_reducible apply bdrew | with_reducible apply bdrewN | with_reducible apply balloc | ((with_reducible refine bset ?_ ?_ _); rotate_left; (first | omega | (simp <;> omega)))))) _ _ (by rfl) (by first | exact hZ | simp) (by have := hbest'.out.fix.shape.len; omega) (by first | omega | (simp <;> omega)) (Nat.le_refl _) (by repeat (first | with_reducible exact HE | with_reducible apply bdrew | with_reducible apply bdrewN | with_reducible apply balloc | ((with_reducible refine bset ?_ ?_ _); rotate_left; (first | omega | (simp <;> omega))))) (by first | exact C4 | exact Cls.below C4 (by repeat (first | with_reducible exact Below.refl _ _ | with_reducible apply bdrew | with_reducible apply bdrewN | with_reducible apply balloc | ((with_reducible refine bset ?_ ?_ _); rotate_left; (first | omega | (simp <;> omega))))) | (exact Cls.below (w := w4) (by repeat (first | with_reducible exact Below.refl _ _ | with_reducible apply bdrew | with_reducible apply bdrewN | with_reducible apply balloc | ((with_reducible refine bset ?_ ?_ _); rotate_left; (first | omega | (simp <;> omega))))) C4)) (by simp <;> omega) ?_; intro v5 w5 ho5 D5 C5 sz5; have F5 := C5; simp only [Cls, and_true] at F5; obtain ⟨A5, c5, rfl, -⟩ := OwnI.form_at ho5 (show _ = n + 1 by have := hbest'.out.fix.shape.len; simp; omega); have hK : w5.cell? ⟨w.heap.size, 0, none⟩ = some (.int .i64 (n : Int)) ∧ w5.cell? ⟨w.heap.size, 1, none⟩ = some (.slice Ai t.init.length ci) ∧ w5.cell? ⟨w.heap.size, 2, none⟩ = some (.slice Ag t.goal.length cg) ∧ w5.cell? ⟨w.heap.size, 3, none⟩ = some (.slice Ao t.ops.length co) ∧ w5.cell? ⟨w2.heap.size, 5, none⟩ = some (.slice C t.ops.length cc) := (by simp [F5]); have d5s := D5.size)))
      all_goals
        go_wp2_with fail
        go_meet
        exact ⟨A5, c5, rfl, hbest', (OwnI.far ho5 (by (first | omega | (simp <;> omega))) _).ints_at, OwnI.away (OwnI.below hco D5) (own_ne (B := w2.heap.size) (fun ad h => (hC1 ad h).2) (Nat.le_refl _)) _, OwnCs.far (OwnCs.below hcs D5) (Nat.lt_succ_self _) _, by repeat (first | with_reducible exact (hBr.trans (D5.mono hBr.size)) | with_reducible apply bdrew | with_reducible apply bdrewN | with_reducible apply balloc | ((with_reducible refine bset ?_ ?_ _); rotate_left; (first | omega | (simp <;> omega)))), by simp [Cls, go_sem, F5, yrw0, yrwp1, yrwp2, yrw20, yrw2p1, yrw2p2]⟩
    case rest =>
      obtain ⟨w6, rfl⟩ : ∃ wo : World, wo = wc := ⟨_, rfl⟩
      obtain ⟨A5, c5, rfl, hbest, hW, hco6, hcs6, D6, hC6⟩ := hcut
      obtain ⟨V, hVe⟩ : ∃ V, Hid (valuesV false n st t.ops left = V) := ⟨_, Lib.hid rfl⟩
      rw [hVe.out] at hbest hW
      have HVL := Lib.hid hbest.out.fix.shape.len
      have HVA := Lib.hid hbest.out.fix.shape.all
      obtain ⟨G, hG⟩ : ∃ G, Hid (combV false V t.goal = G) := ⟨_, Lib.hid rfl⟩
      have HGI := Lib.hid (goal_inf_iff hbest.out HLL.out HLV.out HST.out HOPS.out HGO.out)
      have hGn := combV_in (s := false) HVA.out t.goal
      rw [hG.out] at hGn
      have HGn := Lib.hid hGn
      clear hGn
      have d6s := D6.size
      have F6 := hC6
      simp only [Cls, and_true] at F6
      have y6w0 : w.heap.size < w6.heap.size := hC6.blk (b := w.heap.size) (k := 0) (v := .int .i64 (n : Int)) (by simp)
      have y6wp1 : w.heap.size < w6.heap.size + 1 := (by omega)
      have y6wp2 : w.heap.size < w6.heap.size + 1 + 1 := (by omega)
      have y6w20 : w2.heap.size < w6.heap.size := hC6.blk (b := w2.heap.size) (k := 0) (v := .int .i64 (n : Int)) (by simp)
      have y6w2p1 : w2.heap.size < w6.heap.size + 1 := (by omega)
      have y6w2p2 : w2.heap.size < w6.heap.size + 1 + 1 := (by omega)
      have HN1 := Lib.hid (show ¬ G = 1000000000 from fun e => HGI.out.1 (hG.out.trans e) HRE.out)
      by_cases hG0 : G = 0
      · subst hG0
        go_wp2_with fail
        go_quiet ((go_at_call 87; exact Calls.quiet_of_same ((great_at _ _ _ _ (n + 1) (V ++ [0]) _ _ 0 (hW.below (by repeat (first | with_reducible exact Below.refl _ _ | with_reducible apply bdrew | with_reducible apply bdrewN | with_reducible apply balloc | ((with_reducible refine bset ?_ ?_ _); rotate_left; (first | omega | (simp <;> omega)))))) (hT.goal.below (by repeat (first | with_reducible exact D6 | with_reducible apply bdrew | with_reducible apply bdrewN | with_reducible apply balloc | ((with_reducible refine bset ?_ ?_ _); rotate_left; (first | omega | (simp <;> omega)))))) (by simp [HVL.out]) hT.lgoal (by omega) (fun x hx => by have := HGO.out x hx; omega) (allV_app HVA.out) (by rw [comb_app HVL.out HGO.out]; exact hG.out)).mono fun _ _ h => ⟨h.1, h.2.symm⟩)))
        go_wp2
        go_ret2
        exact ⟨u7, xs, w2.heap.size + 1, (show Ending.returned (.tuple #[u7, .int .i64 tt]) = _ by rw [htt.out]), by omega, hcs6.below (by repeat (first | with_reducible exact Below.refl _ _ | with_reducible apply bdrew | with_reducible apply bdrewN | with_reducible apply balloc | ((with_reducible refine bset ?_ ?_ _); rotate_left; (first | omega | (simp <;> omega))))), hok.out, by rw [hle.out, hVe.out]; exact hbest.out, by rw [hle.out, hVe.out]; exact hG.out, by repeat (first | with_reducible exact D6 | with_reducible apply bdrew | with_reducible apply bdrewN | with_reducible apply balloc | ((with_reducible refine bset ?_ ?_ _); rotate_left; (first | omega | (simp <;> omega))))⟩
      · have hg1 : (G == 0) = false := by simpa using hG0
        have hg2 : (G == 1000000000) = false := by simpa using HN1.out
        have hat := Lib.hid (show AtCut n st t.goal t.ops left V from ⟨hbest.out, HLL.out, HLV.out, HST.out, HGO.out, HOPS.out, by rw [hG.out]; exact hG0, by rw [hG.out]; exact HN1.out⟩)
        have HG0 := Lib.hid hG0
        clear hG0
        obtain ⟨Cl, hCl⟩ : ∃ Cl, Hid (cutOf n st t.goal t.ops left V = Cl) := ⟨_, Lib.hid rfl⟩
        obtain ⟨cm, hcm⟩ : ∃ cm, Hid (minTo left Cl = cm) := ⟨_, Lib.hid rfl⟩
        have hcp := Lib.hid (show CutP n st t.goal t.ops left Cl cm by have := hat.out.proper; rw [hCl.out, hcm.out] at this; exact this)
        have hcm0 := hcp.out.pos
        have hcm1 := hcp.out.le
        have hSB : SBox w6 w2.heap.size n t Ai Ag Ao S C A5 ci cg co cs cc c5 st left (V ++ [0]) := by
          have q := hC6
          simp only [Cls, and_true] at q
          exact ⟨by simp [q], by simp [q], by simp [q], by simp [q], by simp [q], by simp [q, HLL.out], by simp [q], hT.below D6, hS.below D6, hco6.ints_at, hW, by simp [HVL.out], hn6, HLL.out, hls, HST.out, HGO.out, HOPS.out⟩
        go_wp2_with fail
        go_quiet ((go_at_call 87; exact Calls.quiet_of_same ((great_at _ _ _ _ (n + 1) (V ++ [0]) _ _ G (hW.below (by repeat (first | with_reducible exact Below.refl _ _ | with_reducible apply bdrew | with_reducible apply bdrewN | with_reducible apply balloc | ((with_reducible refine bset ?_ ?_ _); rotate_left; (first | omega | (simp <;> omega)))))) (hT.goal.below (by repeat (first | with_reducible exact D6 | with_reducible apply bdrew | with_reducible apply bdrewN | with_reducible apply balloc | ((with_reducible refine bset ?_ ?_ _); rotate_left; (first | omega | (simp <;> omega)))))) (by simp [HVL.out]) hT.lgoal (by omega) (fun x hx => by have := HGO.out x hx; omega) (allV_app HVA.out) (by rw [comb_app HVL.out HGO.out]; exact hG.out)).mono fun _ _ h => ⟨h.1, h.2.symm⟩)))
        go_wp2_with fail
        refine (cut_at _ w2.heap.size n t Ai Ag Ao S C A5 ci cg co cs cc c5 st left (V ++ [0]) (hSB.below (by repeat (first | with_reducible exact Below.refl _ _ | with_reducible apply bdrew | with_reducible apply bdrewN | with_reducible apply balloc | ((with_reducible refine bset ?_ ?_ _); rotate_left; (first | omega | (simp <;> omega)))))) (by omega) V rfl Cl cm hCl.out hcm.out).mono ?_
        rintro e w7 ⟨v7, rfl, ho7, hB7⟩
        have D7 := dstep w hB7 (by repeat (first | with_reducible exact D6 | with_reducible apply bdrew | with_reducible apply bdrewN | with_reducible apply balloc | ((with_reducible refine bset ?_ ?_ _); rotate_left; (first | omega | (simp <;> omega)))))
        have d7s := D7.size
        have C7 := Cls.below (l := [(w.heap.size, 0, .int .i64 (n : Int)), (w.heap.size, 1, .slice Ai t.init.length ci), (w.heap.size, 2, .slice Ag t.goal.length cg), (w.heap.size, 3, .slice Ao t.ops.length co), (w2.heap.size, 0, .int .i64 (n : Int)), (w2.heap.size, 1, .slice Ai t.init.length ci), (w2.heap.size, 2, .slice Ag t.goal.length cg), (w2.heap.size, 3, .slice Ao t.ops.length co), (w2.heap.size, 4, .slice S st.length cs), (w2.heap.size, 5, .slice C t.ops.length cc), (w2.heap.size, 6, .slice A5 (n + 1) c5)]) hB7 (by simp [Cls, go_sem, F6, y6w0, y6wp1, y6wp2, y6w20, y6w2p1, y6w2p2])
        have F7 := C7
        simp only [Cls, and_true] at F7
        have y7w0 : w.heap.size < w7.heap.size := C7.blk (b := w.heap.size) (k := 0) (v := .int .i64 (n : Int)) (by simp)
        have y7wp1 : w.heap.size < w7.heap.size + 1 := (by omega)
        have y7wp2 : w.heap.size < w7.heap.size + 1 + 1 := (by omega)
        have y7w20 : w2.heap.size < w7.heap.size := C7.blk (b := w2.heap.size) (k := 0) (v := .int .i64 (n : Int)) (by simp)
        have y7w2p1 : w2.heap.size < w7.heap.size + 1 := (by omega)
        have y7w2p2 : w2.heap.size < w7.heap.size + 1 + 1 := (by omega)
        have E7 := dstep w6 hB7 (by repeat (first | with_reducible exact Below.refl _ _ | with_reducible apply bdrew | with_reducible apply bdrewN | with_reducible apply balloc | ((with_reducible refine bset ?_ ?_ _); rotate_left; (first | omega | (simp <;> omega)))))
        have ho7' := OwnI.mono (base' := w6.heap.size) ho7 (by simp)
        have e7s := E7.size
        have hcll : Cl.length ≤ 40 := by have := hcp.out.set.length (by omega); omega
        obtain ⟨A7, c7, rfl, -⟩ := ho7'.form_at rfl
        clear ho7
        have hcs7 := hcs6.below E7
        have hco7 := hco6.below E7
        go_wp2_with fail
        go_loopg [48] (Cl.length) (fun gk i wr => ∃ j : Nat, i = .int .i64 j ∧ Hid (j + gk = Cl.length) ∧ OwnI (w.heap.size + 1) wr (.slice C t.ops.length cc) (lower left (Cl.take j) cm) ∧ OwnI w6.heap.size wr (.slice A7 Cl.length c7) Cl ∧ OwnCs (w2.heap.size + 1) wr u7 xs ∧ Below w.heap.size w wr ∧ Cls wr [(w.heap.size, 0, .int .i64 (n : Int)), (w.heap.size, 1, .slice Ai t.init.length ci), (w.heap.size, 2, .slice Ag t.goal.length cg), (w.heap.size, 3, .slice Ao t.ops.length co), (w2.heap.size, 0, .int .i64 (n : Int)), (w2.heap.size, 1, .slice Ai t.init.length ci), (w2.heap.size, 2, .slice Ag t.goal.length cg), (w2.heap.size, 3, .slice Ao t.ops.length co), (w2.heap.size, 4, .slice S st.length cs), (w2.heap.size, 5, .slice C t.ops.length cc), (w2.heap.size, 6, .slice A5 (n + 1) c5), (w7.heap.size, 0, .slice A7 Cl.length c7), (w7.heap.size, 1, .int .i64 cm)])
        case atStart => exact ⟨0, rfl, Lib.hid (by omega), hco7.below (by repeat (first | with_reducible exact Below.refl _ _ | with_reducible apply bdrew | with_reducible apply bdrewN | with_reducible apply balloc | ((with_reducible refine bset ?_ ?_ _); rotate_left; (first | omega | (simp <;> omega))))), ho7'.below (by repeat (first | with_reducible exact Below.refl _ _ | with_reducible apply bdrew | with_reducible apply bdrewN | with_reducible apply balloc | ((with_reducible refine bset ?_ ?_ _); rotate_left; (first | omega | (simp <;> omega))))), hcs7.below (by repeat (first | with_reducible exact Below.refl _ _ | with_reducible apply bdrew | with_reducible apply bdrewN | with_reducible apply balloc | ((with_reducible refine bset ?_ ?_ _); rotate_left; (first | omega | (simp <;> omega))))), (by repeat (first | with_reducible exact D7 | with_reducible apply bdrew | with_reducible apply bdrewN | with_reducible apply balloc | ((with_reducible refine bset ?_ ?_ _); rotate_left; (first | omega | (simp <;> omega))))), (by simp [Cls, go_sem, F7, y7w0, y7wp1, y7wp2, y7w20, y7w2p1, y7w2p2])⟩
        case round =>
          obtain ⟨j, rfl, hj, hcoj, hclj, hcsj, hBs, hCs⟩ := hrel
          obtain ⟨w8, rfl⟩ : ∃ wo : World, wo = wr := ⟨_, rfl⟩
          have dss := hBs.size
          have Fs := hCs
          simp only [Cls, and_true] at Fs
          have ysw0 : w.heap.size < w8.heap.size := hCs.blk (b := w.heap.size) (k := 0) (v := .int .i64 (n : Int)) (by simp)
          have yswp1 : w.heap.size < w8.heap.size + 1 := (by omega)
          have yswp2 : w.heap.size < w8.heap.size + 1 + 1 := (by omega)
          have ysw20 : w2.heap.size < w8.heap.size := hCs.blk (b := w2.heap.size) (k := 0) (v := .int .i64 (n : Int)) (by simp)
          have ysw2p1 : w2.heap.size < w8.heap.size + 1 := (by omega)
          have ysw2p2 : w2.heap.size < w8.heap.size + 1 + 1 := (by omega)
          have ysw70 : w7.heap.size < w8.heap.size := hCs.blk (b := w7.heap.size) (k := 0) (v := .slice A7 Cl.length c7) (by simp)
          have ysw7p1 : w7.heap.size < w8.heap.size + 1 := (by omega)
          have ysw7p2 : w7.heap.size < w8.heap.size + 1 + 1 := (by omega)
          by_cases hlj : j < Cl.length
          · have hj1 := Lib.hid (show j + 1 + (gk - 1) = Cl.length ∧ gk - 1 < gk by have := hj.out; omega)
            obtain ⟨a7, x, rfl, hx, hxc⟩ := hclj.ints_at.at_ hlj
            obtain ⟨x0, x1⟩ := hcp.out.set.1 x (List.mem_of_getElem? hx.out)
            have HLJ := Lib.hid (show (lower left (Cl.take j) cm).length = t.ops.length by rw [lower_len]; exact HLL.out)
            obtain ⟨gc, y, rfl, hgc, hgc2, hy, hyc, hyw⟩ := hcoj.at_ (k := x.toNat) (by rw [HLJ.out]; omega)
            have hyb : cm ≤ y ∧ y ≤ 100 := by
              have h1 := hcp.out.not_yet HLL.out hx.out
              have h3 := hcp.out.lower_in HLL.out HLV.out j y (List.mem_of_getElem? hy.out)
              rw [valAt_of hy.out] at h1
              omega
            obtain ⟨hyb0, hyb1⟩ := hyb
            have HLS := Lib.hid (show lower left (Cl.take (j + 1)) cm = (lower left (Cl.take j) cm).set x.toNat (y - cm) by rw [lower_succ hx.out, valAt_of hy.out])
            have hgb := hC1 _ rfl
            have hgb2 : gc < w2.heap.size := hgb.2
            have hgb3 : gc < w6.heap.size := by omega
            have hgb4 : gc < w7.heap.size := by omega
            have hgb1 : w.heap.size + 1 ≤ gc := hgb.1
            have hgne : ¬ gc = w2.heap.size ∧ ¬ gc = w.heap.size ∧ ¬ gc = w7.heap.size ∧ ¬ w2.heap.size = gc ∧ ¬ w.heap.size = gc ∧ ¬ w7.heap.size = gc := by omega
            go_wp2_with fail
            refine region_still_tail 11 (by kernel_rfl) (by kernel_rfl) ?_
            simp only [List.take_succ_cons, List.take_zero, List.drop_succ_cons, List.drop_zero]
            repeat still_step
            refine wpStill_nil ?_
            go_wp2
            go_roundg (gk - 1)
            case measure => exact hj1.out.2
            case rel =>
              refine ⟨j + 1, by go_num, Lib.hid hj1.out.1, ?_, ?_, ?_, (by repeat (first | with_reducible exact hBs | with_reducible apply bdrew | with_reducible apply bdrewN | with_reducible apply balloc | ((with_reducible refine bset ?_ ?_ _); rotate_left; (first | omega | (simp <;> omega))))), (by simp [Cls, go_sem, Fs, ysw0, yswp1, yswp2, ysw20, ysw2p1, ysw2p2, ysw70, ysw7p1, ysw7p2, hgne])⟩
              · rw [HLS.out]
                exact OwnI.drew' (OwnI.set_ hcoj HLJ.out _ _)
              · exact OwnI.drew' (OwnI.far hclj hgb3 _)
              · exact OwnCs.drew (OwnCs.far hcsj (Nat.lt_succ_of_lt hgb2) _)
          · rw [List.take_of_length_le (by omega)] at hcoj
            have hcsl := hcsj.lt
            have hcs6l := hcs6.lt
            have HY := Lib.hid (show PCut (w2.heap.size + 1) w8 u7.ownBlock [.slice A7 Cl.length c7, .int .i64 cm] (Cl, cm) from ⟨_, rfl, plist_of hclj (by omega) (fun k hk => (hcs6l k hk).2)⟩)
            have hlen : xs.length < 1000000000000 := by
              have h1 := hok.out.total HL0.out xs.length (Nat.le_refl _)
              have h3 := HS0.out
              have h4 := HL0.out
              omega
            have D8 := hBs
            have HSN := Lib.hid (hok.out.snoc (x := (Cl, cm)) (by rw [hle.out]; exact hcp.out))
            have HTS := Lib.hid (totalOf_snoc xs (Cl, cm))
            have HLS := Lib.hid (leftOf_snoc (t.ops.map (·.cost)) xs (Cl, cm))
            have HME := Lib.hid (show sumV (lower left Cl cm) < sumV left by
              have h1 := lower_sum_le (c := cm) (by omega) Cl left hcp.out.set.pairwise (fun x hx => by rw [HLL.out]; exact hcp.out.set.1 x hx) hcp.out.fit
              have h3 : 0 < Cl.length := List.length_pos_iff.2 hcp.out.ne
              have h5 : cm.toNat ≤ Cl.length * cm.toNat := Nat.le_mul_of_pos_left _ h3
              omega)
            go_wp2_with (at_builtin; go_must (refine wpList_el (pcut_stable _) 67 32 (.agg #[.slice none 0 0, .int .i64 0]) Try.underlying67 info_cut rfl (by decide) (by decide) rfl (.tmp 64) (.tmp 66) rfl w [(w.heap.size, 0, .int .i64 (n : Int)), (w.heap.size, 1, .slice Ai t.init.length ci), (w.heap.size, 2, .slice Ag t.goal.length cg), (w.heap.size, 3, .slice Ao t.ops.length co), (w2.heap.size, 0, .int .i64 (n : Int)), (w2.heap.size, 1, .slice Ai t.init.length ci), (w2.heap.size, 2, .slice Ag t.goal.length cg), (w2.heap.size, 3, .slice Ao t.ops.length co), (w2.heap.size, 4, .slice S st.length cs), (w2.heap.size, 5, .slice C t.ops.length cc), (w2.heap.size, 6, .slice A5 (n + 1) c5)] rfl (OwnCs.below hcsj ?p1) ⟨w8.heap.size, 0, none⟩ 1 rfl [.slice A7 Cl.length c7, .int .i64 cm] (Cl, cm) rfl (cells_two ?p2 ?p10) ?p8 ((pcut_stable _).below HY.out ?p9) hlen ?p3 (by omega) ?p5 ?p6 ?p7 ?_; (case p1 => repeat (first | with_reducible exact Below.refl _ _ | with_reducible apply bdrew | with_reducible apply bdrewN | with_reducible apply balloc | ((with_reducible refine bset ?_ ?_ _); rotate_left; (first | omega | (simp <;> omega))))); (case p2 => simp [go_sem]); (case p10 => simp [go_sem]); (case p3 => (simp <;> omega)); (case p5 => repeat (first | with_reducible exact hBs | with_reducible apply bdrew | with_reducible apply bdrewN | with_reducible apply balloc | ((with_reducible refine bset ?_ ?_ _); rotate_left; (first | omega | (simp <;> omega))))); (case p6 => simp [Cls, go_sem, Fs, ysw0, yswp1, yswp2, ysw20, ysw2p1, ysw2p2, ysw70, ysw7p1, ysw7p2]); (case p7 => (simp <;> omega)); (case p8 => intro u hu; simp at hu; rcases hu with rfl | rfl <;> rfl); (case p9 => repeat (first | with_reducible exact Below.refl _ _ | with_reducible apply bdrew | with_reducible apply bdrewN | with_reducible apply balloc | ((with_reducible refine bset ?_ ?_ _); rotate_left; (first | omega | (simp <;> omega))))); intro v9 w9 o9 D9 C9 sz9 G9 at9; have d9s := D9.size; have hc9 : w9.cell? ⟨w7.heap.size, 1, none⟩ = some (.int .i64 cm) := G9.cell (by simp [Cls, go_sem, Fs, ysw0, yswp1, yswp2, ysw20, ysw2p1, ysw2p2, ysw70, ysw7p1, ysw7p2]) (fun e => by have h1 : w7.heap.size < w6.heap.size := (hcs6l _ e.symm).2; omega)))
            have hco9 : OwnI (w.heap.size + 1) w9 (.slice C t.ops.length cc) (lower left Cl cm) := (OwnI.below hcoj (by repeat (first | with_reducible exact Below.refl _ _ | with_reducible apply bdrew | with_reducible apply bdrewN | with_reducible apply balloc | ((with_reducible refine bset ?_ ?_ _); rotate_left; (first | omega | (simp <;> omega)))))).grown G9 (fun k hk => own_ne (B := w2.heap.size) (fun ad h => (hC1 ad h).2) (by have := hcs6l k hk; omega))
            go_roundg (sumV (lower left Cl cm))
            case measure => rw [hgk.out, hle.out]; exact HME.out
            case rel =>
              exact ⟨xs ++ [(Cl, cm)], _, tt + cm, Lib.hid (by rw [HTS.out, htt.out]), rfl, Lib.hid (by rw [HLS.out, hle.out]), HSN, o9, by rw [HLS.out, hle.out]; exact hco9, D9, C9⟩

set_option maxRecDepth 100000 in
set_option maxHeartbeats 4000000 in
theorem find_no (w : World) (t : TaskV) (Ai Ag Ao : Option Addr) (ci cg co : Nat) (hT : TaskMem w Ai Ag Ao t) (S : Option Addr) (cs : Nat) (st : List Int) (hS : Ints w S st) (hls : lenOk st.length) (n : Nat) (hn : t.facts = n) (hv : Valid t) (h2 : SetP st t.facts) (hre : ¬ GoalR t st) :
    Calls Try.prog 88 #[.agg #[.int .i64 t.facts, .slice Ai t.init.length ci, .slice Ag t.goal.length cg, .slice Ao t.ops.length co], .slice S st.length cs] w fun e w' => e = .returned (.tuple #[.slice none 0 0, .int .i64 1000000000]) ∧ Below w.heap.size w w' := by
  have hls' := hls.le
  have hn24 : n ≤ 1000000000000 := by have := hv.f1; omega
  have hn6 : n ≤ 1000000 := by have := hv.f1; omega
  have hlg := hT.lgoal.le
  have hm40 := hv.nops
  have HN := Lib.hid hn
  have HV := Lib.hid hv
  have HST := Lib.hid (fun p hp => by have := h2.1 p hp; rw [hn] at this; exact this : ∀ p ∈ st, 0 ≤ p ∧ p < (n : Int))
  have HOPS := Lib.hid (ops_in hv hn)
  have HGO := Lib.hid (goal_in hv hn)
  have HC0 := Lib.hid (show ∀ c ∈ t.ops.map (·.cost), 0 ≤ c ∧ c ≤ 100 from fun c hc => by obtain ⟨o, ho, rfl⟩ := List.mem_map.1 hc; exact (hv.ops o ho).2)
  have HL0 := Lib.hid (show (t.ops.map (·.cost)).length = t.ops.length by simp)
  have HS0 := Lib.hid (sumV_le HC0.out)
  have HRE := Lib.hid hre
  rw [hn]
  have HCO : ∀ (w0 : World), TaskMem w0 Ai Ag Ao t → Calls Try.prog 109 #[.agg #[.int .i64 (n : Int), .slice Ai t.init.length ci, .slice Ag t.goal.length cg, .slice Ao t.ops.length co]] w0 fun e w' => ∃ v, e = .returned v ∧ OwnI w0.heap.size w' v (t.ops.map (·.cost)) ∧ Below w0.heap.size w0 w' := fun w0 h => by
    have := costs_any w0 t Ai Ag Ao ci cg co h hm40
    rw [hn] at this
    exact this
  have HVA : ∀ (w0 : World), TaskMem w0 Ai Ag Ao t → ∀ (Cx : Option Addr) (ccx : Nat) (left : List Int), Ints w0 Cx left → Ints w0 S st → left.length = t.ops.length → AllV left → Calls Try.prog 108 #[.agg #[.int .i64 (n : Int), .slice Ai t.init.length ci, .slice Ag t.goal.length cg, .slice Ao t.ops.length co], .slice S st.length cs, .slice Cx t.ops.length ccx, .func (.func 87) #[] #[]] w0 fun e w' => ∃ g, e = .returned (.slice (some ⟨g, 0, none⟩) n n) ∧ w0.heap.size ≤ g ∧ IArr w' g (valuesV false n st t.ops left) ∧ Best false n st t.ops left (valuesV false n st t.ops left) ∧ Below w0.heap.size w0 w' := fun w0 h Cx ccx left hC hS' hl hall => by
    have := values_at w0 t Ai Ag Ao ci cg co h n hn hn24 S cs st hS' hls HST.out Cx ccx t.ops.length left hC rfl hl hall HOPS.out _ false greatest_combines
    rw [hn] at this
    exact this
  have HCO' := Lib.hid HCO
  have HVA' := Lib.hid HVA
  clear HCO HVA hre hv h2 hn
  go_enter Try.func88, Try.ntmps88
  go_wp2_with fail
  go_region_held3 (fun W => W.cell? ⟨w.heap.size, 0, none⟩ = some (.int .i64 (n : Int)) ∧ W.cell? ⟨w.heap.size, 1, none⟩ = some (.slice Ai t.init.length ci) ∧ W.cell? ⟨w.heap.size, 2, none⟩ = some (.slice Ag t.goal.length cg) ∧ W.cell? ⟨w.heap.size, 3, none⟩ = some (.slice Ao t.ops.length co)) (first | exact hK | go_keep) (first | (go_at_call 109; refine (HCO'.out _ (hT.below (by repeat (first | with_reducible exact Below.refl _ _ | with_reducible apply bdrew | with_reducible apply bdrewN | with_reducible apply balloc | ((with_reducible refine bset ?_ ?_ _); rotate_left; (first | omega | (simp <;> omega))))))).mono ?_; rintro e w2 ⟨v2, rfl, ho2, hB2⟩; have D2 := dstep w hB2 (by repeat (first | with_reducible exact Below.refl _ _ | with_reducible apply bdrew | with_reducible apply bdrewN | with_reducible apply balloc | ((with_reducible refine bset ?_ ?_ _); rotate_left; (first | omega | (simp <;> omega))))); have d2s := D2.size; have C2 := Cls.below (l := [(w.heap.size, 0, .int .i64 (n : Int)), (w.heap.size, 1, .slice Ai t.init.length ci), (w.heap.size, 2, .slice Ag t.goal.length cg), (w.heap.size, 3, .slice Ao t.ops.length co)]) hB2 (by simp [Cls, go_sem]); have F2 := C2; simp only [Cls, and_true] at F2; have y2w0 : w.heap.size < w2.heap.size := C2.blk (b := w.heap.size) (k := 0) (v := .int .i64 (n : Int)) (by simp); have y2wp1 : w.heap.size < w2.heap.size + 1 := (by omega); have y2wp2 : w.heap.size < w2.heap.size + 1 + 1 := (by omega); have hK : w2.cell? ⟨w.heap.size, 0, none⟩ = some (.int .i64 (n : Int)) ∧ w2.cell? ⟨w.heap.size, 1, none⟩ = some (.slice Ai t.init.length ci) ∧ w2.cell? ⟨w.heap.size, 2, none⟩ = some (.slice Ag t.goal.length cg) ∧ w2.cell? ⟨w.heap.size, 3, none⟩ = some (.slice Ao t.ops.length co) := (by simp [F2]); have ho2' := (OwnI.mono (base' := w.heap.size + 1) ho2 (by simp)); obtain ⟨C, cc, rfl, -⟩ := ho2'.form_at HL0.out))
  have hC1 := ho2'.blk_
  go_wp2_with fail
  go_loopg [7, 8] (sumV (t.ops.map (·.cost))) (fun gk s7 s8 wr => ∃ (xs : List (List Int × Int)) (sQ : Value) (tt : Int), Hid (tt = totalOf xs) ∧ s8 = .int .i64 tt ∧ Hid (gk = sumV (leftOf (t.ops.map (·.cost)) xs)) ∧ Hid (CutsOk n st t.goal t.ops (t.ops.map (·.cost)) xs) ∧ OwnCs (w2.heap.size + 1) wr s7 xs ∧ OwnI (w.heap.size + 1) wr (.slice C t.ops.length cc) (leftOf (t.ops.map (·.cost)) xs) ∧ Below w.heap.size w wr ∧ Cls wr [(w.heap.size, 0, .int .i64 (n : Int)), (w.heap.size, 1, .slice Ai t.init.length ci), (w.heap.size, 2, .slice Ag t.goal.length cg), (w.heap.size, 3, .slice Ao t.ops.length co), (w2.heap.size, 0, .int .i64 (n : Int)), (w2.heap.size, 1, .slice Ai t.init.length ci), (w2.heap.size, 2, .slice Ag t.goal.length cg), (w2.heap.size, 3, .slice Ao t.ops.length co), (w2.heap.size, 4, .slice S st.length cs), (w2.heap.size, 5, .slice C t.ops.length cc), (w2.heap.size, 6, sQ)])
  case atStart => exact ⟨[], .slice none 0 0, 0, Lib.hid rfl, rfl, Lib.hid rfl, Lib.hid CutsOk.nil, OwnEs.nil _ _, ho2'.below (by repeat (first | with_reducible exact Below.refl _ _ | with_reducible apply bdrew | with_reducible apply bdrewN | with_reducible apply balloc | ((with_reducible refine bset ?_ ?_ _); rotate_left; (first | omega | (simp <;> omega))))), (by repeat (first | with_reducible exact D2 | with_reducible apply bdrew | with_reducible apply bdrewN | with_reducible apply balloc | ((with_reducible refine bset ?_ ?_ _); rotate_left; (first | omega | (simp <;> omega))))), (by simp [Cls, go_sem, F2, y2w0, y2wp1, y2wp2])⟩
  case round =>
    obtain ⟨xs, sQ, tt, htt, rfl, hgk, hok, hcs, hco, hBr, hCr⟩ := hrel
    obtain ⟨g3, rfl⟩ : ∃ g : Nat, g = gk := ⟨_, rfl⟩
    obtain ⟨w3, rfl⟩ : ∃ wo : World, wo = wr := ⟨_, rfl⟩
    obtain ⟨left, hle⟩ : ∃ left, Hid (leftOf (t.ops.map (·.cost)) xs = left) := ⟨_, Lib.hid rfl⟩
    rw [hle.out] at hco
    have HLL := Lib.hid (show left.length = t.ops.length by rw [← hle.out, leftOf_len]; exact HL0.out)
    have HLV := Lib.hid (show ∀ c ∈ left, 0 ≤ c ∧ c ≤ 100 by rw [← hle.out]; have := hok.out.left_in HL0.out HC0.out xs.length; rwa [List.take_length] at this)
    have HLA := Lib.hid (show AllV left from fun c hc => by have := HLV.out c hc; unfold InV; omega)
    have htb : 0 ≤ tt ∧ tt ≤ 4000 := by
      have h1 := hok.out.total HL0.out xs.length (Nat.le_refl _)
      rw [List.take_length] at h1
      have h3 := HS0.out
      have h4 := HL0.out
      have h5 := htt.out
      omega
    obtain ⟨htb0, htb1⟩ := htb
    have drs := hBr.size
    have Fr := hCr
    simp only [Cls, and_true] at Fr
    have yrw0 : w.heap.size < w3.heap.size := hCr.blk (b := w.heap.size) (k := 0) (v := .int .i64 (n : Int)) (by simp)
    have yrwp1 : w.heap.size < w3.heap.size + 1 := (by omega)
    have yrwp2 : w.heap.size < w3.heap.size + 1 + 1 := (by omega)
    have yrw20 : w2.heap.size < w3.heap.size := hCr.blk (b := w2.heap.size) (k := 0) (v := .int .i64 (n : Int)) (by simp)
    have yrw2p1 : w2.heap.size < w3.heap.size + 1 := (by omega)
    have yrw2p2 : w2.heap.size < w3.heap.size + 1 + 1 := (by omega)
    go_upto_region 4 with (fail)
    go_cut [18] (fun s18 wx => ∃ A5 c5, s18 = .pointer (some ⟨w2.heap.size, 0, none⟩) ∧ Hid (Best false n st t.ops left (valuesV false n st t.ops left)) ∧ Ints wx A5 (valuesV false n st t.ops left ++ [0]) ∧ OwnI (w.heap.size + 1) wx (.slice C t.ops.length cc) left ∧ OwnCs (w2.heap.size + 1) wx u7 xs ∧ Below w.heap.size w wx ∧ Cls wx [(w.heap.size, 0, .int .i64 (n : Int)), (w.heap.size, 1, .slice Ai t.init.length ci), (w.heap.size, 2, .slice Ag t.goal.length cg), (w.heap.size, 3, .slice Ao t.ops.length co), (w2.heap.size, 0, .int .i64 (n : Int)), (w2.heap.size, 1, .slice Ai t.init.length ci), (w2.heap.size, 2, .slice Ag t.goal.length cg), (w2.heap.size, 3, .slice Ao t.ops.length co), (w2.heap.size, 4, .slice S st.length cs), (w2.heap.size, 5, .slice C t.ops.length cc), (w2.heap.size, 6, .slice A5 (n + 1) c5)])
    case first =>
      have HB := hBr
      have HE := Below.refl w3.heap.size w3
      go_region_held3 (fun W => W.cell? ⟨w.heap.size, 0, none⟩ = some (.int .i64 (n : Int)) ∧ W.cell? ⟨w.heap.size, 1, none⟩ = some (.slice Ai t.init.length ci) ∧ W.cell? ⟨w.heap.size, 2, none⟩ = some (.slice Ag t.goal.length cg) ∧ W.cell? ⟨w.heap.size, 3, none⟩ = some (.slice Ao t.ops.length co) ∧ W.cell? ⟨w2.heap.size, 5, none⟩ = some (.slice C t.ops.length cc)) (first | exact hK | go_keep | simp [go_sem, F5, y2w0]) (first | (go_at_call 108; refine (HVA'.out _ (hT.below (by repeat (first | with_reducible exact HB | with_reducible apply bdrew | with_reducible apply bdrewN | with_reducible apply balloc | ((with_reducible refine bset ?_ ?_ _); rotate_left; (first | omega | (simp <;> omega)))))) _ _ left ((OwnI.ints_at hco).below (by repeat (first | with_reducible exact HE | with_reducible apply bdrew | with_reducible apply bdrewN | with_reducible apply balloc | ((with_reducible refine bset ?_ ?_ _); rotate_left; (first | omega | (simp <;> omega)))))) (hS.below (by repeat (first | with_reducible exact HB | with_reducible apply bdrew | with_reducible apply bdrewN | with_reducible apply balloc | ((with_reducible refine bset ?_ ?_ _); rotate_left; (first | omega | (simp <;> omega)))))) HLL.out HLA.out).mono ?_; rintro e w4 ⟨gv, rfl, hgv, hAv, hbest, hB4⟩; have hbest' := Lib.hid hbest; clear hbest; (first | (have hZ : w4.cell? ⟨w3.heap.size, 0, none⟩ = some (.int .i64 0) := (hB4.cell (p := ⟨w3.heap.size, 0, none⟩) (alloc_lt w3.drew _)).trans (cell_new_at w3.drew _ _ _ rfl)) | skip); have hgv' : w3.heap.size ≤ gv := (by simp at hgv; omega); have HB' := dstep w hB4 (by repeat (first | with_reducible exact HB | with_reducible apply bdrew | with_reducible apply bdrewN | with_reducible apply balloc | ((with_reducible refine bset ?_ ?_ _); rotate_left; (first | omega | (simp <;> omega))))); clear HB; have HB := HB'; clear HB'; have HE' := dstep w3 hB4 (by repeat (first | with_reducible exact HE | with_reducible apply bdrew | with_reducible apply bdrewN | with_reducible apply balloc | ((with_reducible refine bset ?_ ?_ _); rotate_left; (first | omega | (simp <;> omega))))); clear HE; have HE := HE'; clear HE'; have d4s := HE.size; have C4 := Cls.below (w := w3) HE hCr; have F4 := C4; simp only [Cls, and_true] at F4; have hK : w4.cell? ⟨w.heap.size, 0, none⟩ = some (.int .i64 (n : Int)) ∧ w4.cell? ⟨w.heap.size, 1, none⟩ = some (.slice Ai t.init.length ci) ∧ w4.cell? ⟨w.heap.size, 2, none⟩ = some (.slice Ag t.goal.length cg) ∧ w4.cell? ⟨w.heap.size, 3, none⟩ = some (.slice Ao t.ops.length co) ∧ w4.cell? ⟨w2.heap.size, 5, none⟩ = some (.slice C t.ops.length cc) := (by simp [F4]); clear hB4 hgv) | ((refine step_push (by rfl) _ _ (by rfl) w3 [(w.heap.size, 0, .int .i64 (n : Int)), (w.heap.size, 1, .slice Ai t.init.length ci), (w.heap.size, 2, .slice Ag t.goal.length cg), (w.heap.size, 3, .slice Ao t.ops.length co), (w2.heap.size, 0, .int .i64 (n : Int)), (w2.heap.size, 1, .slice Ai t.init.length ci), (w2.heap.size, 2, .slice Ag t.goal.length cg), (w2.heap.size, 3, .slice Ao t.ops.length co), (w2.heap.size, 4, .slice S st.length cs), (w2.heap.size, 5, .slice C t.ops.length cc), (w2.heap.size, 6, sQ)] w3.heap.size _ (valuesV false n st t.ops left) 0 (by rfl) (OwnI.below (IArr.own hAv hbest'.out.fix.shape.len hgv' hn24) (by repeat (first | with_reducible exact Below.refl _ _ | with_reducible apply bdrew | with_reducible apply bdrewN | with_reducible apply balloc | ((with_reducible refine bset ?_ ?_ _); rotate_left; (first | omega | (simp <;> omega)))))) _ _ (by rfl) (by first | exact hZ | simp) (by have := hbest'.out.fix.shape.len; omega) (by first | omega | (simp <;> omega)) (Nat.le_refl _) (by repeat (first | with_reducible exact HE | with_reducible apply bdrew | with_reducible apply bdrewN | with_reducible apply balloc | ((with_reducible refine bset ?_ ?_ _); rotate_left; (first | omega | (simp <;> omega))))) (by first | exact C4 | exact Cls.below C4 (by repeat (first | with_reducible exact Below.refl _ _ | with_reducible apply bdrew | with_reducible apply bdrewN | with_reducible apply balloc | ((with_reducible refine bset ?_ ?_ _); rotate_left; (first | omega | (simp <;> omega))))) | (exact Cls.below (w := w4) (by repeat (first | with_reducible exact Below.refl _ _ | with_reducible apply bdrew | with_reducible apply bdrewN | with_reducible apply balloc | ((with_reducible refine bset ?_ ?_ _); rotate_left; (first | omega | (simp <;> omega))))) C4)) (by simp <;> omega) ?_; intro v5 w5 ho5 D5 C5 sz5; have F5 := C5; simp only [Cls, and_true] at F5; obtain ⟨A5, c5, rfl, -⟩ := OwnI.form_at ho5 (show _ = n + 1 by have := hbest'.out.fix.shape.len; simp; omega); have hK : w5.cell? ⟨w.heap.size, 0, none⟩ = some (.int .i64 (n : Int)) ∧ w5.cell? ⟨w.heap.size, 1, none⟩ = some (.slice Ai t.init.length ci) ∧ w5.cell? ⟨w.heap.size, 2, none⟩ = some (.slice Ag t.goal.length cg) ∧ w5.cell? ⟨w.heap.size, 3, none⟩ = some (.slice Ao t.ops.length co) ∧ w5.cell? ⟨w2.heap.size, 5, none⟩ = some (.slice C t.ops.length cc) := (by simp [F5]); have d5s := D5.size)))
      all_goals
        go_wp2_with fail
        go_meet
        exact ⟨A5, c5, rfl, hbest', (OwnI.far ho5 (by (first | omega | (simp <;> omega))) _).ints_at, OwnI.away (OwnI.below hco D5) (own_ne (B := w2.heap.size) (fun ad h => (hC1 ad h).2) (Nat.le_refl _)) _, OwnCs.far (OwnCs.below hcs D5) (Nat.lt_succ_self _) _, by repeat (first | with_reducible exact (hBr.trans (D5.mono hBr.size)) | with_reducible apply bdrew | with_reducible apply bdrewN | with_reducible apply balloc | ((with_reducible refine bset ?_ ?_ _); rotate_left; (first | omega | (simp <;> omega)))), by simp [Cls, go_sem, F5, yrw0, yrwp1, yrwp2, yrw20, yrw2p1, yrw2p2]⟩
    case rest =>
      obtain ⟨w6, rfl⟩ : ∃ wo : World, wo = wc := ⟨_, rfl⟩
      obtain ⟨A5, c5, rfl, hbest, hW, hco6, hcs6, D6, hC6⟩ := hcut
      obtain ⟨V, hVe⟩ : ∃ V, Hid (valuesV false n st t.ops left = V) := ⟨_, Lib.hid rfl⟩
      rw [hVe.out] at hbest hW
      have HVL := Lib.hid hbest.out.fix.shape.len
      have HVA := Lib.hid hbest.out.fix.shape.all
      obtain ⟨G, hG⟩ : ∃ G, Hid (combV false V t.goal = G) := ⟨_, Lib.hid rfl⟩
      have HGI := Lib.hid (goal_inf_iff hbest.out HLL.out HLV.out HST.out HOPS.out HGO.out)
      have hGn := combV_in (s := false) HVA.out t.goal
      rw [hG.out] at hGn
      have HGn := Lib.hid hGn
      clear hGn
      have d6s := D6.size
      have F6 := hC6
      simp only [Cls, and_true] at F6
      have y6w0 : w.heap.size < w6.heap.size := hC6.blk (b := w.heap.size) (k := 0) (v := .int .i64 (n : Int)) (by simp)
      have y6wp1 : w.heap.size < w6.heap.size + 1 := (by omega)
      have y6wp2 : w.heap.size < w6.heap.size + 1 + 1 := (by omega)
      have y6w20 : w2.heap.size < w6.heap.size := hC6.blk (b := w2.heap.size) (k := 0) (v := .int .i64 (n : Int)) (by simp)
      have y6w2p1 : w2.heap.size < w6.heap.size + 1 := (by omega)
      have y6w2p2 : w2.heap.size < w6.heap.size + 1 + 1 := (by omega)
      obtain rfl : G = 1000000000 := hG.out.symm.trans (HGI.out.2 HRE.out)
      go_wp2_with fail
      go_quiet ((go_at_call 87; exact Calls.quiet_of_same ((great_at _ _ _ _ (n + 1) (V ++ [0]) _ _ 1000000000 (hW.below (by repeat (first | with_reducible exact Below.refl _ _ | with_reducible apply bdrew | with_reducible apply bdrewN | with_reducible apply balloc | ((with_reducible refine bset ?_ ?_ _); rotate_left; (first | omega | (simp <;> omega)))))) (hT.goal.below (by repeat (first | with_reducible exact D6 | with_reducible apply bdrew | with_reducible apply bdrewN | with_reducible apply balloc | ((with_reducible refine bset ?_ ?_ _); rotate_left; (first | omega | (simp <;> omega)))))) (by simp [HVL.out]) hT.lgoal (by omega) (fun x hx => by have := HGO.out x hx; omega) (allV_app HVA.out) (by rw [comb_app HVL.out HGO.out]; exact hG.out)).mono fun _ _ h => ⟨h.1, h.2.symm⟩)))
      go_wp2
      go_ret2
      exact ⟨rfl, by repeat (first | with_reducible exact D6 | with_reducible apply bdrew | with_reducible apply bdrewN | with_reducible apply balloc | ((with_reducible refine bset ?_ ?_ _); rotate_left; (first | omega | (simp <;> omega))))⟩


end Go.Proofs.Ytihkgdlanfemcaa

namespace Go.Proofs.Ytihkgdlanfemcaa
open Go.RowKit
set_option linter.unusedVariables false
set_option linter.unusedSimpArgs false

set_option maxRecDepth 100000 in
set_option maxHeartbeats 400000 in
theorem cuts_1 (w : World) (t : TaskV) (Ai Ag Ao : Option Addr) (ci cg co : Nat) (hT : TaskMem w Ai Ag Ao t) (S : Option Addr) (cs : Nat) (st : List Int) (hS : Ints w S st) (hls : lenOk st.length) (h : ¬ (sfault t st).1 = 0) :
    Calls Try.prog 45 #[.agg #[.int .i64 t.facts, .slice Ai t.init.length ci, .slice Ag t.goal.length cg, .slice Ao t.ops.length co], .slice S st.length cs] w fun e w' => e = .returned (.tuple #[.slice none 0 0, .int .i64 0, .agg #[.int .i64 (sfault t st).1, .int .i64 (sfault t st).2]]) ∧ Below w.heap.size w w' := by
  have N := bb_no h
  have N' := bn_yes h
  go_enter Try.func45, Try.ntmps45
  go_wp2_with fail
  refine (statefault_any _ _ _ _ _ _ _ _ (hT.below (by repeat (first | with_reducible exact Below.refl _ _ | with_reducible apply bdrew | with_reducible apply bdrewN | with_reducible apply balloc | ((with_reducible refine bset ?_ ?_ _); rotate_left; (first | omega | (simp <;> omega)))))) _ _ _ (hS.below (by repeat (first | with_reducible exact Below.refl _ _ | with_reducible apply bdrew | with_reducible apply bdrewN | with_reducible apply balloc | ((with_reducible refine bset ?_ ?_ _); rotate_left; (first | omega | (simp <;> omega)))))) hls).mono ?_
  rintro e w1 ⟨rfl, hB1⟩
  have D1 := dstep w hB1 (by repeat (first | with_reducible exact Below.refl _ _ | with_reducible apply bdrew | with_reducible apply bdrewN | with_reducible apply balloc | ((with_reducible refine bset ?_ ?_ _); rotate_left; (first | omega | (simp <;> omega)))))
  have d1s := D1.size
  have C1 := Cls.below (l := [(w.heap.size, 0, .int .i64 t.facts), (w.heap.size, 1, .slice Ai t.init.length ci), (w.heap.size, 2, .slice Ag t.goal.length cg), (w.heap.size, 3, .slice Ao t.ops.length co), (w.heap.size + 1, 0, .int .i64 0), (w.heap.size + 1, 1, .int .i64 0)]) hB1 (by simp [Cls, go_sem])
  have F1 := C1
  simp only [Cls, and_true] at F1
  have y1w1 : w.heap.size + 1 < w1.heap.size := C1.blk (b := w.heap.size + 1) (k := 0) (v := .int .i64 0) (by simp)
  have y1w0 : w.heap.size < w1.heap.size := (by omega)
  have y1wp1 : w.heap.size < w1.heap.size + 1 := (by omega)
  have y1wp2 : w.heap.size < w1.heap.size + 1 + 1 := (by omega)
  go_wp2_with fail
  refine region_still_tail 3 (by kernel_rfl) (by kernel_rfl) ?_
  simp only [List.take_succ_cons, List.take_zero, List.drop_succ_cons, List.drop_zero]
  repeat still_step
  refine wpStill_nil ?_
  go_wp2
  refine bodyPost_ret (v := .tuple #[.slice none 0 0, .int .i64 0, .agg #[.int .i64 (sfault t st).1, .int .i64 (sfault t st).2]]) ?_ rfl ⟨rfl, by repeat (first | with_reducible exact D1 | with_reducible apply bdrew | with_reducible apply bdrewN | with_reducible apply balloc | ((with_reducible refine bset ?_ ?_ _); rotate_left; (first | omega | (simp <;> omega))))⟩
  simp [results, Try.results45, go_sem, F1, y1w1, y1w0, y1wp1, y1wp2]

set_option maxRecDepth 100000 in
set_option maxHeartbeats 1000000 in
theorem cuts_yes (w : World) (t : TaskV) (Ai Ag Ao : Option Addr) (ci cg co : Nat) (hT : TaskMem w Ai Ag Ao t) (S : Option Addr) (cs : Nat) (st : List Int) (hS : Ints w S st) (hls : lenOk st.length) (n : Nat) (hn : t.facts = n) (hv : Valid t) (h2 : SetP st t.facts) (hre : GoalR t st) :
    Calls Try.prog 45 #[.agg #[.int .i64 t.facts, .slice Ai t.init.length ci, .slice Ag t.goal.length cg, .slice Ao t.ops.length co], .slice S st.length cs] w fun e w' => ∃ (v : Value) (xs : List (List Int × Int)) (bs : Nat), e = .returned (.tuple #[v, .int .i64 (totalOf xs), .agg #[.int .i64 0, .int .i64 0]]) ∧ w.heap.size ≤ bs ∧ OwnCs bs w' v xs ∧ CutsOk n st t.goal t.ops (t.ops.map (·.cost)) xs ∧ Best false n st t.ops (leftOf (t.ops.map (·.cost)) xs) (valuesV false n st t.ops (leftOf (t.ops.map (·.cost)) xs)) ∧ combV false (valuesV false n st t.ops (leftOf (t.ops.map (·.cost)) xs)) t.goal = 0 ∧ Below w.heap.size w w' := by
  have HN := Lib.hid hn
  have HV := Lib.hid hv
  have H2 := Lib.hid h2
  have HRE := Lib.hid hre
  clear hv h2 hn hre
  go_enter Try.func45, Try.ntmps45
  go_wp2_with fail
  refine (statefault_3 _ _ _ _ _ _ _ _ (hT.below (by repeat (first | with_reducible exact Below.refl _ _ | with_reducible apply bdrew | with_reducible apply bdrewN | with_reducible apply balloc | ((with_reducible refine bset ?_ ?_ _); rotate_left; (first | omega | (simp <;> omega)))))) _ _ _ (hS.below (by repeat (first | with_reducible exact Below.refl _ _ | with_reducible apply bdrew | with_reducible apply bdrewN | with_reducible apply balloc | ((with_reducible refine bset ?_ ?_ _); rotate_left; (first | omega | (simp <;> omega)))))) hls HV.out H2.out).mono ?_
  rintro e w1 ⟨rfl, hB1⟩
  have D1 := dstep w hB1 (by repeat (first | with_reducible exact Below.refl _ _ | with_reducible apply bdrew | with_reducible apply bdrewN | with_reducible apply balloc | ((with_reducible refine bset ?_ ?_ _); rotate_left; (first | omega | (simp <;> omega)))))
  have d1s := D1.size
  have C1 := Cls.below (l := [(w.heap.size, 0, .int .i64 t.facts), (w.heap.size, 1, .slice Ai t.init.length ci), (w.heap.size, 2, .slice Ag t.goal.length cg), (w.heap.size, 3, .slice Ao t.ops.length co), (w.heap.size + 1, 0, .int .i64 0), (w.heap.size + 1, 1, .int .i64 0)]) hB1 (by simp [Cls, go_sem])
  have F1 := C1
  simp only [Cls, and_true] at F1
  have y1w1 : w.heap.size + 1 < w1.heap.size := C1.blk (b := w.heap.size + 1) (k := 0) (v := .int .i64 0) (by simp)
  have y1w0 : w.heap.size < w1.heap.size := (by omega)
  have y1wp1 : w.heap.size < w1.heap.size + 1 := (by omega)
  have y1wp2 : w.heap.size < w1.heap.size + 1 + 1 := (by omega)
  go_wp2_with fail
  refine (find_yes _ t Ai Ag Ao ci cg co (hT.below (by repeat (first | with_reducible exact D1 | with_reducible apply bdrew | with_reducible apply bdrewN | with_reducible apply balloc | ((with_reducible refine bset ?_ ?_ _); rotate_left; (first | omega | (simp <;> omega)))))) S cs st (hS.below (by repeat (first | with_reducible exact D1 | with_reducible apply bdrew | with_reducible apply bdrewN | with_reducible apply balloc | ((with_reducible refine bset ?_ ?_ _); rotate_left; (first | omega | (simp <;> omega)))))) hls n HN.out HV.out H2.out HRE.out).mono ?_
  rintro e w2 ⟨v2, xs, bs, rfl, hbs, hcs, hok, hbest, hz, hB2⟩
  have D2 := dstep w hB2 (by repeat (first | with_reducible exact D1 | with_reducible apply bdrew | with_reducible apply bdrewN | with_reducible apply balloc | ((with_reducible refine bset ?_ ?_ _); rotate_left; (first | omega | (simp <;> omega)))))
  have d2s := D2.size
  have C2 := Cls.below (l := [(w.heap.size, 0, .int .i64 t.facts), (w.heap.size, 1, .slice Ai t.init.length ci), (w.heap.size, 2, .slice Ag t.goal.length cg), (w.heap.size, 3, .slice Ao t.ops.length co), (w.heap.size + 1, 0, .int .i64 0), (w.heap.size + 1, 1, .int .i64 0)]) hB2 (by simp [Cls, go_sem, F1, y1w1, y1w0, y1wp1, y1wp2])
  have F2 := C2
  simp only [Cls, and_true] at F2
  have y2w1 : w.heap.size + 1 < w2.heap.size := C2.blk (b := w.heap.size + 1) (k := 0) (v := .int .i64 0) (by simp)
  have y2w0 : w.heap.size < w2.heap.size := (by omega)
  have y2wp1 : w.heap.size < w2.heap.size + 1 := (by omega)
  have y2wp2 : w.heap.size < w2.heap.size + 1 + 1 := (by omega)
  have Hok := Lib.hid hok
  have Hbest := Lib.hid hbest
  have Hz := Lib.hid hz
  clear hok hbest hz
  have hbs' : w1.heap.size ≤ bs := Nat.le_trans (by simp) hbs
  clear hbs
  go_wp2
  refine bodyPost_ret (v := .tuple #[v2, .int .i64 (totalOf xs), .agg #[.int .i64 0, .int .i64 0]]) ?_ rfl ⟨v2, xs, bs, rfl, by omega, ?_, Hok.out, Hbest.out, Hz.out, by repeat (first | with_reducible exact D2 | with_reducible apply bdrew | with_reducible apply bdrewN | with_reducible apply balloc | ((with_reducible refine bset ?_ ?_ _); rotate_left; (first | omega | (simp <;> omega))))⟩
  · simp [results, Try.results45, go_sem, F2, y2w1, y2w0, y2wp1, y2wp2]
  · repeat (first | with_reducible exact hcs | (with_reducible refine OwnCs.far ?_ ?_ _; rotate_left; (first | omega | (simp <;> omega))) | with_reducible refine OwnCs.drew ?_)

set_option maxRecDepth 100000 in
set_option maxHeartbeats 1000000 in
theorem cuts_no (w : World) (t : TaskV) (Ai Ag Ao : Option Addr) (ci cg co : Nat) (hT : TaskMem w Ai Ag Ao t) (S : Option Addr) (cs : Nat) (st : List Int) (hS : Ints w S st) (hls : lenOk st.length) (n : Nat) (hn : t.facts = n) (hv : Valid t) (h2 : SetP st t.facts) (hre : ¬ GoalR t st) :
    Calls Try.prog 45 #[.agg #[.int .i64 t.facts, .slice Ai t.init.length ci, .slice Ag t.goal.length cg, .slice Ao t.ops.length co], .slice S st.length cs] w fun e w' => e = .returned (.tuple #[.slice none 0 0, .int .i64 1000000000, .agg #[.int .i64 0, .int .i64 0]]) ∧ Below w.heap.size w w' := by
  have HN := Lib.hid hn
  have HV := Lib.hid hv
  have H2 := Lib.hid h2
  have HRE := Lib.hid hre
  clear hv h2 hn hre
  go_enter Try.func45, Try.ntmps45
  go_wp2_with fail
  refine (statefault_3 _ _ _ _ _ _ _ _ (hT.below (by repeat (first | with_reducible exact Below.refl _ _ | with_reducible apply bdrew | with_reducible apply bdrewN | with_reducible apply balloc | ((with_reducible refine bset ?_ ?_ _); rotate_left; (first | omega | (simp <;> omega)))))) _ _ _ (hS.below (by repeat (first | with_reducible exact Below.refl _ _ | with_reducible apply bdrew | with_reducible apply bdrewN | with_reducible apply balloc | ((with_reducible refine bset ?_ ?_ _); rotate_left; (first | omega | (simp <;> omega)))))) hls HV.out H2.out).mono ?_
  rintro e w1 ⟨rfl, hB1⟩
  have D1 := dstep w hB1 (by repeat (first | with_reducible exact Below.refl _ _ | with_reducible apply bdrew | with_reducible apply bdrewN | with_reducible apply balloc | ((with_reducible refine bset ?_ ?_ _); rotate_left; (first | omega | (simp <;> omega)))))
  have d1s := D1.size
  have C1 := Cls.below (l := [(w.heap.size, 0, .int .i64 t.facts), (w.heap.size, 1, .slice Ai t.init.length ci), (w.heap.size, 2, .slice Ag t.goal.length cg), (w.heap.size, 3, .slice Ao t.ops.length co), (w.heap.size + 1, 0, .int .i64 0), (w.heap.size + 1, 1, .int .i64 0)]) hB1 (by simp [Cls, go_sem])
  have F1 := C1
  simp only [Cls, and_true] at F1
  have y1w1 : w.heap.size + 1 < w1.heap.size := C1.blk (b := w.heap.size + 1) (k := 0) (v := .int .i64 0) (by simp)
  have y1w0 : w.heap.size < w1.heap.size := (by omega)
  have y1wp1 : w.heap.size < w1.heap.size + 1 := (by omega)
  have y1wp2 : w.heap.size < w1.heap.size + 1 + 1 := (by omega)
  go_wp2_with fail
  refine (find_no _ t Ai Ag Ao ci cg co (hT.below (by repeat (first | with_reducible exact D1 | with_reducible apply bdrew | with_reducible apply bdrewN | with_reducible apply balloc | ((with_reducible refine bset ?_ ?_ _); rotate_left; (first | omega | (simp <;> omega)))))) S cs st (hS.below (by repeat (first | with_reducible exact D1 | with_reducible apply bdrew | with_reducible apply bdrewN | with_reducible apply balloc | ((with_reducible refine bset ?_ ?_ _); rotate_left; (first | omega | (simp <;> omega)))))) hls n HN.out HV.out H2.out HRE.out).mono ?_
  rintro e w2 ⟨rfl, hB2⟩
  have D2 := dstep w hB2 (by repeat (first | with_reducible exact D1 | with_reducible apply bdrew | with_reducible apply bdrewN | with_reducible apply balloc | ((with_reducible refine bset ?_ ?_ _); rotate_left; (first | omega | (simp <;> omega)))))
  have d2s := D2.size
  have C2 := Cls.below (l := [(w.heap.size, 0, .int .i64 t.facts), (w.heap.size, 1, .slice Ai t.init.length ci), (w.heap.size, 2, .slice Ag t.goal.length cg), (w.heap.size, 3, .slice Ao t.ops.length co), (w.heap.size + 1, 0, .int .i64 0), (w.heap.size + 1, 1, .int .i64 0)]) hB2 (by simp [Cls, go_sem, F1, y1w1, y1w0, y1wp1, y1wp2])
  have F2 := C2
  simp only [Cls, and_true] at F2
  have y2w1 : w.heap.size + 1 < w2.heap.size := C2.blk (b := w.heap.size + 1) (k := 0) (v := .int .i64 0) (by simp)
  have y2w0 : w.heap.size < w2.heap.size := (by omega)
  have y2wp1 : w.heap.size < w2.heap.size + 1 := (by omega)
  have y2wp2 : w.heap.size < w2.heap.size + 1 + 1 := (by omega)
  go_wp2
  refine bodyPost_ret (v := .tuple #[.slice none 0 0, .int .i64 1000000000, .agg #[.int .i64 0, .int .i64 0]]) ?_ rfl ⟨rfl, by repeat (first | with_reducible exact D2 | with_reducible apply bdrew | with_reducible apply bdrewN | with_reducible apply balloc | ((with_reducible refine bset ?_ ?_ _); rotate_left; (first | omega | (simp <;> omega))))⟩
  simp [results, Try.results45, go_sem, F2, y2w1, y2w0, y2wp1, y2wp2]


/-! ### The example -/
end Go.Proofs.Ytihkgdlanfemcaa
