/-
  Costs that are multiplied: values and least costs; plain.
-/
import Derived.Test.YtihkgdlanfemcaaZSc1
import Derived.Test.YtihkgdlanfemcaaZRbu
import Derived.Test.YtihkgdlanfemcaaZLc5
import Derived.Test.YtihkgdlanfemcaaZBf8
namespace Go.Proofs.Ytihkgdlanfemcaa
open Go.RowKit
set_option linter.unusedVariables false
set_option linter.unusedSimpArgs false

/-! ### The same operators but for the costs -/
def SameO (os ps : List OpV) : Prop := ∀ (i : Nat) (o : OpV), os[i]? = some o → ∃ o', ps[i]? = some o' ∧ o'.pre = o.pre ∧ o'.add = o.add ∧ o'.del = o.del
theorem same_to (k : Int) (os : List OpV) : SameO os (os.map (scO k)) := fun i o h => ⟨scO k o, by rw [List.getElem?_map, h]; rfl, rfl, rfl, rfl⟩
theorem same_from (k : Int) (os : List OpV) : SameO (os.map (scO k)) os := fun i o h => by
  rw [List.getElem?_map] at h
  obtain ⟨p, h1, rfl⟩ := Option.map_eq_some_iff.1 h
  exact ⟨p, h1, rfl, rfl, rfl⟩
theorem SameO.rx {os ps : List OpV} (h : SameO os ps) : SameO (os.map rxO) (ps.map rxO) := fun i o ho => by
  rw [List.getElem?_map] at ho
  obtain ⟨p, h1, rfl⟩ := Option.map_eq_some_iff.1 ho
  obtain ⟨p', h2, h3, h4, _⟩ := h i p h1
  exact ⟨rxO p', by rw [List.getElem?_map, h2]; rfl, h3, h4, rfl⟩
theorem next_same {n : Nat} {l : List Int} {o o' : OpV} (ha : o'.add = o.add) (hd : o'.del = o.del) : nextV n l o' = nextV n l o := by
  unfold nextV; rw [ha, hd]
theorem Rch.same {n : Nat} {os ps : List OpV} {st l : List Int} (hs : SameO os ps) (h : Rch n os st l) : Rch n ps st l := by
  induction h with
  | init => exact .init
  | @step r op h1 h2 h3 ih =>
    obtain ⟨o, ho, hq⟩ := h3
    obtain ⟨o', h4, h5, h6, h7⟩ := hs op o (by simpa using ho)
    have := Rch.step (op := op) ih (List.getElem?_eq_some_iff.1 h4).1 ⟨o', by simpa using h4, by rw [h5]; exact hq⟩
    rw [opAt_of (o := o') (by simpa using h4), next_same h6 h7] at this
    rw [opAt_of ho]
    exact this
theorem Reach.same {os ps : List OpV} {st : List Int} {p : Int} (hs : SameO os ps) (h : Reach st os (fun _ => true) p) : Reach st ps (fun _ => true) p := by
  induction h with
  | init h => exact .init h
  | step h1 _ _ h4 ih =>
    obtain ⟨o', h5, h6, h7, _⟩ := hs _ _ h1
    exact .step h5 rfl (fun q hq => ih q (by rw [← h6]; exact hq)) (by rw [h7]; exact h4)

/-! ### Values -/
theorem closed_sc {k : Int} {s : Bool} {ops : List OpV} {cs : List Int} {j : Nat} {U : List Int} : ClosedTo s (ops.map (scO k)) cs j U ↔ ClosedTo s ops cs j U := by
  constructor
  · intro h i o c hi ho hc p hp
    exact h i (scO k o) c hi (by rw [List.getElem?_map, ho]; rfl) hc p hp
  · intro h i o c hi ho hc p hp
    rw [List.getElem?_map] at ho
    obtain ⟨o', h1, rfl⟩ := Option.map_eq_some_iff.1 ho
    exact h i o' c hi h1 hc p hp
theorem fix_sc {k : Int} {s : Bool} {n : Nat} {st : List Int} {ops : List OpV} {cs U : List Int} : Fix s n st (ops.map (scO k)) cs U ↔ Fix s n st ops cs U := by
  constructor
  · intro h
    have := h.closed
    rw [List.length_map] at this
    exact ⟨h.shape, closed_sc.1 this⟩
  · intro h
    exact ⟨h.shape, by rw [List.length_map]; exact closed_sc.2 h.closed⟩
/-- A list of values under a monotone function. -/
structure MonoF (f : Int → Int) : Prop where
  zero : f 0 = 0
  mono : ∀ a b, a ≤ b → f a ≤ f b
  inn : ∀ a, InV a → InV (f a)
section
variable {f : Int → Int} {V : List Int}
theorem valAt_map (hf : MonoF f) (p : Int) : valAt (V.map f) p = f (valAt V p) := by
  unfold valAt
  rw [List.getElem?_map]
  cases V[p.toNat]? with
  | none => simp [hf.zero]
  | some v => rfl
theorem combV_map (hf : MonoF f) (xs : List Int) : combV false (V.map f) xs = f (combV false V xs) := by
  have key : ∀ (xs : List Int) (o : Int), xs.foldl (fun o p => stepV false o (valAt (V.map f) p)) (f o) = f (xs.foldl (fun o p => stepV false o (valAt V p)) o) := by
    intro xs
    induction xs with
    | nil => intro o; rfl
    | cons x xs ih =>
      intro o
      rw [List.foldl_cons, List.foldl_cons, ← ih]
      congr 1
      rw [valAt_map hf]
      unfold stepV
      dsimp only
      by_cases h : valAt V x > o
      · rw [if_pos h]
        have := hf.mono o (valAt V x) (by omega)
        split <;> omega
      · rw [if_neg h]
        have := hf.mono (valAt V x) o (by omega)
        split <;> omega
  unfold combV
  have := key xs 0
  rw [hf.zero] at this
  exact this
theorem shape_map (hf : MonoF f) {n : Nat} {st : List Int} (h : Shape n st V) : Shape n st (V.map f) :=
  ⟨by rw [List.length_map]; exact h.len, fun v hv => by
    obtain ⟨x, hx, rfl⟩ := List.mem_map.1 hv
    exact hf.inn x (h.all x hx), fun p hp => by rw [valAt_map hf, h.zero p hp, hf.zero]⟩
end
/-- A value divided, rounded up. -/
def upV (k : Int) (x : Int) : Int := (x + (k - 1)) / k
theorem upV_mono {k : Int} (hk : 1 ≤ k) : MonoF (upV k) := by
  refine ⟨?_, fun a b h => ?_, fun a ha => ?_⟩
  · unfold upV
    exact Int.ediv_eq_zero_of_lt (by omega) (by omega)
  · unfold upV
    exact Int.ediv_le_ediv (by omega) (by omega)
  · unfold InV at ha ⊢
    unfold upV
    refine ⟨Int.ediv_nonneg (by omega) (by omega), ?_⟩
    refine Int.ediv_le_of_le_mul (by omega) ?_
    have : (1000000000 : Int) * 1 ≤ 1000000000 * k := Int.mul_le_mul_of_nonneg_left hk (by omega)
    have h2 : 999999999 * 1 ≤ 999999999 * k := Int.mul_le_mul_of_nonneg_left hk (by omega)
    omega
theorem upV_add {k : Int} (hk : 1 ≤ k) (x c : Int) : upV k (x + c * k) = upV k x + c := by
  unfold upV
  rw [show x + c * k + (k - 1) = (x + (k - 1)) + c * k by omega, Int.add_mul_ediv_right _ _ (by omega)]
theorem upV_le {k : Int} (hk : 1 ≤ k) {x : Int} (hx : 0 ≤ x) : upV k x ≤ x := by
  by_cases e : x = 0
  · rw [e, (upV_mono hk).zero]
    exact Int.le_refl _
  · unfold upV
    refine Int.ediv_le_of_le_mul (by omega) ?_
    have : (x - 1) * 1 ≤ (x - 1) * k := Int.mul_le_mul_of_nonneg_left hk (by omega)
    rw [Int.sub_mul, Int.sub_mul] at this
    omega
theorem mulK_mono {k a b : Int} (hk : 0 ≤ k) (h : a ≤ b) : a * k ≤ b * k := Int.mul_le_mul_of_nonneg_right h hk
theorem upV_mul {k x y : Int} (hk : 1 ≤ k) (h : upV k x ≤ y) : x ≤ y * k := by
  unfold upV at h
  have h1 := Int.lt_ediv_add_one_mul_self (x + (k - 1)) (show 0 < k by omega)
  have h2 := mulK_mono (show 0 ≤ k by omega) (show (x + (k - 1)) / k + 1 ≤ y + 1 by omega)
  rw [Int.add_mul y] at h2
  omega
/-- A value multiplied. -/
def muV (k : Int) (x : Int) : Int := if x ≥ 1000000000 then 1000000000 else if x * k ≥ 1000000000 then 999999999 else x * k
theorem muV_mono {k : Int} (hk : 0 ≤ k) : MonoF (muV k) := by
  refine ⟨by unfold muV; simp, fun a b h => ?_, fun a ha => ?_⟩
  · have := mulK_mono hk h
    unfold muV
    (repeat split) <;> omega
  · unfold InV at ha ⊢
    have := Int.mul_nonneg ha.1 hk
    unfold muV
    (repeat split) <;> omega
theorem fix_up {k : Int} (hk : 1 ≤ k) {n : Nat} {st : List Int} {ops : List OpV} {cs U : List Int} (hcs : ∀ c ∈ cs, 0 ≤ c ∧ c * k ≤ 100) (h : Fix false n st ops (cs.map (· * k)) U) : Fix false n st ops cs (U.map (upV k)) := by
  have hf := upV_mono hk
  refine ⟨shape_map hf h.shape, fun i o c hi ho hc p hp => ?_⟩
  have h1 := h.closed i o (c * k) hi ho (by rw [List.getElem?_map, hc]; rfl) p hp
  have hc1 := hcs c (List.mem_of_getElem? hc)
  have hck : c ≤ c * k := by
    have := Int.mul_le_mul_of_nonneg_left hk hc1.1
    omega
  unfold opV at h1 ⊢
  rw [valAt_map hf, combV_map hf]
  have hx := combV_in (s := false) h.shape.all o.pre
  have hu := valAt_in h.shape.all p
  have hfx := hf.inn _ hx
  have hfu := hf.inn _ hu
  have hcv : InV c := by unfold InV; omega
  generalize combV false U o.pre = x at h1 hx hfx
  generalize valAt U p = u at h1 hu hfu
  by_cases hi : x = 1000000000
  · refine Int.le_trans (hf.mono u x ?_) (plusV_ge_left hfx hcv)
    unfold InV at hu; omega
  · have h2 : plusV x (c * k) ≤ x + c * k ∧ plusV x (c * k) ≤ 999999999 := by
      unfold InV at hx
      unfold plusV
      rw [if_neg (by omega)]
      split <;> omega
    refine plusV_ge hfx hcv ?_ ?_
    · rw [← upV_add hk]
      exact hf.mono _ _ (by omega)
    · have := upV_le hk (x := u) hu.1
      omega
theorem fix_mu {k : Int} (hk : 0 ≤ k) {n : Nat} {st : List Int} {ops : List OpV} {cs U : List Int} (hcs : ∀ c ∈ cs, 0 ≤ c ∧ c ≤ 100 ∧ c * k ≤ 100) (h : Fix false n st ops cs U) : Fix false n st ops (cs.map (· * k)) (U.map (muV k)) := by
  have hf := muV_mono hk
  refine ⟨shape_map hf h.shape, fun i o c' hi ho hc' p hp => ?_⟩
  rw [List.getElem?_map] at hc'
  obtain ⟨c, hc, rfl⟩ := Option.map_eq_some_iff.1 hc'
  have h1 := h.closed i o c hi ho hc p hp
  have hc1 := hcs c (List.mem_of_getElem? hc)
  have hck := Int.mul_nonneg hc1.1 hk
  unfold opV at h1 ⊢
  rw [valAt_map hf, combV_map hf]
  have hx := combV_in (s := false) h.shape.all o.pre
  have hu := valAt_in h.shape.all p
  have hfx := hf.inn _ hx
  have hfu := hf.inn _ hu
  have hcv : InV (c * k) := by unfold InV; omega
  generalize combV false U o.pre = x at h1 hx hfx
  generalize valAt U p = u at h1 hu hfu
  by_cases hi : x = 1000000000
  · refine Int.le_trans (hf.mono u x ?_) (plusV_ge_left hfx hcv)
    unfold InV at hu; omega
  · have h2 : plusV x c ≤ x + c ∧ plusV x c ≤ 999999999 := by
      unfold InV at hx
      unfold plusV
      rw [if_neg (by omega)]
      split <;> omega
    have h3 := mulK_mono hk (show u ≤ x + c by omega)
    rw [Int.add_mul] at h3
    unfold InV at hx hu
    have hxk : muV k x = if x * k ≥ 1000000000 then 999999999 else x * k := by unfold muV; rw [if_neg (by omega)]
    have huk : muV k u ≤ 999999999 ∧ muV k u ≤ u * k := by
      unfold muV; rw [if_neg (by omega)]; split <;> omega
    refine plusV_ge hfx hcv ?_ huk.1
    rw [hxk]
    split <;> omega
/-! ### Least costs -/
theorem valid_sc {t : TaskV} {k : Int} (hv : Valid t) (h0 : 0 ≤ k) (hk : ∀ o ∈ t.ops, o.cost * k ≤ 100) : Valid (scT k t) := ⟨hv.f0, hv.f1, hv.init, hv.goal, by simp [scT]; exact hv.nops, fun o ho => by
  obtain ⟨p, hp, rfl⟩ := List.mem_map.1 ho
  have h := hv.ops p hp
  exact ⟨h.1, Int.mul_nonneg h.2.1 h0, hk p hp⟩⟩
theorem rb_fin {n : Nat} {t : TaskV} {st : List Int} {d : Int} (hv : Valid t) (hn : t.facts = n) (hst : SetP st (n : Int)) (hd : RBest n (t.ops.map rxO) t.goal st d) : (d < 1000000000 ↔ GoalR t st) ∧ (d < 1000000000 → d ≤ 4000) := by
  have hp := plan_best hv hn hst hd
  refine ⟨?_, fun h => ?_⟩
  · rw [← hp.1]
    constructor
    · intro h q hq
      obtain ⟨q0, q1⟩ := goal_in hv hn q hq
      obtain ⟨q, rfl⟩ := Int.eq_ofNat_of_zero_le q0
      exact ((levV_spec n st t.ops).reach hst.1 (fun o ho => (ops_in hv hn o ho).2) (by omega)).1 (h _ hq)
    · intro h q hq
      obtain ⟨q0, q1⟩ := goal_in hv hn q hq
      obtain ⟨q, rfl⟩ := Int.eq_ofNat_of_zero_le q0
      exact ((levV_spec n st t.ops).reach hst.1 (fun o ho => (ops_in hv hn o ho).2) (by omega)).2 (h _ hq)
  · have hl := hp.1.2 h
    have h1 := hp.2 hl
    have h2 := plan_tells hv hn hst hl
    have h3 := costP_le (fun o ho => (hv.ops o ho).2) _ h2.rng
    have h4 := nodup_len h2.nodup h2.rng
    have h5 := hv.nops
    omega
/-- The value of the goal is multiplied. -/
theorem max_sc {n : Nat} {t : TaskV} {st : List Int} {k : Int} (hv : Valid t) (hn : t.facts = n) (hst : SetP st (n : Int)) (h0 : 0 ≤ k) (h100 : k ≤ 100) (hk : ∀ o ∈ t.ops, o.cost * k ≤ 100) {M M' : Int}
    (hM : combV false (valuesV false n st t.ops (t.ops.map (·.cost))) t.goal = M) (hM' : combV false (valuesV false n st (scT k t).ops ((scT k t).ops.map (·.cost))) (scT k t).goal = M') :
    (M = 1000000000 ↔ M' = 1000000000) ∧ (M = 1000000000 ∨ M' = M * k) ∧ 0 ≤ M ∧ M ≤ 1000000000 ∧ 0 ≤ M' ∧ M' ≤ 1000000000 := by
  have e : combV false (valuesV false n st t.ops ((t.ops.map (·.cost)).map (· * k))) t.goal = M' := by
    rw [← hM']
    show _ = combV false (valuesV false n st (t.ops.map (scO k)) ((t.ops.map (scO k)).map (·.cost))) t.goal
    have e1 : (t.ops.map (scO k)).map (·.cost) = (t.ops.map (·.cost)).map (· * k) := by rw [List.map_map, List.map_map]; rfl
    have e2 : valuesV false n st (t.ops.map (scO k)) ((t.ops.map (·.cost)).map (· * k)) = valuesV false n st t.ops ((t.ops.map (·.cost)).map (· * k)) := by
      unfold valuesV
      congr 1
      funext V
      refine propext ⟨fun h => ⟨fix_sc.1 h.fix, fun U hU => h.great U (fix_sc.2 hU)⟩, fun h => ⟨fix_sc.2 h.fix, fun U hU => h.great U (fix_sc.1 hU)⟩⟩
    rw [e1, e2]
  have hops := ops_in hv hn
  have hadd : ∀ o ∈ t.ops, ∀ p ∈ o.add, 0 ≤ p ∧ p < (n : Int) := fun o ho => (hops o ho).2
  have hc1 : ∀ c ∈ t.ops.map (·.cost), 0 ≤ c ∧ c ≤ 100 ∧ c * k ≤ 100 := fun c h => by
    obtain ⟨o, h1, rfl⟩ := List.mem_map.1 h
    exact ⟨(hv.ops o h1).2.1, (hv.ops o h1).2.2, hk o h1⟩
  have hc2 : ∀ c ∈ (t.ops.map (·.cost)).map (· * k), 0 ≤ c ∧ c ≤ 100 := fun c h => by
    obtain ⟨o, h1, rfl⟩ := List.mem_map.1 h
    exact ⟨Int.mul_nonneg (hc1 o h1).1 h0, (hc1 o h1).2.2⟩
  have hA1 : AllV (t.ops.map (·.cost)) := fun c h => by have := hc1 c h; unfold InV; omega
  have hA2 : AllV ((t.ops.map (·.cost)).map (· * k)) := fun c h => by have := hc2 c h; unfold InV; omega
  have B1 := best_ex (s := false) (st := st) hst.1 hadd hA1
  have B2 := best_ex (s := false) (st := st) hst.1 hadd hA2
  have hg := goal_in hv hn
  have i1 := goal_inf_iff B1 (by simp) (fun c h => ⟨(hc1 c h).1, (hc1 c h).2.1⟩) hst.1 hops hg
  have i2 := goal_inf_iff B2 (by simp) hc2 hst.1 hops hg
  have r1 := combV_in (s := false) B1.fix.shape.all t.goal
  have r2 := combV_in (s := false) B2.fix.shape.all t.goal
  have hlo : muV k M ≤ M' := by
    have h1 := B2.great _ (fix_mu h0 hc1 B1.fix)
    have h2 := combV_mono (s := false) (shape_map (muV_mono h0) B1.fix.shape).all B2.fix.shape.all h1 t.goal
    rw [combV_map (muV_mono h0), hM, e] at h2
    exact h2
  have hhi : M' ≤ M * k ∨ M = 1000000000 := by
    by_cases hk1 : 1 ≤ k
    · left
      have h1 := B1.great _ (fix_up hk1 (fun c h => ⟨(hc1 c h).1, (hc1 c h).2.2⟩) B2.fix)
      have h2 := combV_mono (s := false) (shape_map (upV_mono hk1) B2.fix.shape).all B1.fix.shape.all h1 t.goal
      rw [combV_map (upV_mono hk1), hM, e] at h2
      exact upV_mul hk1 h2
    · have hk0 : k = 0 := by omega
      by_cases hi : M = 1000000000
      · exact .inr hi
      · left
        have hgr : ∀ q ∈ t.goal, Reach st t.ops (fun _ => true) q := Classical.byContradiction fun hc => hi (by rw [← hM]; exact i1.2 hc)
        have hz : ∀ q, Reach st t.ops (fun _ => true) q → valAt (valuesV false n st t.ops ((t.ops.map (·.cost)).map (· * k))) q = 0 := by
          intro q hq
          induction hq with
          | init h => exact B2.fix.shape.zero _ h
          | @step p i o h3 _ _ h6 ih =>
            have h7 := B2.fix.closed i o (o.cost * k) (List.getElem?_eq_some_iff.1 h3).1 h3 (by rw [List.getElem?_map, List.getElem?_map, h3]; rfl) p h6
            have h8 := valAt_in B2.fix.shape.all p
            have h9 : ∀ (xs : List Int), (∀ q ∈ xs, valAt (valuesV false n st t.ops ((t.ops.map (·.cost)).map (· * k))) q = 0) → combV false (valuesV false n st t.ops ((t.ops.map (·.cost)).map (· * k))) xs = 0 := by
              intro xs
              unfold combV
              induction xs with
              | nil => intro _; rfl
              | cons x xs ihx =>
                intro hx
                rw [List.foldl_cons, hx x (List.mem_cons_self ..)]
                exact ihx (fun q hq => hx q (List.mem_cons_of_mem _ hq))
            unfold opV at h7
            rw [h9 o.pre ih, show o.cost * k = 0 by rw [hk0, Int.mul_zero], show plusV 0 0 = 0 by unfold plusV; simp] at h7
            unfold InV at h8
            omega
        have h9 : ∀ (xs : List Int), (∀ q ∈ xs, valAt (valuesV false n st t.ops ((t.ops.map (·.cost)).map (· * k))) q = 0) → combV false (valuesV false n st t.ops ((t.ops.map (·.cost)).map (· * k))) xs = 0 := by
          intro xs
          unfold combV
          induction xs with
          | nil => intro _; rfl
          | cons x xs ihx =>
            intro hx
            rw [List.foldl_cons, hx x (List.mem_cons_self ..)]
            exact ihx (fun q hq => hx q (List.mem_cons_of_mem _ hq))
        rw [← e, h9 t.goal (fun q hq => hz q (hgr q hq)), hk0]
        omega
  rw [hM] at i1 r1
  rw [e] at i2 r2
  have hii : M = 1000000000 ↔ M' = 1000000000 := by rw [i1, i2]
  refine ⟨hii, ?_, r1.1, r1.2, r2.1, r2.2⟩
  by_cases hi : M = 1000000000
  · exact .inl hi
  · right
    have h3 := hhi.resolve_right hi
    have h4 : M' ≠ 1000000000 := fun h => hi (hii.2 h)
    unfold InV at r1 r2
    unfold muV at hlo
    rw [if_neg (by omega)] at hlo
    obtain ⟨d, hd⟩ := rbest_ex (n := n) (rx_cost (fun o ho => (hv.ops o ho).2.1)) t.goal st
    have hf := rb_fin hv hn hst hd
    have hmd := max_rbest hv hn hst hd
    rw [hM] at hmd
    have hgr : GoalR t st := Classical.byContradiction fun hc => hi (i1.2 hc)
    have hdl := hf.2 (hf.1.2 hgr)
    have hmk : M * k ≤ 4000 * 100 := Int.mul_le_mul (by omega) h100 h0 (by omega)
    rw [if_neg (by omega)] at hlo
    omega

theorem cst_to {n : Nat} {ops : List OpV} {st l : List Int} {c k : Int} (h : Cst n (ops.map rxO) st l c) : Cst n ((ops.map (scO k)).map rxO) st l (c * k) := by
  induction h with
  | init => rw [Int.zero_mul]; exact .init
  | @step l c p o _ hp hq ih =>
    rw [List.getElem?_map] at hp
    obtain ⟨o', h1, rfl⟩ := Option.map_eq_some_iff.1 hp
    have := Cst.step ih (p := p) (o := rxO (scO k o')) (by rw [List.getElem?_map, List.getElem?_map, h1]; rfl) hq
    rw [Int.add_mul]
    exact this
theorem cst_from {n : Nat} {ops : List OpV} {st l : List Int} {c' k : Int} (h : Cst n ((ops.map (scO k)).map rxO) st l c') : ∃ c, Cst n (ops.map rxO) st l c ∧ c' = c * k := by
  induction h with
  | init => exact ⟨0, .init, by rw [Int.zero_mul]⟩
  | @step l c p o _ hp hq ih =>
    obtain ⟨c0, h3, h4⟩ := ih
    rw [List.getElem?_map, List.getElem?_map] at hp
    obtain ⟨o1, h1, rfl⟩ := Option.map_eq_some_iff.1 hp
    obtain ⟨o', h2, rfl⟩ := Option.map_eq_some_iff.1 h1
    refine ⟨c0 + o'.cost, Cst.step h3 (p := p) (o := rxO o') (by rw [List.getElem?_map, h2]; rfl) hq, ?_⟩
    rw [h4, Int.add_mul]
    rfl
theorem rb_sc {n : Nat} {t : TaskV} {st : List Int} {d d' k : Int} (hv : Valid t) (hn : t.facts = n) (hst : SetP st (n : Int)) (h0 : 0 ≤ k) (h100 : k ≤ 100) (hk : ∀ o ∈ t.ops, o.cost * k ≤ 100) (hd : RBest n (t.ops.map rxO) t.goal st d) (hd' : RBest n ((scT k t).ops.map rxO) (scT k t).goal st d') :
    (d < 1000000000 ↔ d' < 1000000000) ∧ (d = 1000000000 ∨ d' = d * k) := by
  have f1 := rb_fin hv hn hst hd
  have f2 := rb_fin (valid_sc hv h0 hk) (show (scT k t).facts = n from hn) hst hd'
  have hgr : GoalR t st ↔ GoalR (scT k t) st := ⟨fun h q hq => (h q hq).same (same_to k t.ops), fun h q hq => (h q hq).same (same_from k t.ops)⟩
  have hii : d < 1000000000 ↔ d' < 1000000000 := by rw [f1.1, f2.1, hgr]
  refine ⟨hii, ?_⟩
  rcases hd.1 with e | ⟨l, h1, h2⟩
  · exact .inl e
  · by_cases hlt : d < 1000000000
    · right
      have h3 := hd'.2.2 l _ (cst_to h1) h2
      rcases hd'.1 with e | ⟨l', h4, h5⟩
      · have := hii.1 hlt; omega
      · obtain ⟨c, h6, h7⟩ := cst_from h4
        have h8 := hd.2.2 l' c h6 h5
        have := mulK_mono h0 h8
        omega
    · left; have := hd.2.1; omega
theorem rbo_sc {n : Nat} {t : TaskV} {st : List Int} {d d' c c' j j' k : Int} (h : RBOut n (t.ops.map rxO) t.goal st d c j) (h' : RBOut n ((scT k t).ops.map rxO) (scT k t).goal st d' c' j') :
    (c = 0 ∧ j = 0 ∧ c' = 0 ∧ j' = 0 ∧ RBest n (t.ops.map rxO) t.goal st d ∧ RBest n ((scT k t).ops.map rxO) (scT k t).goal st d') ∨ (c = 10 ∧ j = -7 ∧ c' = 10 ∧ j' = -7 ∧ d = 0 ∧ d' = 0) := by
  have s1 : SameO (t.ops.map rxO) ((scT k t).ops.map rxO) := (same_to k t.ops).rx
  have s2 : SameO ((scT k t).ops.map rxO) (t.ops.map rxO) := (same_from k t.ops).rx
  rcases h with ⟨⟨rfl, rfl⟩, h1, ls, h2, h3⟩ | ⟨⟨rfl, rfl, rfl⟩, us, h1, h2, h3⟩ <;> rcases h' with ⟨⟨rfl, rfl⟩, g1, ls', g2, g3⟩ | ⟨⟨rfl, rfl, rfl⟩, us', g1, g2, g3⟩
  · exact .inl ⟨rfl, rfl, rfl, rfl, h1, g1⟩
  · exact (h2.few h3 g1 g2 (fun a ha => (g3 a ha).same s2)).elim
  · exact (g2.few g3 h1 h2 (fun a ha => (h3 a ha).same s1)).elim
  · exact .inr ⟨rfl, rfl, rfl, rfl, rfl, rfl⟩

end Go.Proofs.Ytihkgdlanfemcaa
