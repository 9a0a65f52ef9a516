/-
  lmcut: hardest: what it returns.
  Zones, what lies before them, and cuts: a plain law.
  The cut that the program takes is proper: a plain law.
  lmcut: zone and before: what they return.
  lmcut: before: what it returns.
  lmcut: cut: what it returns.
-/
import Derived.Test.YtihkgdlanfemcaaY8
import Derived.Test.YtihkgdlanfemcaaY2
namespace Go.Proofs.Ytihkgdlanfemcaa
open Go.RowKit
set_option linter.unusedVariables false
set_option linter.unusedSimpArgs false

/-- The fact with the greatest value. -/
def hardStep (vs : List Int) (n : Int) (b p : Int) : Int := if b = n ∨ valAt vs b < valAt vs p then p else b
def hardV (vs : List Int) (n : Int) (xs : List Int) : Int := xs.foldl (hardStep vs n) n
theorem hardV_succ {vs xs : List Int} {n x : Int} {k : Nat} (h : xs[k]? = some x) : hardV vs n (xs.take (k + 1)) = hardStep vs n (hardV vs n (xs.take k)) x := by
  unfold hardV
  rw [List.take_add_one, h]
  simp only [Option.toList, List.foldl_append, List.foldl_cons, List.foldl_nil]
theorem hardV_in {vs : List Int} {n : Int} (h0 : 0 ≤ n) : ∀ {xs : List Int}, (∀ x ∈ xs, 0 ≤ x ∧ x < n) → 0 ≤ hardV vs n xs ∧ hardV vs n xs ≤ n := by
  have key : ∀ (xs : List Int) (b : Int), 0 ≤ b ∧ b ≤ n → (∀ x ∈ xs, 0 ≤ x ∧ x < n) → 0 ≤ xs.foldl (hardStep vs n) b ∧ xs.foldl (hardStep vs n) b ≤ n := by
    intro xs
    induction xs with
    | nil => intro b hb _; exact hb
    | cons x xs ih =>
      intro b hb h
      refine ih _ ?_ (fun y hy => h y (List.mem_cons_of_mem _ hy))
      have := h x (List.mem_cons_self ..)
      unfold hardStep
      split <;> omega
  intro xs h
  exact key xs n ⟨h0, Int.le_refl _⟩ h
set_option maxRecDepth 100000 in
set_option maxHeartbeats 1000000 in
theorem hardest_any (w : World) (b n c d : Nat) (V X : Option Addr) (vs xs : List Int) (h0 : w.cell? ⟨b, 0, none⟩ = some (.int .i64 (n : Int))) (h6 : w.cell? ⟨b, 6, none⟩ = some (.slice V (n + 1) c)) (hI : Ints w V vs) (hvl : vs.length = n + 1) (hn : n ≤ 1000000000) (hJ : Ints w X xs) (hl : xs.length ≤ 9223372036854775807) (hxs : ∀ x ∈ xs, 0 ≤ x ∧ x < (n : Int)) :
    Calls Try.prog 138 #[.pointer (some ⟨b, 0, none⟩), .slice X xs.length d] w fun e w' => e = .returned (.int .i64 (hardV vs n xs)) ∧ Below w.heap.size w w' := by
  go_enter Try.func138, Try.ntmps138
  go_wp2_with fail
  go_loopw [5, 15] (fun v i wr => ∃ k : Nat, k ≤ xs.length ∧ i = .int .i64 k ∧ (∃ h : Int, Hid (h = hardV vs n (xs.take k)) ∧ v = .int .i64 h) ∧ Below w.heap.size w wr) (fun _ i _ => xs.length - (intOf i).toNat)
  case atStart => exact ⟨0, Nat.zero_le _, rfl, ⟨(n : Int), Lib.hid rfl, rfl⟩, Below.refl _ _⟩
  case round =>
    obtain ⟨k, hk, rfl, ⟨h, hh, rfl⟩, hBr⟩ := hrel
    have hc0 := (hBr.cell (World.block_lt_of_cell? w _ h0)).trans h0
    have hc6 := (hBr.cell (World.block_lt_of_cell? w _ h6)).trans h6
    by_cases hlt : k < xs.length
    · obtain ⟨ad, x, rfl, hx, hc⟩ := (hJ.below hBr).at_ hlt
      obtain ⟨x0, x1⟩ := hxs x (List.mem_of_getElem? hx.out)
      obtain ⟨b0, b1⟩ := hardV_in (vs := vs) (n := (n : Int)) (by omega) (xs := xs.take k) (fun y hy => hxs y (List.mem_of_mem_take hy))
      rw [← hh.out] at b0 b1
      have HS := Lib.hid (hardV_succ (vs := vs) (n := (n : Int)) hx.out)
      rw [← hh.out] at HS
      by_cases hb : h = (n : Int)
      · subst hb
        have HE := Lib.hid (show x = hardV vs n (xs.take (k + 1)) by rw [HS.out]; unfold hardStep; rw [if_pos (.inl rfl)])
        go_wp2_with fail
        go_quiet (fail)
        go_wp2
        go_roundw
        case rel => exact ⟨k + 1, by omega, by go_num, ⟨x, HE, rfl⟩, by repeat (first | with_reducible exact hBr | with_reducible apply bdrew | with_reducible apply bdrewN | with_reducible apply balloc | ((with_reducible refine bset ?_ ?_ _); rotate_left; (first | omega | (simp <;> omega))))⟩
        case measure => simp [intOf]; omega
      · have hbb : (h == (n : Int)) = false := by simpa using hb
        obtain ⟨vd, vx, rfl, hvx, hcx⟩ := (hI.below hBr).at_ (k := x.toNat) (by omega)
        obtain ⟨vd', vh, e, hvh, hch⟩ := (hI.below hBr).at_ (k := h.toNat) (by omega)
        injection e with e
        subst e
        have e1 := valAt_of hvx.out
        have e2 := valAt_of hvh.out
        have HB := Lib.hid hb
        by_cases hg : vh < vx
        · have HE := Lib.hid (show x = hardV vs n (xs.take (k + 1)) by rw [HS.out]; unfold hardStep; rw [e1, e2, if_pos (.inr hg)])
          have hgd : decide (vh < vx) = true := by simpa using hg
          clear e1 e2
          go_wp2_with fail
          go_quiet (fail)
          go_wp2
          go_roundw
          case rel => exact ⟨k + 1, by omega, by go_num, ⟨x, HE, rfl⟩, by repeat (first | with_reducible exact hBr | with_reducible apply bdrew | with_reducible apply bdrewN | with_reducible apply balloc | ((with_reducible refine bset ?_ ?_ _); rotate_left; (first | omega | (simp <;> omega))))⟩
          case measure => simp [intOf]; omega
        · have HE := Lib.hid (show h = hardV vs n (xs.take (k + 1)) by rw [HS.out]; unfold hardStep; rw [e1, e2, if_neg (by have := HB.out; omega)])
          have hgd : decide (vh < vx) = false := by simpa using hg
          clear e1 e2
          go_wp2_with fail
          go_quiet (fail)
          go_wp2
          go_roundw
          case rel => exact ⟨k + 1, by omega, by go_num, ⟨h, HE, rfl⟩, by repeat (first | with_reducible exact hBr | with_reducible apply bdrew | with_reducible apply bdrewN | with_reducible apply balloc | ((with_reducible refine bset ?_ ?_ _); rotate_left; (first | omega | (simp <;> omega))))⟩
          case measure => simp [intOf]; omega
    · rw [List.take_of_length_le (by omega)] at hh
      go_wp2
      go_ret
      exact ⟨ret_int hh.out, hBr⟩


end Go.Proofs.Ytihkgdlanfemcaa

namespace Go.Proofs.Ytihkgdlanfemcaa
set_option linter.unusedVariables false
set_option linter.unusedSimpArgs false

/-- What edges lead to. -/
inductive GR (start : Int → Prop) (E : Nat → Int → Int → Prop) : Int → Prop
  | start {p : Int} : start p → GR start E p
  | step {i : Nat} {p q : Int} : GR start E p → E i p q → GR start E q
open Classical in
noncomputable def grV (N : Nat) (start : Int → Prop) (E : Nat → Int → Int → Prop) : List Bool := (List.range N).map fun (p : Nat) => decide (GR start E (p : Int))
theorem grV_len (N : Nat) (start : Int → Prop) (E : Nat → Int → Int → Prop) : (grV N start E).length = N := by simp [grV]
theorem grV_get {N p : Nat} {start : Int → Prop} {E : Nat → Int → Int → Prop} (h : p < N) : (grV N start E)[p]? = some true ↔ GR start E (p : Int) := by simp [grV, h]
theorem grV_no {N p : Nat} {start : Int → Prop} {E : Nat → Int → Int → Prop} (h : p < N) : (grV N start E)[p]? = some false ↔ ¬ GR start E (p : Int) := by simp [grV, h]
structure SoundG (N : Nat) (start : Int → Prop) (E : Nat → Int → Int → Prop) (bs : List Bool) : Prop where
  len : bs.length = N
  init : ∀ p, start p → bs[p.toNat]? = some true
  sound : ∀ p : Nat, bs[p]? = some true → GR start E (p : Int)
def ClosedG (E : Nat → Int → Int → Prop) (k : Nat) (bs : List Bool) : Prop := ∀ i p q, i < k → E i p q → bs[p.toNat]? = some true → bs[q.toNat]? = some true
section
variable {N : Nat} {start : Int → Prop} {E : Nat → Int → Int → Prop} {bs : List Bool}
theorem closedG_zero : ClosedG E 0 bs := fun i p q hi => absurd hi (by omega)
theorem closedG_succ {k : Nat} (h : ClosedG E k bs) (h2 : ∀ p q, E k p q → bs[p.toNat]? = some true → bs[q.toNat]? = some true) : ClosedG E (k + 1) bs := fun i p q hi hE hp => by
  by_cases e : i = k
  · subst e; exact h2 p q hE hp
  · exact h i p q (by omega) hE hp
theorem set_true {bs : List Bool} {i j : Nat} (h : bs[i]? = some true) (hj : j < bs.length) : (bs.set j true)[i]? = some true := by
  rw [List.getElem?_set]
  split
  · rename_i e; subst e; simp [hj]
  · exact h
theorem SoundG.set_ (h : SoundG N start E bs) {q : Int} (hq : GR start E q) (q0 : 0 ≤ q) (hN : q < (N : Int)) : SoundG N start E (bs.set q.toNat true) := by
  have hl : q.toNat < bs.length := by rw [h.len]; omega
  refine ⟨by rw [List.length_set]; exact h.len, fun p hp => set_true (h.init p hp) hl, fun p hp => ?_⟩
  rw [List.getElem?_set] at hp
  split at hp
  · rename_i e
    subst e
    rw [Int.toNat_of_nonneg q0]
    exact hq
  · exact h.sound p hp
theorem SoundG.eq {m : Nat} (h : SoundG N start E bs) (hc : ClosedG E m bs) (hE : ∀ i p q, E i p q → i < m) : bs = grV N start E := by
  have key : ∀ p, GR start E p → bs[p.toNat]? = some true := fun p hp => by
    induction hp with
    | start h1 => exact h.init _ h1
    | step _ h2 ih => exact hc _ _ _ (hE _ _ _ h2) h2 ih
  apply List.ext_getElem?
  intro p
  rcases Nat.lt_or_ge p N with hp | hp
  · have h1 : bs[p]? = some true ↔ (grV N start E)[p]? = some true := by
      rw [grV_get hp]
      exact ⟨h.sound p, fun hr => by have := key _ hr; simpa using this⟩
    obtain ⟨a, ha⟩ : ∃ a, bs[p]? = some a := ⟨_, List.getElem?_eq_getElem (by rw [h.len]; exact hp)⟩
    obtain ⟨b, hb⟩ : ∃ b, (grV N start E)[p]? = some b := ⟨_, List.getElem?_eq_getElem (by rw [grV_len]; exact hp)⟩
    rw [ha, hb] at h1 ⊢
    cases a <;> cases b <;> simp_all
  · rw [List.getElem?_eq_none (by rw [h.len]; exact hp), List.getElem?_eq_none (by rw [grV_len]; exact hp)]
end

/-! ### zone, before, cut -/
def ZE (n : Nat) (W : List Int) (ops : List OpV) (cost : List Int) (i : Nat) (p q : Int) : Prop := ∃ o c, ops[i]? = some o ∧ cost[i]? = some c ∧ ¬ 0 < c ∧ p ∈ o.add ∧ q = hardV W n o.pre
def ZS (n : Nat) (W : List Int) (goal : List Int) (p : Int) : Prop := p = hardV W n goal
noncomputable def zoneV (n : Nat) (W : List Int) (ops : List OpV) (cost goal : List Int) : List Bool := grV (n + 1) (ZS n W goal) (ZE n W ops cost)
def BE (n : Nat) (W : List Int) (ops : List OpV) (Z : List Bool) (i : Nat) (p q : Int) : Prop := ∃ o, ops[i]? = some o ∧ p = hardV W n o.pre ∧ q ∈ o.add ∧ Z[q.toNat]? = some false
def BS (n : Nat) (st : List Int) (p : Int) : Prop := p = (n : Int) ∨ p ∈ st
noncomputable def befV (n : Nat) (W : List Int) (ops : List OpV) (st : List Int) (Z : List Bool) : List Bool := grV (n + 1) (BS n st) (BE n W ops Z)
def CutOp (n : Nat) (W : List Int) (ops : List OpV) (Z B : List Bool) (i : Nat) : Prop := ∃ o, ops[i]? = some o ∧ B[(hardV W n o.pre).toNat]? = some true ∧ ∃ p ∈ o.add, Z[p.toNat]? = some true
open Classical in
noncomputable def cutTo (n : Nat) (W : List Int) (ops : List OpV) (Z B : List Bool) (k : Nat) : List Int := ((List.range k).filter fun i => decide (CutOp n W ops Z B i)).map fun (i : Nat) => (i : Int)
noncomputable def cutV (n : Nat) (W : List Int) (ops : List OpV) (Z B : List Bool) : List Int := cutTo n W ops Z B ops.length
/-- The least cost of operators. -/
def minTo (cost : List Int) (l : List Int) : Int := l.foldl (fun m i => min m (valAt cost i)) 1000000000
section
variable {n : Nat} {W : List Int} {ops : List OpV} {Z B : List Bool}
theorem cutTo_yes {k : Nat} (h : CutOp n W ops Z B k) : cutTo n W ops Z B (k + 1) = cutTo n W ops Z B k ++ [(k : Int)] := by
  unfold cutTo; rw [List.range_succ, List.filter_append]; simp [h]
theorem cutTo_no {k : Nat} (h : ¬ CutOp n W ops Z B k) : cutTo n W ops Z B (k + 1) = cutTo n W ops Z B k := by
  unfold cutTo; rw [List.range_succ, List.filter_append]; simp [h]
theorem cutTo_len (k : Nat) : (cutTo n W ops Z B k).length ≤ k := by
  unfold cutTo; rw [List.length_map]
  exact Nat.le_trans (List.length_filter_le _ _) (by simp)
theorem cutTo_mem {k : Nat} {x : Int} : x ∈ cutTo n W ops Z B k ↔ ∃ i : Nat, x = (i : Int) ∧ i < k ∧ CutOp n W ops Z B i := by
  unfold cutTo
  simp only [List.mem_map, List.mem_filter, List.mem_range, decide_eq_true_eq]
  exact ⟨fun ⟨i, ⟨h1, h2⟩, h3⟩ => ⟨i, h3.symm, h1, h2⟩, fun ⟨i, h1, h2, h3⟩ => ⟨i, ⟨h2, h3⟩, h1.symm⟩⟩
theorem cutV_set : SetP (cutV n W ops Z B) (ops.length : Int) := by
  refine SetP.of_pairwise (fun x hx => ?_) ?_
  · obtain ⟨i, rfl, hi, _⟩ := cutTo_mem.1 hx
    omega
  · unfold cutV cutTo
    rw [List.pairwise_map]
    refine List.Pairwise.imp (fun h => ?_) (List.Pairwise.filter _ List.pairwise_lt_range)
    omega
end
theorem minTo_snoc {cost l : List Int} {i c : Int} (h : cost[i.toNat]? = some c) : minTo cost (l ++ [i]) = min (minTo cost l) c := by
  unfold minTo; rw [List.foldl_append, List.foldl_cons, List.foldl_nil, valAt_of h]
theorem foldMin {cost : List Int} : ∀ (l : List Int) (m : Int), l.foldl (fun m i => min m (valAt cost i)) m ≤ m ∧ (∀ i ∈ l, l.foldl (fun m i => min m (valAt cost i)) m ≤ valAt cost i) ∧ (l.foldl (fun m i => min m (valAt cost i)) m = m ∨ ∃ i ∈ l, l.foldl (fun m i => min m (valAt cost i)) m = valAt cost i) := by
  intro l
  induction l with
  | nil => intro m; exact ⟨Int.le_refl _, by simp, .inl rfl⟩
  | cons x l ih =>
    intro m
    obtain ⟨h1, h2, h3⟩ := ih (min m (valAt cost x))
    refine ⟨Int.le_trans h1 (Int.min_le_left _ _), fun i hi => ?_, ?_⟩
    · rcases List.mem_cons.1 hi with e | e
      · subst e; exact Int.le_trans h1 (Int.min_le_right _ _)
      · exact h2 i e
    · rcases h3 with h3 | ⟨i, hi, h3⟩
      · rcases Int.le_total m (valAt cost x) with h4 | h4
        · left; rw [List.foldl_cons, h3]; omega
        · right; exact ⟨x, List.mem_cons_self .., by rw [List.foldl_cons, h3]; omega⟩
      · right; exact ⟨i, List.mem_cons_of_mem _ hi, h3⟩

/-! ### The hardest fact -/
theorem valAt_app {V : List Int} {n : Nat} (hl : V.length = n) {p : Int} (h0 : 0 ≤ p) (h1 : p < (n : Int)) : valAt (V ++ [0]) p = valAt V p := by
  unfold valAt; rw [List.getElem?_append_left (by omega)]
theorem valAt_end {V : List Int} {n : Nat} (hl : V.length = n) : valAt (V ++ [0]) (n : Int) = 0 := by
  unfold valAt; rw [List.getElem?_append_right (by simp; omega)]; simp [hl]
theorem hard_spec {V : List Int} {n : Nat} (hl : V.length = n) (hV : AllV V) {xs : List Int} (hx : ∀ x ∈ xs, 0 ≤ x ∧ x < (n : Int)) :
    (hardV (V ++ [0]) n xs = (n : Int) ∧ xs = [] ∨ hardV (V ++ [0]) n xs ∈ xs) ∧ valAt (V ++ [0]) (hardV (V ++ [0]) n xs) = combV false V xs := by
  have key : ∀ (ys : List Int) (b o : Int), (∀ x ∈ ys, 0 ≤ x ∧ x < (n : Int)) → (b = (n : Int) → o = 0) → valAt (V ++ [0]) b = o → 0 ≤ o →
      (ys.foldl (hardStep (V ++ [0]) n) b = b ∧ (b = (n : Int) → ys = []) ∨ ys.foldl (hardStep (V ++ [0]) n) b ∈ ys) ∧ valAt (V ++ [0]) (ys.foldl (hardStep (V ++ [0]) n) b) = ys.foldl (fun o p => stepV false o (valAt V p)) o := by
    intro ys
    induction ys with
    | nil => intro b o _ _ h _; exact ⟨.inl ⟨rfl, fun _ => rfl⟩, h⟩
    | cons y ys ih =>
      intro b o hy hb he ho
      have hy0 := hy y (List.mem_cons_self ..)
      have ev := valAt_app hl hy0.1 hy0.2
      have hin := valAt_in hV y
      unfold InV at hin
      have hstep : valAt (V ++ [0]) (hardStep (V ++ [0]) n b y) = stepV false o (valAt V y) := by
        unfold hardStep stepV
        dsimp only
        rw [he, ev]
        by_cases e : b = (n : Int)
        · have := hb e
          rw [if_pos (.inl e), ev]
          split <;> omega
        · by_cases e2 : o < valAt V y
          · rw [if_pos (.inr e2), if_pos e2, ev]
          · rw [if_neg (fun h => h.elim e e2), if_neg e2, he]
      have hne : ¬ hardStep (V ++ [0]) n b y = (n : Int) := by
        unfold hardStep
        split
        · omega
        · rename_i h; exact fun e => h (.inl e)
      obtain ⟨h1, h2⟩ := ih (hardStep (V ++ [0]) n b y) (stepV false o (valAt V y)) (fun x hx => hy x (List.mem_cons_of_mem _ hx)) (fun e => absurd e hne) hstep (by unfold stepV; dsimp only; split <;> omega)
      rw [List.foldl_cons, List.foldl_cons]
      refine ⟨?_, h2⟩
      rcases h1 with ⟨h1, _⟩ | h1
      · rw [h1]
        unfold hardStep
        split
        · right; exact List.mem_cons_self ..
        · rename_i h3
          left
          exact ⟨rfl, fun e => absurd (.inl e) h3⟩
      · right; exact List.mem_cons_of_mem _ h1
  obtain ⟨h1, h2⟩ := key xs n 0 hx (fun _ => rfl) (valAt_end hl) (Int.le_refl _)
  refine ⟨?_, h2⟩
  rcases h1 with ⟨h1, h3⟩ | h1
  · left; exact ⟨h1, h3 rfl⟩
  · right; exact h1
theorem foldMax {V : List Int} : ∀ (xs : List Int) (o : Int), o ≤ xs.foldl (fun o p => stepV false o (valAt V p)) o ∧ (∀ x ∈ xs, valAt V x ≤ xs.foldl (fun o p => stepV false o (valAt V p)) o) ∧ ∀ z, o ≤ z → (∀ x ∈ xs, valAt V x ≤ z) → xs.foldl (fun o p => stepV false o (valAt V p)) o ≤ z := by
  intro xs
  induction xs with
  | nil => intro o; exact ⟨Int.le_refl _, by simp, fun z h _ => h⟩
  | cons x xs ih =>
    intro o
    have hs : o ≤ stepV false o (valAt V x) ∧ valAt V x ≤ stepV false o (valAt V x) ∧ (stepV false o (valAt V x) = o ∨ stepV false o (valAt V x) = valAt V x) := by unfold stepV; dsimp only; split <;> omega
    obtain ⟨h1, h2, h3⟩ := ih (stepV false o (valAt V x))
    refine ⟨Int.le_trans hs.1 h1, fun y hy => ?_, fun z hz hx => h3 z ?_ (fun y hy => hx y (List.mem_cons_of_mem _ hy))⟩
    · rcases List.mem_cons.1 hy with e | e
      · subst e; exact Int.le_trans hs.2.1 h1
      · exact h2 y e
    · have := hx x (List.mem_cons_self ..)
      omega
theorem comb_ge {V xs : List Int} {x : Int} (h : x ∈ xs) : valAt V x ≤ combV false V xs := (foldMax xs 0).2.1 x h
theorem comb_nonneg {V xs : List Int} : 0 ≤ combV false V xs := (foldMax xs 0).1
theorem comb_le {V xs : List Int} {z : Int} (h0 : 0 ≤ z) (h : ∀ x ∈ xs, valAt V x ≤ z) : combV false V xs ≤ z := (foldMax xs 0).2.2 z h0 h
theorem plusV_le {a b : Int} (ha : InV a) (hb : InV b) : plusV a b ≤ a + b := by unfold InV at *; unfold plusV; (repeat split) <;> omega
theorem plusV_ge {a b z : Int} (ha : InV a) (hb : InV b) (h : z ≤ a + b) (h2 : z ≤ 999999999) : z ≤ plusV a b := by unfold InV at *; unfold plusV; (repeat split) <;> omega

/-! ### Reachable facts have finite values -/
theorem inf_reach {s : Bool} {n : Nat} {st : List Int} {ops : List OpV} {cs V : List Int} (hV : Best s n st ops cs V) (hlc : cs.length = ops.length) (hc : AllV cs) (hc2 : ∀ c ∈ cs, c < 1000000000)
    (hst : ∀ p ∈ st, 0 ≤ p) (hops : ∀ o ∈ ops, (∀ p ∈ o.pre, 0 ≤ p ∧ p < (n : Int)) ∧ ∀ p ∈ o.add, 0 ≤ p ∧ p < (n : Int)) {p : Int} (h0 : 0 ≤ p) (h1 : p < (n : Int)) : valAt V p = 1000000000 ↔ ¬ Reach st ops (fun _ => true) p := by
  have hVall := hV.fix.shape.all
  have fin : ∀ p, Reach st ops (fun _ => true) p → ¬ valAt V p = 1000000000 := fun p hp => by
    induction hp with
    | init h => rw [hV.fix.shape.zero _ h]; omega
    | @step p i o ho hu hq hp ih =>
      have hi := (List.getElem?_eq_some_iff.1 ho).1
      have hcs : cs[i]? = some cs[i] := List.getElem?_eq_getElem (by omega)
      have hcm := List.mem_of_getElem? hcs
      have h2 := hV.fix.closed i o _ hi ho hcs p hp
      have h3 := opV_in (s := s) hVall o (hc _ hcm)
      have h4 : ¬ opV s V o cs[i] = 1000000000 := fun e => by
        rcases (plusV_inf_iff (combV_in hVall _) (hc _ hcm)).1 e with e | e
        · obtain ⟨x, hx, e⟩ := (combV_inf hVall _).1 e
          exact ih x hx e
        · have := hc2 _ hcm; omega
      unfold InV at h3
      omega
  constructor
  · intro h hr; exact fin p hr h
  · intro h
    let U : List Int := (List.range n).map fun (q : Nat) => @ite _ (Reach st ops (fun _ => true) (q : Int)) (Classical.propDecidable _) (valAt V (q : Int)) 1000000000
    have hU : ∀ q, 0 ≤ q → q < (n : Int) → valAt U q = @ite _ (Reach st ops (fun _ => true) q) (Classical.propDecidable _) (valAt V q) 1000000000 := fun q q0 q1 => by
      obtain ⟨k, rfl⟩ := Int.eq_ofNat_of_zero_le q0
      refine valAt_of ?_
      show ((List.range n).map _)[k]? = _
      rw [List.getElem?_map, List.getElem?_range (by omega)]
      rfl
    have hUall : AllV U := fun v hv => by
      obtain ⟨q, _, rfl⟩ := List.mem_map.1 hv
      split
      · exact valAt_in hVall _
      · exact InV.inf
    have hle : ∀ q, 0 ≤ q → q < (n : Int) → valAt V q ≤ valAt U q := fun q q0 q1 => by
      rw [hU q q0 q1]
      have := valAt_in hVall q
      unfold InV at this
      split <;> omega
    have hleV : LeV V U := fun q => by
      by_cases e : q.toNat < n
      · have h1 : valAt V q = valAt V (q.toNat : Int) := by unfold valAt; rw [Int.toNat_natCast]
        have h2 : valAt U q = valAt U (q.toNat : Int) := by unfold valAt; rw [Int.toNat_natCast]
        rw [h1, h2]; exact hle _ (by omega) (by omega)
      · have : valAt V q = 0 := by unfold valAt; rw [List.getElem?_eq_none (by rw [hV.fix.shape.len]; omega)]; rfl
        rw [this]
        have := valAt_in hUall q
        exact this.1
    have hfix : Fix s n st ops cs U := by
      refine ⟨⟨by simp [U], hUall, fun q hq => ?_⟩, fun i o c hi ho hcs q hq => ?_⟩
      · have q0 := hst q hq
        by_cases q1 : q < (n : Int)
        · rw [hU q q0 q1, if_pos (.init hq)]
          exact hV.fix.shape.zero q hq
        · unfold valAt; rw [List.getElem?_eq_none (by simp [U]; omega)]; rfl
      · have hcm := List.mem_of_getElem? hcs
        have hoo := hops o (List.mem_of_getElem? ho)
        obtain ⟨q0, q1⟩ := hoo.2 q hq
        by_cases hall : ∀ x ∈ o.pre, Reach st ops (fun _ => true) x
        · rw [hU q q0 q1, if_pos (.step ho rfl hall hq)]
          exact Int.le_trans (hV.fix.closed i o c hi ho hcs q hq) (opV_mono hVall hUall hleV o (hc c hcm))
        · have : ∃ x ∈ o.pre, ¬ Reach st ops (fun _ => true) x := Classical.byContradiction fun hn => hall fun x hx => Classical.byContradiction fun hr => hn ⟨x, hx, hr⟩
          obtain ⟨x, hx, hr⟩ := this
          have h5 : combV s U o.pre = 1000000000 := (combV_inf hUall _).2 ⟨x, hx, by rw [hU x (hoo.1 x hx).1 (hoo.1 x hx).2, if_neg hr]⟩
          have h6 : opV s U o c = 1000000000 := by unfold opV; exact plusV_inf (.inl h5)
          have := valAt_in hUall q
          unfold InV at this
          omega
    have h2 := hV.great _ hfix p
    rw [hU p h0 h1, if_neg h] at h2
    have h3 := valAt_in hVall p
    unfold InV at h3
    omega

end Go.Proofs.Ytihkgdlanfemcaa

namespace Go.Proofs.Ytihkgdlanfemcaa
set_option linter.unusedVariables false
set_option linter.unusedSimpArgs false

/-- What is known when a cut is sought. -/
structure AtCut (n : Nat) (st goal : List Int) (ops : List OpV) (left V : List Int) : Prop where
  best : Best false n st ops left V
  lc : left.length = ops.length
  lv : ∀ c ∈ left, 0 ≤ c ∧ c ≤ 100
  st_ : ∀ p ∈ st, 0 ≤ p ∧ p < (n : Int)
  goal_ : ∀ p ∈ goal, 0 ≤ p ∧ p < (n : Int)
  ops_ : ∀ o ∈ ops, (∀ p ∈ o.pre, 0 ≤ p ∧ p < (n : Int)) ∧ ∀ p ∈ o.add, 0 ≤ p ∧ p < (n : Int)
  pos : ¬ combV false V goal = 0
  fin : ¬ combV false V goal = 1000000000
/-- Costs after those of some operators have become less. -/
def lower (left C : List Int) (c : Int) : List Int := C.foldl (fun l i => l.set i.toNat (valAt l i - c)) left
theorem lower_len (C : List Int) (c : Int) : ∀ (left : List Int), (lower left C c).length = left.length := by
  induction C with
  | nil => intro left; rfl
  | cons x C ih => intro left; show (lower (left.set x.toNat (valAt left x - c)) C c).length = _; rw [ih, List.length_set]
theorem lower_succ {left C : List Int} {c x : Int} {k : Nat} (h : C[k]? = some x) : lower left (C.take (k + 1)) c = (lower left (C.take k) c).set x.toNat (valAt (lower left (C.take k) c) x - c) := by
  unfold lower
  rw [List.take_add_one, h]
  simp only [Option.toList, List.foldl_append, List.foldl_cons, List.foldl_nil]
theorem lower_at {c : Int} : ∀ (C left : List Int), C.Pairwise (· < ·) → (∀ x ∈ C, 0 ≤ x ∧ x < (left.length : Int)) → ∀ i : Int, 0 ≤ i → valAt (lower left C c) i = if i ∈ C then valAt left i - c else valAt left i := by
  intro C
  induction C with
  | nil => intro left _ _ i _; rfl
  | cons x C ih =>
    intro left hp hx i hi
    show valAt (lower (left.set x.toNat (valAt left x - c)) C c) i = _
    have h0 := hx x (List.mem_cons_self ..)
    rw [List.pairwise_cons] at hp
    rw [ih _ hp.2 (fun y hy => by rw [List.length_set]; exact hx y (List.mem_cons_of_mem _ hy)) i hi, valAt_set (by omega)]
    by_cases e : i = x
    · subst e
      have : ¬ i ∈ C := fun h => by have := hp.1 i h; omega
      rw [if_neg this, if_pos rfl, if_pos (List.mem_cons_self ..)]
    · rw [if_neg (show ¬ i.toNat = x.toNat by omega)]
      by_cases h : i ∈ C
      · rw [if_pos h, if_pos (List.mem_cons_of_mem _ h)]
      · rw [if_neg h, if_neg (fun k => (List.mem_cons.1 k).elim e h)]
theorem mem_valAt {l : List Int} {v : Int} (h : v ∈ l) : ∃ i : Int, 0 ≤ i ∧ i < (l.length : Int) ∧ valAt l i = v := by
  obtain ⟨i, hi, rfl⟩ := List.mem_iff_getElem.1 h
  exact ⟨i, by omega, by omega, valAt_getElem hi⟩
theorem valAt_mem {l : List Int} {i : Int} (h0 : 0 ≤ i) (h1 : i < (l.length : Int)) : valAt l i ∈ l := by
  have hi : i.toNat < l.length := by omega
  have : valAt l i = l[i.toNat] := valAt_of (List.getElem?_eq_getElem hi)
  rw [this]; exact List.getElem_mem _
theorem sum_set_eq {V : List Int} : ∀ {i : Nat} {x y : Int}, V[i]? = some y → 0 ≤ x → x ≤ y → sumV (V.set i x) + (y - x).toNat = sumV V := by
  induction V with
  | nil => intro i x y h; simp at h
  | cons a V ih =>
    intro i x y h h0 hlt
    cases i with
    | zero => simp at h; subst h; simp [sumV]; omega
    | succ i => have := ih (by simpa using h) h0 hlt; simp only [sumV, List.set_cons_succ, List.map_cons, List.sum_cons] at *; omega
theorem lower_sum_le {c : Int} (hc : 0 ≤ c) : ∀ (C left : List Int), C.Pairwise (· < ·) → (∀ x ∈ C, 0 ≤ x ∧ x < (left.length : Int)) → (∀ i ∈ C, c ≤ valAt left i) → sumV (lower left C c) + C.length * c.toNat = sumV left := by
  intro C
  induction C with
  | nil => intro left _ _ _; simp [lower]
  | cons x C ih =>
    intro left hp hx hf
    show sumV (lower (left.set x.toNat (valAt left x - c)) C c) + _ = _
    have h0 := hx x (List.mem_cons_self ..)
    have hfx := hf x (List.mem_cons_self ..)
    rw [List.pairwise_cons] at hp
    have hi : x.toNat < left.length := by omega
    have hv : left[x.toNat]? = some (valAt left x) := by rw [List.getElem?_eq_getElem hi, valAt_of (List.getElem?_eq_getElem hi)]
    have h1 := sum_set_eq hv (show 0 ≤ valAt left x - c by omega) (by omega)
    have h2 := ih (left.set x.toNat (valAt left x - c)) hp.2 (fun y hy => by rw [List.length_set]; exact hx y (List.mem_cons_of_mem _ hy)) (fun i hi2 => by
      have := hp.1 i hi2
      rw [valAt_set hi, if_neg (show ¬ i.toNat = x.toNat by omega)]
      exact hf i (List.mem_cons_of_mem _ hi2))
    rw [List.length_cons, Nat.succ_mul]
    omega
/-- The zone, what is before it, the cut. -/
noncomputable def cutOf (n : Nat) (st goal : List Int) (ops : List OpV) (left V : List Int) : List Int :=
  cutV n (V ++ [0]) ops (zoneV n (V ++ [0]) ops left goal) (befV n (V ++ [0]) ops st (zoneV n (V ++ [0]) ops left goal))
/-- A proper cut. -/
structure CutP (n : Nat) (st goal : List Int) (ops : List OpV) (left C : List Int) (c : Int) : Prop where
  set : SetP C (ops.length : Int)
  ne : C ≠ []
  pos : 0 < c
  le : c ≤ 100
  fit : ∀ i ∈ C, c ≤ valAt left i
  cut : ¬ ∀ q ∈ goal, Reach st ops (useOut C) q
  drop : ∀ V V', Best false n st ops left V → Best false n st ops (lower left C c) V' → combV false V goal ≤ c + combV false V' goal
  ex : ∃ V, AtCut n st goal ops left V ∧ C = cutOf n st goal ops left V ∧ c = minTo left C
theorem CutP.lower_in {n : Nat} {st goal : List Int} {ops : List OpV} {left C : List Int} {c : Int} (h : CutP n st goal ops left C c) (hl : left.length = ops.length) (hv : ∀ c ∈ left, 0 ≤ c ∧ c ≤ 100) (k : Nat) : ∀ v ∈ lower left (C.take k) c, 0 ≤ v ∧ v ≤ 100 := fun v hvm => by
  obtain ⟨i, h0, h1, rfl⟩ := mem_valAt hvm
  rw [lower_len] at h1
  have hx : ∀ x ∈ C.take k, 0 ≤ x ∧ x < (left.length : Int) := fun x hx => by rw [hl]; exact h.set.1 x (List.mem_of_mem_take hx)
  rw [lower_at _ _ (h.set.pairwise.sublist (List.take_sublist _ _)) hx i h0]
  have h2 := hv _ (valAt_mem h0 h1)
  have h3 := h.pos
  split
  · rename_i hm
    have := h.fit i (List.mem_of_mem_take hm)
    omega
  · exact h2
/-- An operator of the cut that is not yet lowered keeps its cost. -/
theorem CutP.not_yet {n : Nat} {st goal : List Int} {ops : List OpV} {left C : List Int} {c x : Int} {k : Nat} (h : CutP n st goal ops left C c) (hl : left.length = ops.length) (hx : C[k]? = some x) : valAt (lower left (C.take k) c) x = valAt left x ∧ c ≤ valAt left x := by
  have hm := List.mem_of_getElem? hx
  have hy : ∀ y ∈ C.take k, 0 ≤ y ∧ y < (left.length : Int) := fun y hy => by rw [hl]; exact h.set.1 y (List.mem_of_mem_take hy)
  rw [lower_at _ _ (h.set.pairwise.sublist (List.take_sublist _ _)) hy x (h.set.1 x hm).1, if_neg]
  · exact ⟨rfl, h.fit x hm⟩
  · intro hin
    obtain ⟨j, hj, e⟩ := List.mem_iff_getElem.1 hin
    rw [List.length_take] at hj
    rw [List.getElem_take] at e
    have := h.set.inj (i := j) (j := k) (x := x) (by rw [← e]; exact List.getElem?_eq_getElem (by omega)) hx
    omega
section
variable {n : Nat} {st goal : List Int} {ops : List OpV} {left V : List Int}
theorem AtCut.all (h : AtCut n st goal ops left V) : AllV V := h.best.fix.shape.all
theorem AtCut.len (h : AtCut n st goal ops left V) : V.length = n := h.best.fix.shape.len
theorem AtCut.costs (h : AtCut n st goal ops left V) : AllV left := fun v hv => by have := h.lv v hv; unfold InV; omega
theorem AtCut.g0 (h : AtCut n st goal ops left V) : 0 < combV false V goal ∧ combV false V goal < 1000000000 := by
  have h1 := combV_in (s := false) h.all goal
  have h2 := h.pos
  have h3 := h.fin
  unfold InV at h1
  omega
/-- The hardest fact of a list that lies in range. -/
theorem AtCut.hard (h : AtCut n st goal ops left V) {xs : List Int} (hx : ∀ x ∈ xs, 0 ≤ x ∧ x < (n : Int)) :
    (hardV (V ++ [0]) n xs = (n : Int) ∧ xs = [] ∨ hardV (V ++ [0]) n xs ∈ xs ∧ valAt V (hardV (V ++ [0]) n xs) = combV false V xs) := by
  obtain ⟨h1, h2⟩ := hard_spec h.len h.all hx
  rcases h1 with h1 | h1
  · exact .inl h1
  · have := hx _ h1
    rw [valAt_app h.len this.1 this.2] at h2
    exact .inr ⟨h1, h2⟩
theorem AtCut.zone_in (h : AtCut n st goal ops left V) {p : Int} (hp : GR (ZS n (V ++ [0]) goal) (ZE n (V ++ [0]) ops left) p) : (0 ≤ p ∧ p < (n : Int)) ∧ combV false V goal ≤ valAt V p := by
  have hg := h.g0
  induction hp with
  | start e =>
    rw [show _ = _ from e]
    rcases h.hard h.goal_ with ⟨_, e2⟩ | ⟨h1, h2⟩
    · rw [e2] at hg; simp [combV_nil] at hg
    · exact ⟨h.goal_ _ h1, by rw [h2]; exact Int.le_refl _⟩
  | @step i p q _ hE ih =>
    obtain ⟨o, c, ho, hc, hc0, hp, rfl⟩ := hE
    have hcm := List.mem_of_getElem? hc
    have hoo := h.ops_ o (List.mem_of_getElem? ho)
    have h1 := h.best.fix.closed i o c (List.getElem?_eq_some_iff.1 ho).1 ho hc p hp
    have h2 := plusV_le (combV_in (s := false) h.all o.pre) (h.costs c hcm)
    unfold opV at h1
    rcases h.hard hoo.1 with ⟨_, e2⟩ | ⟨h3, h4⟩
    · rw [e2, combV_nil] at h1 h2; omega
    · exact ⟨hoo.1 _ h3, by rw [h4]; omega⟩
theorem AtCut.zone (h : AtCut n st goal ops left V) {p : Int} (h0 : 0 ≤ p) (h1 : p < (n : Int)) : (zoneV n (V ++ [0]) ops left goal)[p.toNat]? = some true ↔ GR (ZS n (V ++ [0]) goal) (ZE n (V ++ [0]) ops left) p := by
  have := grV_get (N := n + 1) (p := p.toNat) (start := ZS n (V ++ [0]) goal) (E := ZE n (V ++ [0]) ops left) (by omega)
  rw [Int.toNat_of_nonneg h0] at this
  exact this
theorem AtCut.zone_no (h : AtCut n st goal ops left V) {p : Int} (h0 : 0 ≤ p) (h1 : p < (n : Int)) : (zoneV n (V ++ [0]) ops left goal)[p.toNat]? = some false ↔ ¬ GR (ZS n (V ++ [0]) goal) (ZE n (V ++ [0]) ops left) p := by
  have := grV_no (N := n + 1) (p := p.toNat) (start := ZS n (V ++ [0]) goal) (E := ZE n (V ++ [0]) ops left) (by omega)
  rw [Int.toNat_of_nonneg h0] at this
  exact this
theorem AtCut.bef_in (h : AtCut n st goal ops left V) {p : Int} (hp : GR (BS n st) (BE n (V ++ [0]) ops (zoneV n (V ++ [0]) ops left goal)) p) : (0 ≤ p ∧ p ≤ (n : Int)) ∧ ¬ GR (ZS n (V ++ [0]) goal) (ZE n (V ++ [0]) ops left) p := by
  have hg := h.g0
  cases hp with
  | start e =>
    rcases e with e | e
    · subst e; exact ⟨by omega, fun hz => by have := h.zone_in hz; omega⟩
    · have := h.st_ p e
      exact ⟨by omega, fun hz => by have := h.zone_in hz; have := h.best.fix.shape.zero p e; omega⟩
  | step _ hE =>
    obtain ⟨o, ho, _, hq, hz⟩ := hE
    have := (h.ops_ o (List.mem_of_getElem? ho)).2 p hq
    exact ⟨by omega, (h.zone_no this.1 this.2).1 hz⟩
theorem AtCut.bef (h : AtCut n st goal ops left V) (Z : List Bool) {p : Int} (h0 : 0 ≤ p) (h1 : p ≤ (n : Int)) : (befV n (V ++ [0]) ops st Z)[p.toNat]? = some true ↔ GR (BS n st) (BE n (V ++ [0]) ops Z) p := by
  have := grV_get (N := n + 1) (p := p.toNat) (start := BS n st) (E := BE n (V ++ [0]) ops Z) (by omega)
  rw [Int.toNat_of_nonneg h0] at this
  exact this
theorem AtCut.hard_le (h : AtCut n st goal ops left V) {xs : List Int} (hx : ∀ x ∈ xs, 0 ≤ x ∧ x < (n : Int)) : 0 ≤ hardV (V ++ [0]) n xs ∧ hardV (V ++ [0]) n xs ≤ (n : Int) := hardV_in (by omega) hx
theorem AtCut.mem (h : AtCut n st goal ops left V) {i : Nat} : (i : Int) ∈ cutOf n st goal ops left V ↔ ∃ o, ops[i]? = some o ∧ GR (BS n st) (BE n (V ++ [0]) ops (zoneV n (V ++ [0]) ops left goal)) (hardV (V ++ [0]) n o.pre) ∧ ∃ p ∈ o.add, GR (ZS n (V ++ [0]) goal) (ZE n (V ++ [0]) ops left) p := by
  unfold cutOf cutV
  rw [cutTo_mem]
  constructor
  · rintro ⟨j, e, hj, o, ho, hb, p, hp, hz⟩
    obtain rfl : i = j := by omega
    have hoo := h.ops_ o (List.mem_of_getElem? ho)
    have hh := h.hard_le hoo.1
    exact ⟨o, ho, (h.bef _ hh.1 hh.2).1 hb, p, hp, (h.zone (hoo.2 p hp).1 (hoo.2 p hp).2).1 hz⟩
  · rintro ⟨o, ho, hb, p, hp, hz⟩
    have hoo := h.ops_ o (List.mem_of_getElem? ho)
    have hh := h.hard_le hoo.1
    exact ⟨i, rfl, (List.getElem?_eq_some_iff.1 ho).1, o, ho, (h.bef _ hh.1 hh.2).2 hb, p, hp, (h.zone (hoo.2 p hp).1 (hoo.2 p hp).2).2 hz⟩
theorem AtCut.cut_pos (h : AtCut n st goal ops left V) {i : Int} (hi : i ∈ cutOf n st goal ops left V) : 0 < valAt left i ∧ valAt left i ≤ 100 := by
  obtain ⟨j, rfl, hj, _⟩ := cutTo_mem.1 hi
  obtain ⟨o, ho, hb, p, hp, hz⟩ := h.mem.1 hi
  have hjl : j < left.length := by rw [h.lc]; exact hj
  have hc : left[j]? = some left[j] := List.getElem?_eq_getElem hjl
  have e : valAt left (j : Int) = left[j] := valAt_getElem hjl
  have h1 := h.lv _ (List.mem_of_getElem? hc)
  rw [e]
  refine ⟨Classical.byContradiction fun hn => ?_, h1.2⟩
  exact (h.bef_in hb).2 (.step hz ⟨o, _, ho, hc, hn, hp, rfl⟩)
theorem AtCut.reach_bef (h : AtCut n st goal ops left V) {p : Int} (hp : Reach st ops (useOut (cutOf n st goal ops left V)) p) : GR (BS n st) (BE n (V ++ [0]) ops (zoneV n (V ++ [0]) ops left goal)) p := by
  induction hp with
  | init hp => exact .start (.inr hp)
  | @step p i o ho hu hq hp ih =>
    have hoo := h.ops_ o (List.mem_of_getElem? ho)
    have hb : GR (BS n st) (BE n (V ++ [0]) ops (zoneV n (V ++ [0]) ops left goal)) (hardV (V ++ [0]) n o.pre) := by
      rcases h.hard hoo.1 with ⟨e, _⟩ | ⟨h3, _⟩
      · rw [e]; exact .start (.inl rfl)
      · exact ih _ h3
    have hnz : ¬ GR (ZS n (V ++ [0]) goal) (ZE n (V ++ [0]) ops left) p := fun hz => by
      have := h.mem.2 ⟨o, ho, hb, p, hp, hz⟩
      unfold useOut at hu
      simp [this] at hu
    exact .step hb ⟨o, ho, rfl, hp, (h.zone_no (hoo.2 p hp).1 (hoo.2 p hp).2).2 hnz⟩
theorem AtCut.goal_zone (h : AtCut n st goal ops left V) : hardV (V ++ [0]) n goal ∈ goal ∧ GR (ZS n (V ++ [0]) goal) (ZE n (V ++ [0]) ops left) (hardV (V ++ [0]) n goal) := by
  have hg := h.g0
  rcases h.hard h.goal_ with ⟨_, e2⟩ | ⟨h1, _⟩
  · rw [e2] at hg; simp [combV_nil] at hg
  · exact ⟨h1, .start rfl⟩
theorem AtCut.cut_no (h : AtCut n st goal ops left V) : ¬ ∀ q ∈ goal, Reach st ops (useOut (cutOf n st goal ops left V)) q := fun hall => by
  obtain ⟨h1, h2⟩ := h.goal_zone
  exact (h.bef_in (h.reach_bef (hall _ h1))).2 h2
theorem AtCut.cut_ne (h : AtCut n st goal ops left V) : cutOf n st goal ops left V ≠ [] := fun e => by
  refine h.cut_no fun q hq => ?_
  have hg := h.g0
  have hr := h.goal_ q hq
  have h1 := comb_ge (V := V) hq
  have h2 := inf_reach h.best h.lc h.costs (fun c hc => by have := h.lv c hc; omega) (fun p hp => (h.st_ p hp).1) h.ops_ hr.1 hr.2
  have h3 : Reach st ops (fun _ => true) q := Classical.byContradiction fun hn => by have := h2.2 hn; omega
  exact h3.mono (fun _ h => h) (fun i _ => by rw [e]; simp [useOut])
theorem AtCut.drop (h : AtCut n st goal ops left V) {c : Int} (hc : 0 < c) (hcf : ∀ i ∈ cutOf n st goal ops left V, c ≤ valAt left i) {V' : List Int} (hV' : Best false n st ops (lower left (cutOf n st goal ops left V) c) V') : combV false V goal ≤ c + combV false V' goal := by
  have hg := h.g0
  obtain ⟨M, hM⟩ : ∃ M, M = max 0 (combV false V goal - c) := ⟨_, rfl⟩
  have hM0 : 0 ≤ M ∧ M ≤ 999999999 ∧ combV false V goal - c ≤ M ∧ (M = 0 ∨ M = combV false V goal - c) := by omega
  clear hM
  have hset : SetP (cutOf n st goal ops left V) (ops.length : Int) := cutV_set
  have hlow : ∀ i : Nat, i < ops.length → valAt (lower left (cutOf n st goal ops left V) c) (i : Int) = if (i : Int) ∈ cutOf n st goal ops left V then valAt left i - c else valAt left i := fun i hi =>
    lower_at _ _ hset.pairwise (fun x hx => by rw [h.lc]; exact hset.1 x hx) i (by omega)
  let Bf := GR (BS n st) (BE n (V ++ [0]) ops (zoneV n (V ++ [0]) ops left goal))
  let U : List Int := (List.range n).map fun (q : Nat) => @ite _ (Bf (q : Int)) (Classical.propDecidable _) (min (valAt V (q : Int)) M) M
  have hU : ∀ q, 0 ≤ q → q < (n : Int) → valAt U q = @ite _ (Bf q) (Classical.propDecidable _) (min (valAt V q) M) M := fun q q0 q1 => by
    obtain ⟨k, rfl⟩ := Int.eq_ofNat_of_zero_le q0
    refine valAt_of ?_
    show ((List.range n).map _)[k]? = _
    rw [List.getElem?_map, List.getElem?_range (by omega)]
    rfl
  have hVin := fun q => valAt_in h.all q
  unfold InV at hVin
  have hUM : ∀ q, 0 ≤ q → q < (n : Int) → valAt U q ≤ M := fun q q0 q1 => by
    rw [hU q q0 q1]; split <;> omega
  have hUall : AllV U := fun v hv => by
    obtain ⟨q, _, rfl⟩ := List.mem_map.1 hv
    have := hVin (q : Int)
    unfold InV
    split <;> omega
  have hfix : Fix false n st ops (lower left (cutOf n st goal ops left V) c) U := by
    refine ⟨⟨by simp [U], hUall, fun q hq => ?_⟩, fun i o c' hi ho hcs q hq => ?_⟩
    · have q0 := h.st_ q hq
      rw [hU q q0.1 q0.2, if_pos (show Bf q from .start (.inr hq)), h.best.fix.shape.zero q hq]
      omega
    · have hoo := h.ops_ o (List.mem_of_getElem? ho)
      obtain ⟨q0, q1⟩ := hoo.2 q hq
      have hil : i < left.length := by rw [h.lc]; exact hi
      have hl : left[i]? = some left[i] := List.getElem?_eq_getElem hil
      have el : valAt left (i : Int) = left[i] := valAt_getElem hil
      have ec : valAt (lower left (cutOf n st goal ops left V) c) (i : Int) = c' := valAt_of (by simpa using hcs)
      rw [hlow i hi, el] at ec
      have hl2 := h.lv _ (List.mem_of_getElem? hl)
      have hcin : InV c' := by
        unfold InV
        split at ec
        · rename_i hm; have := hcf _ hm; rw [el] at this; omega
        · omega
      have hcl := h.best.fix.closed i o _ hi ho hl
      have hple := plusV_le (combV_in (s := false) h.all o.pre) (h.costs _ (List.mem_of_getElem? hl))
      have hUq := hUM q q0 q1
      unfold opV at hcl ⊢
      have hcn := comb_nonneg (V := V) (xs := o.pre)
      refine plusV_ge (combV_in hUall _) hcin ?_ (by omega)
      by_cases hb : Bf (hardV (V ++ [0]) n o.pre)
      · have hx : min (combV false V o.pre) M ≤ combV false U o.pre := by
          rcases h.hard hoo.1 with ⟨_, e⟩ | ⟨h3, h4⟩
          · rw [e, combV_nil, combV_nil]; omega
          · have h5 := comb_ge (V := U) h3
            have h6 := hoo.1 _ h3
            rw [hU _ h6.1 h6.2, if_pos hb, h4] at h5
            exact h5
        by_cases hi2 : (i : Int) ∈ cutOf n st goal ops left V
        · rw [if_pos hi2] at ec
          have h7 := hcf _ hi2
          rw [el] at h7
          obtain ⟨o', ho', _, p1, hp1, hz1⟩ := h.mem.1 hi2
          rw [ho] at ho'
          injection ho' with ho'
          subst ho'
          have h8 := (h.zone_in hz1).2
          have h9 := hcl p1 hp1
          omega
        · rw [if_neg hi2] at ec
          have hnz : ¬ GR (ZS n (V ++ [0]) goal) (ZE n (V ++ [0]) ops left) q := fun hz => hi2 (h.mem.2 ⟨o, ho, hb, q, hq, hz⟩)
          have hbq : Bf q := .step hb ⟨o, ho, rfl, hq, (h.zone_no q0 q1).2 hnz⟩
          have h9 := hcl q hq
          rw [hU q q0 q1, if_pos hbq]
          omega
      · rcases h.hard hoo.1 with ⟨e, _⟩ | ⟨h3, _⟩
        · exact absurd (show Bf _ by rw [e]; exact .start (.inl rfl)) hb
        · have h5 := comb_ge (V := U) h3
          have h6 := hoo.1 _ h3
          rw [hU _ h6.1 h6.2, if_neg hb] at h5
          unfold InV at hcin
          omega
  obtain ⟨h1, h2⟩ := h.goal_zone
  have h3 := h.goal_ _ h1
  have h4 := hV'.great U hfix (hardV (V ++ [0]) n goal)
  rw [hU _ h3.1 h3.2, if_neg (fun hb => (h.bef_in hb).2 h2)] at h4
  have h5 := comb_ge (V := V') h1
  omega
theorem AtCut.proper (h : AtCut n st goal ops left V) : CutP n st goal ops left (cutOf n st goal ops left V) (minTo left (cutOf n st goal ops left V)) := by
  obtain ⟨h1, h2, h3⟩ := foldMin (cost := left) (cutOf n st goal ops left V) 1000000000
  have hc : 0 < minTo left (cutOf n st goal ops left V) ∧ minTo left (cutOf n st goal ops left V) ≤ 100 := by
    unfold minTo
    rcases h3 with h3 | ⟨i, hi, h3⟩
    · obtain ⟨i, hi⟩ := List.exists_mem_of_ne_nil _ h.cut_ne
      have h4 := h2 i hi
      have h5 := h.cut_pos hi
      omega
    · have h5 := h.cut_pos hi
      omega
  refine ⟨cutV_set, h.cut_ne, hc.1, hc.2, h2, h.cut_no, fun V2 V' hb hb' => ?_, ⟨V, h, rfl, rfl⟩⟩
  rw [show V2 = V from (best_eq hb).trans (best_eq h.best).symm]
  exact h.drop hc.1 h2 hb'
end

/-! ### A list of cuts -/
def leftOf (c0 : List Int) (cs : List (List Int × Int)) : List Int := cs.foldl (fun l x => lower l x.1 x.2) c0
theorem leftOf_snoc (c0 : List Int) (cs : List (List Int × Int)) (x : List Int × Int) : leftOf c0 (cs ++ [x]) = lower (leftOf c0 cs) x.1 x.2 := by
  unfold leftOf; rw [List.foldl_append]; rfl
theorem leftOf_succ {c0 : List Int} {cs : List (List Int × Int)} {x : List Int × Int} {k : Nat} (h : cs[k]? = some x) : leftOf c0 (cs.take (k + 1)) = lower (leftOf c0 (cs.take k)) x.1 x.2 := by
  rw [List.take_add_one, h]; exact leftOf_snoc _ _ _
theorem leftOf_len (c0 : List Int) (cs : List (List Int × Int)) : (leftOf c0 cs).length = c0.length := by
  have : ∀ (cs : List (List Int × Int)) (l : List Int), (cs.foldl (fun l x => lower l x.1 x.2) l).length = l.length := by
    intro cs
    induction cs with
    | nil => intro l; rfl
    | cons x cs ih => intro l; rw [List.foldl_cons, ih, lower_len]
  exact this cs c0
def totalOf (cs : List (List Int × Int)) : Int := (cs.map (·.2)).sum
theorem totalOf_snoc (cs : List (List Int × Int)) (x : List Int × Int) : totalOf (cs ++ [x]) = totalOf cs + x.2 := by
  unfold totalOf; rw [List.map_append, List.sum_append]; simp
theorem totalOf_succ {cs : List (List Int × Int)} {x : List Int × Int} {k : Nat} (h : cs[k]? = some x) : totalOf (cs.take (k + 1)) = totalOf (cs.take k) + x.2 := by
  rw [List.take_add_one, h]; exact totalOf_snoc _ _
def CutsOk (n : Nat) (st goal : List Int) (ops : List OpV) (c0 : List Int) (cs : List (List Int × Int)) : Prop := ∀ i x, cs[i]? = some x → CutP n st goal ops (leftOf c0 (cs.take i)) x.1 x.2
section
variable {n : Nat} {st goal : List Int} {ops : List OpV} {c0 : List Int} {cs : List (List Int × Int)}
theorem CutsOk.nil : CutsOk n st goal ops c0 [] := fun i x h => by simp at h
theorem CutsOk.snoc (h : CutsOk n st goal ops c0 cs) {x : List Int × Int} (hx : CutP n st goal ops (leftOf c0 cs) x.1 x.2) : CutsOk n st goal ops c0 (cs ++ [x]) := fun i y hy => by
  rcases Nat.lt_or_ge i cs.length with hi | hi
  · rw [List.getElem?_append_left hi] at hy
    rw [List.take_append_of_le_length (by omega)]
    exact h i y hy
  · have : i = cs.length := by
      have := (List.getElem?_eq_some_iff.1 hy).1
      rw [List.length_append] at this
      simp at this; omega
    subst this
    rw [List.getElem?_append_right (Nat.le_refl _)] at hy
    simp at hy
    subst hy
    rw [List.take_left]
    exact hx
theorem CutsOk.left_in (h : CutsOk n st goal ops c0 cs) (hl : c0.length = ops.length) (hv : ∀ c ∈ c0, 0 ≤ c ∧ c ≤ 100) : ∀ k, ∀ c ∈ leftOf c0 (cs.take k), 0 ≤ c ∧ c ≤ 100 := by
  intro k
  induction k with
  | zero => exact hv
  | succ k ih =>
    rcases Nat.lt_or_ge k cs.length with hk | hk
    · have hx := List.getElem?_eq_getElem hk
      have hp := h k _ hx
      rw [leftOf_succ hx]
      have := hp.lower_in (by rw [leftOf_len]; exact hl) ih cs[k].1.length
      rwa [List.take_length] at this
    · rw [List.take_of_length_le (by omega)]
      rw [List.take_of_length_le hk] at ih
      exact ih
theorem CutsOk.total (h : CutsOk n st goal ops c0 cs) (hl : c0.length = ops.length) : ∀ k, k ≤ cs.length → 0 ≤ totalOf (cs.take k) ∧ totalOf (cs.take k) + sumV (leftOf c0 (cs.take k)) ≤ sumV c0 ∧ (k : Int) + sumV (leftOf c0 (cs.take k)) ≤ sumV c0 := by
  intro k
  induction k with
  | zero => intro _; simp [totalOf, leftOf]
  | succ k ih =>
    intro hk
    have hx := List.getElem?_eq_getElem (show k < cs.length by omega)
    have hp := h k _ hx
    have h1 := ih (by omega)
    rw [leftOf_succ hx, totalOf_succ hx]
    have h2 := lower_sum_le (c := cs[k].2) (by have := hp.pos; omega) cs[k].1 (leftOf c0 (cs.take k)) hp.set.pairwise (fun x hx => by rw [leftOf_len, hl]; exact hp.set.1 x hx) hp.fit
    have h3 : 0 < cs[k].1.length := List.length_pos_iff.2 hp.ne
    have h4 := hp.pos
    have h5 : cs[k].2.toNat ≤ cs[k].1.length * cs[k].2.toNat := Nat.le_mul_of_pos_left _ h3
    omega
end
theorem sumV_le {V : List Int} (h : ∀ v ∈ V, 0 ≤ v ∧ v ≤ 100) : sumV V ≤ 100 * V.length := by
  induction V with
  | nil => simp [sumV]
  | cons v V ih =>
    have h1 := ih (fun x hx => h x (List.mem_cons_of_mem _ hx))
    have h2 := h v (List.mem_cons_self ..)
    simp only [sumV, List.map_cons, List.sum_cons, List.length_cons] at *
    omega

end Go.Proofs.Ytihkgdlanfemcaa

namespace Go.Proofs.Ytihkgdlanfemcaa
open Go.RowKit
set_option linter.unusedVariables false
set_option linter.unusedSimpArgs false

/-- The cells of a search for cuts. -/
structure SBox (w : World) (b n : Nat) (t : TaskV) (Ai Ag Ao S C Q : Option Addr) (ci cg co cs cc cq : Nat) (st left W : List Int) : Prop where
  k0 : w.cell? ⟨b, 0, none⟩ = some (.int .i64 (n : Int))
  k1 : w.cell? ⟨b, 1, none⟩ = some (.slice Ai t.init.length ci)
  k2 : w.cell? ⟨b, 2, none⟩ = some (.slice Ag t.goal.length cg)
  k3 : w.cell? ⟨b, 3, none⟩ = some (.slice Ao t.ops.length co)
  k4 : w.cell? ⟨b, 4, none⟩ = some (.slice S st.length cs)
  k5 : w.cell? ⟨b, 5, none⟩ = some (.slice C left.length cc)
  k6 : w.cell? ⟨b, 6, none⟩ = some (.slice Q (n + 1) cq)
  mem : TaskMem w Ai Ag Ao t
  is : Ints w S st
  ic : Ints w C left
  iw : Ints w Q W
  lw : W.length = n + 1
  n9 : n ≤ 1000000
  lc : left.length = t.ops.length
  ls : lenOk st.length
  st_ : ∀ p ∈ st, 0 ≤ p ∧ p < (n : Int)
  goal_ : ∀ p ∈ t.goal, 0 ≤ p ∧ p < (n : Int)
  ops_ : ∀ o ∈ t.ops, (∀ p ∈ o.pre, 0 ≤ p ∧ p < (n : Int)) ∧ ∀ p ∈ o.add, 0 ≤ p ∧ p < (n : Int)
section
variable {w w' : World} {b n : Nat} {t : TaskV} {Ai Ag Ao S C Q : Option Addr} {ci cg co cs cc cq : Nat} {st left W : List Int}
theorem SBox.below (h : SBox w b n t Ai Ag Ao S C Q ci cg co cs cc cq st left W) (hb : Below w.heap.size w w') : SBox w' b n t Ai Ag Ao S C Q ci cg co cs cc cq st left W := by
  have k : ∀ {o : Nat} {v : Value}, w.cell? ⟨b, o, none⟩ = some v → w'.cell? ⟨b, o, none⟩ = some v := fun h => (hb.cell (World.block_lt_of_cell? w _ h)).trans h
  exact ⟨k h.k0, k h.k1, k h.k2, k h.k3, k h.k4, k h.k5, k h.k6, h.mem.below hb, h.is.below hb, h.ic.below hb, h.iw.below hb, h.lw, h.n9, h.lc, h.ls, h.st_, h.goal_, h.ops_⟩
theorem SBox.cells (h : SBox w b n t Ai Ag Ao S C Q ci cg co cs cc cq st left W) : w.cell? ⟨b, 0, none⟩ = some (.int .i64 (n : Int)) ∧ w.cell? ⟨b, 1, none⟩ = some (.slice Ai t.init.length ci) ∧ w.cell? ⟨b, 2, none⟩ = some (.slice Ag t.goal.length cg) ∧ w.cell? ⟨b, 3, none⟩ = some (.slice Ao t.ops.length co) ∧
    w.cell? ⟨b, 4, none⟩ = some (.slice S st.length cs) ∧ w.cell? ⟨b, 5, none⟩ = some (.slice C left.length cc) ∧ w.cell? ⟨b, 6, none⟩ = some (.slice Q (n + 1) cq) := ⟨h.k0, h.k1, h.k2, h.k3, h.k4, h.k5, h.k6⟩
theorem hard_at (h : SBox w b n t Ai Ag Ao S C Q ci cg co cs cc cq st left W) (X : Option Addr) (d : Nat) (xs : List Int) (hJ : Ints w X xs) (hl : lenOk xs.length) (hxs : ∀ x ∈ xs, 0 ≤ x ∧ x < (n : Int)) (v : Int) (hv : hardV W n xs = v) :
    Calls Try.prog 138 #[.pointer (some ⟨b, 0, none⟩), .slice X xs.length d] w fun e w' => e = .returned (.int .i64 v) ∧ Below w.heap.size w w' := by
  subst hv
  exact hardest_any w b n cq d Q X W xs h.k0 h.k6 h.iw h.lw (by have := h.n9; omega) hJ hl.le hxs
end
theorem falses_set_le {bs : List Bool} {i : Nat} : falses (bs.set i true) ≤ falses bs := by
  induction bs generalizing i with
  | nil => simp
  | cons b bs ih =>
    cases i with
    | zero => simp [falses]
    | succ i => have := ih (i := i); simp only [falses, List.set_cons_succ, List.map_cons, List.sum_cons] at *; omega
theorem replicate_no {N i : Nat} {b : Bool} (h : (List.replicate N false)[i]? = some b) : b = false := by
  rw [List.getElem?_replicate] at h
  split at h <;> simp_all
theorem make_b1 (n : Nat) (hn : n ≤ 1000000) (w : World) :
    (Instr.makeSlice 96 (.int .i64 ((n : Int) + 1)) (.int .i64 ((n : Int) + 1))).run Try.prog w = .ok (.slice (some ⟨w.heap.size, 0, none⟩) (n + 1) (n + 1)) (w.alloc (.cells (List.replicate (n + 1) (Value.bool false)).toArray 4)) := make_bools (n + 1) (by omega) w
/-- The start of a zone. -/
theorem zone_start {n : Nat} {W goal : List Int} {E : Nat → Int → Int → Prop} {h : Int} (hh : hardV W n goal = h) (h0 : 0 ≤ h) (h1 : h ≤ (n : Int)) : SoundG (n + 1) (ZS n W goal) E ((List.replicate (n + 1) false).set h.toNat true) := by
  refine ⟨by simp, fun p hp => ?_, fun p hp => ?_⟩
  · have : p = h := by rw [← hh]; exact hp
    subst this
    rw [List.getElem?_set_self (by simp; omega)]
  · rw [List.getElem?_set] at hp
    split at hp
    · rename_i e
      subst e
      rw [Int.toNat_of_nonneg h0]
      exact .start hh.symm
    · have := replicate_no hp; cases this
theorem bef_start {n : Nat} {st : List Int} {E : Nat → Int → Int → Prop} (h : ∀ p ∈ st, 0 ≤ p ∧ p < (n : Int)) : SoundG (n + 1) (BS n st) E (init3 (n + 1) ((n : Int) :: st)) := by
  have hx : ∀ x ∈ (n : Int) :: st, 0 ≤ x ∧ x < ((n + 1 : Nat) : Int) := fun x hx => by
    rcases List.mem_cons.1 hx with e | e
    · omega
    · have := h x e; omega
  have hs := init3_sound (n := n + 1) (ops := []) (use := fun _ => true) hx
  refine ⟨hs.len, fun p hp => hs.init p ?_, fun p hp => ?_⟩
  · rcases hp with e | e
    · rw [e]; exact List.mem_cons_self ..
    · exact List.mem_cons_of_mem _ e
  · have hr := hs.sound p hp
    cases hr with
    | init hm =>
      rcases List.mem_cons.1 hm with e | e
      · exact .start (.inl e)
      · exact .start (.inr e)
    | step ho => simp at ho
theorem init3_first (n : Nat) : init3 (n + 1) [(n : Int)] = (List.replicate (n + 1) false).set n true := by
  unfold init3; simp
theorem init3_next {n k : Nat} {l : List Int} {x : Int} (h : l[k]? = some x) : init3 (n + 1) ((n : Int) :: l.take (k + 1)) = (init3 (n + 1) ((n : Int) :: l.take k)).set x.toNat true := by
  have h2 : ((n : Int) :: l)[k + 1]? = some x := by simpa using h
  have := init3_succ (n := n + 1) h2
  simpa [List.take_succ_cons] using this

set_option maxRecDepth 100000 in
set_option maxHeartbeats 1000000 in
theorem zone_any (w : World) (b : Nat) (n : Nat) (t : TaskV) (Ai Ag Ao S C Q : Option Addr) (ci cg co cs cc cq : Nat) (st left W : List Int) (hX : SBox w b n t Ai Ag Ao S C Q ci cg co cs cc cq st left W) :
    Calls Try.prog 136 #[.pointer (some ⟨b, 0, none⟩)] w fun e w' => ∃ g, e = .returned (.slice (some ⟨g, 0, none⟩) (n + 1) (n + 1)) ∧ w.heap.size ≤ g ∧ BArr w' g (zoneV n W t.ops left t.goal) ∧ Below w.heap.size w w' := by
  have hmk := make_b1 n hX.n9
  have hn9 := hX.n9
  obtain ⟨h, hh⟩ : ∃ h, Hid (hardV W n t.goal = h) := ⟨_, Lib.hid rfl⟩
  obtain ⟨h0, h1⟩ := hardV_in (vs := W) (n := (n : Int)) (by omega) hX.goal_
  rw [hh.out] at h0 h1
  have hlo := hX.mem.lops.le
  have hlg := hX.mem.lgoal.le
  have HX := Lib.hid hX
  obtain ⟨k0, k1, k2, k3, k4, k5, k6⟩ := SBox.cells (HX.out)
  have kb := World.block_lt_of_cell? _ _ k0
  clear hX
  go_enter Try.func136, Try.ntmps136
  go_wp2_with fail
  refine (hard_at (HX.out.below (by repeat (first | with_reducible exact Below.refl _ _ | with_reducible apply bdrew | with_reducible apply bdrewN | with_reducible apply balloc | ((with_reducible refine bset ?_ ?_ _); rotate_left; (first | omega | (simp <;> omega)))))) _ _ _ (HX.out.mem.goal.below (by repeat (first | with_reducible exact Below.refl _ _ | with_reducible apply bdrew | with_reducible apply bdrewN | with_reducible apply balloc | ((with_reducible refine bset ?_ ?_ _); rotate_left; (first | omega | (simp <;> omega)))))) HX.out.mem.lgoal HX.out.goal_ h hh.out).mono ?_
  rintro e w1 ⟨rfl, hB1⟩
  have D1 := dstep w hB1 (by repeat (first | with_reducible exact Below.refl _ _ | with_reducible apply bdrew | with_reducible apply bdrewN | with_reducible apply balloc | ((with_reducible refine bset ?_ ?_ _); rotate_left; (first | omega | (simp <;> omega)))))
  have d1s := D1.size
  have hA1 : BArr w1 w.heap.size (List.replicate (n + 1) false) := (BArr.made w (n + 1) _ rfl).below hB1
  obtain ⟨y, hy, hd, hf⟩ := hA1.cell (i := h.toNat) (by simp; omega)
  go_wp2_with fail
  go_loopg [4] (2 * falses ((List.replicate (n + 1) false).set h.toNat true) + 1) (fun gk ch wr => ∃ (V : List Bool) (c : Bool), ch = .bool c ∧ Hid (gk = 2 * falses V + c.toNat) ∧ BArr wr w.heap.size V ∧ SoundG (n + 1) (ZS n W t.goal) (ZE n W t.ops left) V ∧ Hid (c = false → ClosedG (ZE n W t.ops left) t.ops.length V) ∧ Below w.heap.size w wr)
  case atStart => exact ⟨_, true, rfl, Lib.hid rfl, hA1.set_ _ _, zone_start hh.out h0 h1, Lib.hid (fun h => by cases h), (by repeat (first | with_reducible exact D1 | with_reducible apply bdrew | with_reducible apply bdrewN | with_reducible apply balloc | ((with_reducible refine bset ?_ ?_ _); rotate_left; (first | omega | (simp <;> omega)))))⟩
  case round =>
    obtain ⟨V0, c, rfl, hgk, hA0, hV0, hcl, hBp⟩ := hrel
    obtain ⟨g3, rfl⟩ : ∃ g : Nat, g = gk := ⟨_, rfl⟩
    obtain ⟨w3, rfl⟩ : ∃ wo : World, wo = wr := ⟨_, rfl⟩
    cases c with
    | false =>
      have e := hV0.eq (hcl.out rfl) (fun i p q h => by obtain ⟨o, c, ho, _⟩ := h; exact (List.getElem?_eq_some_iff.1 ho).1)
      rw [e] at hA0
      clear e hV0 hcl
      go_wp2
      go_ret
      exact ⟨_, rfl, by omega, hA0, hBp⟩
    | true =>
      clear k0 k1 k2 k3 k4 k5 k6 kb
      obtain ⟨k0, k1, k2, k3, k4, k5, k6⟩ := SBox.cells (HX.out.below hBp)
      have kb := World.block_lt_of_cell? _ _ k0
      have dps := hBp.size
      go_wp2_with fail
      go_loopg [4, 33] (t.ops.length) (fun gk ch i wr => ∃ (V : List Bool) (c : Bool) (k : Nat), ch = .bool c ∧ i = .int .i64 k ∧ Hid (k + gk = t.ops.length) ∧ BArr wr w.heap.size V ∧ SoundG (n + 1) (ZS n W t.goal) (ZE n W t.ops left) V ∧ Hid (c = true → falses V < falses V0) ∧ Hid (c = false → falses V ≤ falses V0 ∧ ClosedG (ZE n W t.ops left) k V) ∧ Below w.heap.size w wr)
      case atStart => exact ⟨V0, false, 0, rfl, rfl, Lib.hid (by omega), hA0, hV0, Lib.hid (fun h => by cases h), Lib.hid (fun _ => ⟨Nat.le_refl _, closedG_zero⟩), (by repeat (first | with_reducible exact hBp | with_reducible apply bdrew | with_reducible apply bdrewN | with_reducible apply balloc | ((with_reducible refine bset ?_ ?_ _); rotate_left; (first | omega | (simp <;> omega)))))⟩
      case round =>
        obtain ⟨V1, c1, k, rfl, rfl, hk, hA1, hV1, ht1, hf1, hBs⟩ := hrel
        obtain ⟨g4, rfl⟩ : ∃ g : Nat, g = gk := ⟨_, rfl⟩
        obtain ⟨w4, rfl⟩ : ∃ wo : World, wo = wr := ⟨_, rfl⟩
        clear k0 k1 k2 k3 k4 k5 k6 kb
        obtain ⟨k0, k1, k2, k3, k4, k5, k6⟩ := SBox.cells (HX.out.below hBs)
        have kb := World.block_lt_of_cell? _ _ k0
        have dss := hBs.size
        by_cases hlt : k < t.ops.length
        · obtain ⟨ad, o, A0, c0, A1, c1', A2, c2, rfl, ho, hc0, hc1, hc2, hc3, hm⟩ := HX.out.mem.ops.at2 hBs hlt
          have hoo := Lib.hid (HX.out.ops_ o (List.mem_of_getElem? ho.out))
          have hk1 := Lib.hid (show k + 1 + (g4 - 1) = t.ops.length ∧ g4 - 1 < g4 by have := hk.out; omega)
          have hlk : k < left.length := by have := HX.out.lc; omega
          obtain ⟨cd, cv, rfl, hcv, hcc⟩ := (HX.out.ic.below hBs).at_ hlk
          obtain ⟨f, hf⟩ : ∃ f, Hid (hardV W n o.pre = f) := ⟨_, Lib.hid rfl⟩
          obtain ⟨f0, f1⟩ := hardV_in (vs := W) (n := (n : Int)) (by omega) hoo.out.1
          rw [hf.out] at f0 f1
          go_wp2_with fail
          refine (hard_at (HX.out.below (by repeat (first | with_reducible exact hBs | with_reducible apply bdrew | with_reducible apply bdrewN | with_reducible apply balloc | ((with_reducible refine bset ?_ ?_ _); rotate_left; (first | omega | (simp <;> omega)))))) _ _ _ (hm.pre.below (by repeat (first | with_reducible exact hBs | with_reducible apply bdrew | with_reducible apply bdrewN | with_reducible apply balloc | ((with_reducible refine bset ?_ ?_ _); rotate_left; (first | omega | (simp <;> omega)))))) hm.lpre hoo.out.1 f hf.out).mono ?_
          rintro e w6 ⟨rfl, hB6⟩
          have D6 := dstep w hB6 (by repeat (first | with_reducible exact hBs | with_reducible apply bdrew | with_reducible apply bdrewN | with_reducible apply balloc | ((with_reducible refine bset ?_ ?_ _); rotate_left; (first | omega | (simp <;> omega)))))
          have d6s := D6.size
          have C6 := Cls.below (l := [(w4.heap.size, 0, .slice A0 o.pre.length c0), (w4.heap.size, 1, .slice A1 o.add.length c1'), (w4.heap.size, 2, .slice A2 o.del.length c2), (w4.heap.size, 3, .int .i64 o.cost)]) hB6 (by simp [Cls, go_sem])
          have F6 := C6
          simp only [Cls, and_true] at F6
          have y6w40 : w4.heap.size < w6.heap.size := C6.blk (b := w4.heap.size) (k := 0) (v := .slice A0 o.pre.length c0) (by simp)
          have y6w4p1 : w4.heap.size < w6.heap.size + 1 := (by omega)
          have y6w4p2 : w4.heap.size < w6.heap.size + 1 + 1 := (by omega)
          have E6 := dstep w4 hB6 (by repeat (first | with_reducible exact Below.refl _ _ | with_reducible apply bdrew | with_reducible apply bdrewN | with_reducible apply balloc | ((with_reducible refine bset ?_ ?_ _); rotate_left; (first | omega | (simp <;> omega)))))
          clear k0 k1 k2 k3 k4 k5 k6 kb
          obtain ⟨k0, k1, k2, k3, k4, k5, k6⟩ := SBox.cells (HX.out.below D6)
          have kb := World.block_lt_of_cell? _ _ k0
          have hcc6 := (E6.cell (World.block_lt_of_cell? w4 _ hcc)).trans hcc
          clear hcc
          have hcb := Lib.hid hcv.out
          have hA6 := hA1.below E6
          by_cases hpos : 0 < cv
          · have hpd : decide (0 < cv) = true := by simpa using hpos
            have HP := Lib.hid hpos
            clear hpos
            go_wp2
            go_roundg (g4 - 1)
            case measure => exact hk1.out.2
            case rel =>
              refine ⟨V1, c1, k + 1, rfl, by go_num, Lib.hid hk1.out.1, hA6, hV1, ht1, Lib.hid (fun h => ⟨(hf1.out h).1, closedG_succ (hf1.out h).2 (fun p q hE hp => by obtain ⟨o', c', _, hc', hn', _⟩ := hE; rw [hcv.out] at hc'; injection hc' with hc'; subst hc'; exact absurd HP.out hn')⟩), (by repeat (first | with_reducible exact D6 | with_reducible apply bdrew | with_reducible apply bdrewN | with_reducible apply balloc | ((with_reducible refine bset ?_ ?_ _); rotate_left; (first | omega | (simp <;> omega)))))⟩
          · have hpd : decide (0 < cv) = false := by simpa using hpos
            have HP := Lib.hid hpos
            clear hpos
            have hl1 := hV1.len
            obtain ⟨yf, hyf, hyc, hyw⟩ := hA6.cell (i := f.toNat) (by omega)
            have HL1 := Lib.hid hl1
            clear hl1
            cases yf with
            | true =>
              go_wp2
              go_roundg (g4 - 1)
              case measure => exact hk1.out.2
              case rel =>
                refine ⟨V1, c1, k + 1, rfl, by go_num, Lib.hid hk1.out.1, hA6, hV1, ht1, Lib.hid (fun h => ⟨(hf1.out h).1, closedG_succ (hf1.out h).2 (fun p q hE hp => by obtain ⟨o', c', ho', _, _, _, e⟩ := hE; rw [ho.out] at ho'; injection ho' with ho'; subst ho'; rw [e, hf.out]; exact hyf.out)⟩), (by repeat (first | with_reducible exact D6 | with_reducible apply bdrew | with_reducible apply bdrewN | with_reducible apply balloc | ((with_reducible refine bset ?_ ?_ _); rotate_left; (first | omega | (simp <;> omega)))))⟩
            | false =>
              have hlc' := hm.ladd.le
              go_wp2_with fail
              go_loopg [4, 59] (o.add.length) (fun gk ch i wr => ∃ (V : List Bool) (c : Bool) (j : Nat), ch = .bool c ∧ i = .int .i64 j ∧ Hid (j + gk = o.add.length) ∧ BArr wr w.heap.size V ∧ SoundG (n + 1) (ZS n W t.goal) (ZE n W t.ops left) V ∧ Hid (c = true → falses V < falses V0) ∧ Hid (c = false → falses V ≤ falses V0 ∧ ClosedG (ZE n W t.ops left) k V ∧ V[f.toNat]? = some false ∧ ∀ p ∈ o.add.take j, V[p.toNat]? = some false) ∧ Below w.heap.size w wr)
              case atStart => exact ⟨V1, c1, 0, rfl, rfl, Lib.hid (by omega), hA6, hV1, ht1, Lib.hid (fun h => ⟨(hf1.out h).1, (hf1.out h).2, hyf.out, by simp⟩), (by repeat (first | with_reducible exact D6 | with_reducible apply bdrew | with_reducible apply bdrewN | with_reducible apply balloc | ((with_reducible refine bset ?_ ?_ _); rotate_left; (first | omega | (simp <;> omega)))))⟩
              case round =>
                obtain ⟨V2, c2', j, rfl, rfl, hj, hA2, hV2, ht2, hf2, hBu⟩ := hrel
                obtain ⟨w8, rfl⟩ : ∃ wo : World, wo = wr := ⟨_, rfl⟩
                have dus := hBu.size
                by_cases hlj : j < o.add.length
                · obtain ⟨pd, p, rfl, hp, hpc⟩ := (hm.add.below hBu).at_ hlj
                  obtain ⟨p0, p1⟩ := hoo.out.2 p (List.mem_of_getElem? hp.out)
                  have hl2 := hV2.len
                  obtain ⟨y2, hy2, hyc2, hyw2⟩ := hA2.cell (i := p.toNat) (by omega)
                  obtain ⟨yf, hyf2, hyfc, hyfw⟩ := hA2.cell (i := f.toNat) (by omega)
                  have hj1 := Lib.hid (show j + 1 + (gk - 1) = o.add.length ∧ gk - 1 < gk by have := hj.out; omega)
                  have HV2 := Lib.hid hV2
                  have HL2 := Lib.hid hl2
                  clear hV2 hl2
                  cases y2 with
                  | true =>
                    have hz := Lib.hid (show GR (ZS n W t.goal) (ZE n W t.ops left) f from by
                      have h3 := HV2.out.sound _ hy2.out
                      rw [Int.toNat_of_nonneg p0] at h3
                      exact .step h3 ⟨o, cv, ho.out, hcv.out, (by have := HP.out; omega), List.mem_of_getElem? hp.out, hf.out.symm⟩)
                    go_wp2
                    go_roundg (gk - 1)
                    case measure => exact hj1.out.2
                    case rel =>
                      refine ⟨V2.set f.toNat true, true, j + 1, rfl, by go_num, Lib.hid hj1.out.1, hA2.set_ _ _, HV2.out.set_ hz.out f0 (by omega), Lib.hid (fun _ => ?_), Lib.hid (fun h => by cases h), (by repeat (first | with_reducible exact hBu | with_reducible apply bdrew | with_reducible apply bdrewN | with_reducible apply balloc | ((with_reducible refine bset ?_ ?_ _); rotate_left; (first | omega | (simp <;> omega)))))⟩
                      cases c2' with
                      | true => have h2 := ht2.out (by simp); have h3 := falses_set_le (bs := V2) (i := f.toNat); omega
                      | false => have h2 := hf2.out (by simp); have h3 := falses_set h2.2.2.1; omega
                  | false =>
                    go_wp2
                    go_roundg (gk - 1)
                    case measure => exact hj1.out.2
                    case rel =>
                      exact ⟨V2, c2', j + 1, rfl, by go_num, Lib.hid hj1.out.1, hA2, HV2.out, ht2, Lib.hid (fun h => ⟨(hf2.out h).1, (hf2.out h).2.1, (hf2.out h).2.2.1, forall_take_succ (P := fun p : Int => V2[p.toNat]? = some false) hp.out (hf2.out h).2.2.2 hy2.out⟩), (by repeat (first | with_reducible exact hBu | with_reducible apply bdrew | with_reducible apply bdrewN | with_reducible apply balloc | ((with_reducible refine bset ?_ ?_ _); rotate_left; (first | omega | (simp <;> omega)))))⟩
                · go_wp2
                  go_roundg (g4 - 1)
                  case measure => exact hk1.out.2
                  case rel =>
                    refine ⟨V2, c2', k + 1, rfl, by go_num, Lib.hid hk1.out.1, hA2, hV2, ht2, Lib.hid (fun h => ⟨(hf2.out h).1, closedG_succ (hf2.out h).2.1 (fun p q hE hp => ?_)⟩), (by repeat (first | with_reducible exact hBu | with_reducible apply bdrew | with_reducible apply bdrewN | with_reducible apply balloc | ((with_reducible refine bset ?_ ?_ _); rotate_left; (first | omega | (simp <;> omega)))))⟩
                    obtain ⟨o', c', ho', _, _, hpm, _⟩ := hE
                    rw [ho.out] at ho'; injection ho' with ho'; subst ho'
                    have h3 := forall_take_all hlj (hf2.out h).2.2.2 p hpm
                    rw [h3] at hp; cases hp
        · have hkk := Lib.hid (show k = t.ops.length by have := hk.out; omega)
          go_wp2
          go_roundg (2 * falses V1 + c1.toNat)
          case measure =>
            rw [hgk.out]
            cases c1 with
            | true => have := ht1.out rfl; simp; omega
            | false => have := (hf1.out rfl).1; simp; omega
          case rel => exact ⟨V1, c1, rfl, Lib.hid rfl, hA1, hV1, Lib.hid (fun h => by rw [← hkk.out]; exact (hf1.out h).2), (by repeat (first | with_reducible exact hBs | with_reducible apply bdrew | with_reducible apply bdrewN | with_reducible apply balloc | ((with_reducible refine bset ?_ ?_ _); rotate_left; (first | omega | (simp <;> omega)))))⟩


end Go.Proofs.Ytihkgdlanfemcaa

namespace Go.Proofs.Ytihkgdlanfemcaa
open Go.RowKit
set_option linter.unusedVariables false
set_option linter.unusedSimpArgs false

theorem BArr.made_set (w : World) (n i : Nat) (b : Bool) : BArr (w.alloc (.cells ((Array.replicate n (Value.bool false)).setIfInBounds i (.bool b)) 4)) w.heap.size ((List.replicate n false).set i b) := by
  have h := Arr.new w 4 (((List.replicate n false).set i b).map Value.bool)
  unfold BArr
  rw [List.map_set, List.map_replicate] at h ⊢
  rw [← List.toArray_replicate, List.setIfInBounds_toArray]
  exact h

set_option maxRecDepth 100000 in
set_option maxHeartbeats 1000000 in
theorem before_any (w : World) (b : Nat) (n : Nat) (t : TaskV) (Ai Ag Ao S C Q : Option Addr) (ci cg co cs cc cq : Nat) (st left W : List Int) (hX : SBox w b n t Ai Ag Ao S C Q ci cg co cs cc cq st left W) (Zp : Option Addr) (cz : Nat) (Z : List Bool) (hZ : Bools w Zp Z) (hzl : Z.length = n + 1) :
    Calls Try.prog 137 #[.pointer (some ⟨b, 0, none⟩), .slice Zp (n + 1) cz] w fun e w' => ∃ g, e = .returned (.slice (some ⟨g, 0, none⟩) (n + 1) (n + 1)) ∧ w.heap.size ≤ g ∧ BArr w' g (befV n W t.ops st Z) ∧ Below w.heap.size w w' := by
  have hmk := make_b1 n hX.n9
  have hn9 := hX.n9
  have hlo := hX.mem.lops.le
  have hls := hX.ls.le
  have HST := Lib.hid hX.st_
  have hS := hX.is
  have HZL := Lib.hid hzl
  clear hzl
  have HX := Lib.hid hX
  obtain ⟨k0, k1, k2, k3, k4, k5, k6⟩ := SBox.cells (HX.out)
  have kb := World.block_lt_of_cell? _ _ k0
  clear hX
  have hA0 := BArr.made w (n + 1) _ rfl
  obtain ⟨y, hy, hd, hf⟩ := hA0.cell (i := n) (by simp)
  go_enter Try.func137, Try.ntmps137
  go_wp2_with fail
  go_loopg [32] (st.length) (fun gk i wr => ∃ k : Nat, Hid (k + gk = st.length) ∧ i = .int .i64 k ∧ BArr wr w.heap.size (init3 (n + 1) ((n : Int) :: st.take k)) ∧ Below w.heap.size w wr)
  case atStart =>
    refine ⟨0, Lib.hid (by omega), rfl, ?_, (by repeat (first | with_reducible exact Below.refl _ _ | with_reducible apply bdrew | with_reducible apply bdrewN | with_reducible apply balloc | ((with_reducible refine bset ?_ ?_ _); rotate_left; (first | omega | (simp <;> omega)))))⟩
    rw [List.take_zero, init3_first]
    exact BArr.made_set w (n + 1) n true
  case round =>
    obtain ⟨k, hk, rfl, hA, hBq⟩ := hrel
    have dqs := hBq.size
    by_cases hlt : k < st.length
    · obtain ⟨sd, x, rfl, hx, hc⟩ := (hS.below hBq).at_ hlt
      obtain ⟨x0, x1⟩ := HST.out x (List.mem_of_getElem? hx.out)
      have hlen := init3_len (n + 1) ((n : Int) :: st.take k)
      obtain ⟨y1, hy1, hd1, hf1⟩ := hA.cell (i := x.toNat) (by omega)
      have hk1 := Lib.hid (show k + 1 + (gk - 1) = st.length ∧ gk - 1 < gk by have := hk.out; omega)
      go_wp2
      go_roundg (gk - 1)
      case measure => exact hk1.out.2
      case rel =>
        refine ⟨k + 1, Lib.hid hk1.out.1, by go_num, ?_, (by repeat (first | with_reducible exact hBq | with_reducible apply bdrew | with_reducible apply bdrewN | with_reducible apply balloc | ((with_reducible refine bset ?_ ?_ _); rotate_left; (first | omega | (simp <;> omega)))))⟩
        rw [init3_next hx.out]
        exact hA.set_ _ _
    · rw [List.take_of_length_le (by omega)] at hA
      obtain ⟨w2, rfl⟩ : ∃ wo : World, wo = wr := ⟨_, rfl⟩
      clear k0 k1 k2 k3 k4 k5 k6 kb
      obtain ⟨k0, k1, k2, k3, k4, k5, k6⟩ := SBox.cells (HX.out.below hBq)
      have kb := World.block_lt_of_cell? _ _ k0
      go_wp2_with fail
      go_loopg [8] (2 * falses (init3 (n + 1) ((n : Int) :: st)) + 1) (fun gk ch wr => ∃ (V : List Bool) (c : Bool), ch = .bool c ∧ Hid (gk = 2 * falses V + c.toNat) ∧ BArr wr w.heap.size V ∧ SoundG (n + 1) (BS n st) (BE n W t.ops Z) V ∧ Hid (c = false → ClosedG (BE n W t.ops Z) t.ops.length V) ∧ Below w.heap.size w wr)
      case atStart => exact ⟨_, true, rfl, Lib.hid rfl, hA, bef_start HST.out, Lib.hid (fun h => by cases h), (by repeat (first | with_reducible exact hBq | with_reducible apply bdrew | with_reducible apply bdrewN | with_reducible apply balloc | ((with_reducible refine bset ?_ ?_ _); rotate_left; (first | omega | (simp <;> omega)))))⟩
      case round =>
        obtain ⟨V0, c, rfl, hgk, hA0, hV0, hcl, hBp⟩ := hrel
        obtain ⟨g3, rfl⟩ : ∃ g : Nat, g = gk := ⟨_, rfl⟩
        obtain ⟨w3, rfl⟩ : ∃ wo : World, wo = wr := ⟨_, rfl⟩
        cases c with
        | false =>
          have e := hV0.eq (hcl.out rfl) (fun i p q h => by obtain ⟨o, ho, _⟩ := h; exact (List.getElem?_eq_some_iff.1 ho).1)
          rw [e] at hA0
          clear e hV0 hcl
          go_wp2
          go_ret
          exact ⟨_, rfl, by omega, hA0, hBp⟩
        | true =>
          clear k0 k1 k2 k3 k4 k5 k6 kb
          obtain ⟨k0, k1, k2, k3, k4, k5, k6⟩ := SBox.cells (HX.out.below hBp)
          have kb := World.block_lt_of_cell? _ _ k0
          have dps := hBp.size
          go_wp2_with fail
          go_loopg [8, 47] (t.ops.length) (fun gk ch i wr => ∃ (V : List Bool) (c : Bool) (k : Nat), ch = .bool c ∧ i = .int .i64 k ∧ Hid (k + gk = t.ops.length) ∧ BArr wr w.heap.size V ∧ SoundG (n + 1) (BS n st) (BE n W t.ops Z) V ∧ Hid (c = true → falses V < falses V0) ∧ Hid (c = false → falses V ≤ falses V0 ∧ ClosedG (BE n W t.ops Z) k V) ∧ Below w.heap.size w wr)
          case atStart => exact ⟨V0, false, 0, rfl, rfl, Lib.hid (by omega), hA0, hV0, Lib.hid (fun h => by cases h), Lib.hid (fun _ => ⟨Nat.le_refl _, closedG_zero⟩), (by repeat (first | with_reducible exact hBp | with_reducible apply bdrew | with_reducible apply bdrewN | with_reducible apply balloc | ((with_reducible refine bset ?_ ?_ _); rotate_left; (first | omega | (simp <;> omega)))))⟩
          case round =>
            obtain ⟨V1, c1, k, rfl, rfl, hk, hA1, hV1, ht1, hf1, hBs⟩ := hrel
            obtain ⟨g4, rfl⟩ : ∃ g : Nat, g = gk := ⟨_, rfl⟩
            obtain ⟨w4, rfl⟩ : ∃ wo : World, wo = wr := ⟨_, rfl⟩
            clear k0 k1 k2 k3 k4 k5 k6 kb
            obtain ⟨k0, k1, k2, k3, k4, k5, k6⟩ := SBox.cells (HX.out.below hBs)
            have kb := World.block_lt_of_cell? _ _ k0
            have dss := hBs.size
            by_cases hlt : k < t.ops.length
            · obtain ⟨ad, o, A0, c0, A1, c1', A2, c2, rfl, ho, hc0, hc1, hc2, hc3, hm⟩ := HX.out.mem.ops.at2 hBs hlt
              have hoo := Lib.hid (HX.out.ops_ o (List.mem_of_getElem? ho.out))
              have hk1 := Lib.hid (show k + 1 + (g4 - 1) = t.ops.length ∧ g4 - 1 < g4 by have := hk.out; omega)
              obtain ⟨f, hf⟩ : ∃ f, Hid (hardV W n o.pre = f) := ⟨_, Lib.hid rfl⟩
              obtain ⟨f0, f1⟩ := hardV_in (vs := W) (n := (n : Int)) (by omega) hoo.out.1
              rw [hf.out] at f0 f1
              have HL1 := Lib.hid hV1.len
              go_wp2_with fail
              refine (hard_at (HX.out.below (by repeat (first | with_reducible exact hBs | with_reducible apply bdrew | with_reducible apply bdrewN | with_reducible apply balloc | ((with_reducible refine bset ?_ ?_ _); rotate_left; (first | omega | (simp <;> omega)))))) _ _ _ (hm.pre.below (by repeat (first | with_reducible exact hBs | with_reducible apply bdrew | with_reducible apply bdrewN | with_reducible apply balloc | ((with_reducible refine bset ?_ ?_ _); rotate_left; (first | omega | (simp <;> omega)))))) hm.lpre hoo.out.1 f hf.out).mono ?_
              rintro e w6 ⟨rfl, hB6⟩
              have D6 := dstep w hB6 (by repeat (first | with_reducible exact hBs | with_reducible apply bdrew | with_reducible apply bdrewN | with_reducible apply balloc | ((with_reducible refine bset ?_ ?_ _); rotate_left; (first | omega | (simp <;> omega)))))
              have d6s := D6.size
              have C6 := Cls.below (l := [(w4.heap.size, 0, .slice A0 o.pre.length c0), (w4.heap.size, 1, .slice A1 o.add.length c1'), (w4.heap.size, 2, .slice A2 o.del.length c2), (w4.heap.size, 3, .int .i64 o.cost)]) hB6 (by simp [Cls, go_sem])
              have F6 := C6
              simp only [Cls, and_true] at F6
              have y6w40 : w4.heap.size < w6.heap.size := C6.blk (b := w4.heap.size) (k := 0) (v := .slice A0 o.pre.length c0) (by simp)
              have y6w4p1 : w4.heap.size < w6.heap.size + 1 := (by omega)
              have y6w4p2 : w4.heap.size < w6.heap.size + 1 + 1 := (by omega)
              have E6 := dstep w4 hB6 (by repeat (first | with_reducible exact Below.refl _ _ | with_reducible apply bdrew | with_reducible apply bdrewN | with_reducible apply balloc | ((with_reducible refine bset ?_ ?_ _); rotate_left; (first | omega | (simp <;> omega)))))
              clear k0 k1 k2 k3 k4 k5 k6 kb
              obtain ⟨k0, k1, k2, k3, k4, k5, k6⟩ := SBox.cells (HX.out.below D6)
              have kb := World.block_lt_of_cell? _ _ k0
              have hA6 := hA1.below E6
              obtain ⟨yf, hyf, hyc, hyw⟩ := hA6.cell (i := f.toNat) (by have := HL1.out; omega)
              cases yf with
              | false =>
                go_wp2
                go_roundg (g4 - 1)
                case measure => exact hk1.out.2
                case rel =>
                  refine ⟨V1, c1, k + 1, rfl, by go_num, Lib.hid hk1.out.1, hA6, hV1, ht1, Lib.hid (fun h => ⟨(hf1.out h).1, closedG_succ (hf1.out h).2 (fun p q hE hp => by obtain ⟨o', ho', e, _⟩ := hE; rw [ho.out] at ho'; injection ho' with ho'; subst ho'; rw [e, hf.out, hyf.out] at hp; cases hp)⟩), (by repeat (first | with_reducible exact D6 | with_reducible apply bdrew | with_reducible apply bdrewN | with_reducible apply balloc | ((with_reducible refine bset ?_ ?_ _); rotate_left; (first | omega | (simp <;> omega)))))⟩
              | true =>
                have hlc' := hm.ladd.le
                have hfr := Lib.hid (show GR (BS n st) (BE n W t.ops Z) f from by
                  have h3 := hV1.sound _ hyf.out
                  rwa [Int.toNat_of_nonneg f0] at h3)
                go_wp2_with fail
                go_loopg [8, 62] (o.add.length) (fun gk ch i wr => ∃ (V : List Bool) (c : Bool) (j : Nat), ch = .bool c ∧ i = .int .i64 j ∧ Hid (j + gk = o.add.length) ∧ BArr wr w.heap.size V ∧ SoundG (n + 1) (BS n st) (BE n W t.ops Z) V ∧ Hid (c = true → falses V < falses V0) ∧ Hid (c = false → falses V ≤ falses V0 ∧ ClosedG (BE n W t.ops Z) k V ∧ ∀ p ∈ o.add.take j, V[p.toNat]? = some true ∨ Z[p.toNat]? = some true) ∧ Below w.heap.size w wr)
                case atStart => exact ⟨V1, c1, 0, rfl, rfl, Lib.hid (by omega), hA6, hV1, ht1, Lib.hid (fun h => ⟨(hf1.out h).1, (hf1.out h).2, by simp⟩), (by repeat (first | with_reducible exact D6 | with_reducible apply bdrew | with_reducible apply bdrewN | with_reducible apply balloc | ((with_reducible refine bset ?_ ?_ _); rotate_left; (first | omega | (simp <;> omega)))))⟩
                case round =>
                  obtain ⟨V2, c2', j, rfl, rfl, hj, hA2, hV2, ht2, hf2, hBu⟩ := hrel
                  obtain ⟨w8, rfl⟩ : ∃ wo : World, wo = wr := ⟨_, rfl⟩
                  have dus := hBu.size
                  by_cases hlj : j < o.add.length
                  · obtain ⟨pd, p, rfl, hp, hpc⟩ := (hm.add.below hBu).at_ hlj
                    obtain ⟨p0, p1⟩ := hoo.out.2 p (List.mem_of_getElem? hp.out)
                    have hl2 := hV2.len
                    obtain ⟨y2, hy2, hyc2, hyw2⟩ := hA2.cell (i := p.toNat) (by omega)
                    obtain ⟨zd, z2, rfl, hz2, hzc2⟩ := (hZ.below hBu).at_ (k := p.toNat) (by have := HZL.out; omega)
                    have hj1 := Lib.hid (show j + 1 + (gk - 1) = o.add.length ∧ gk - 1 < gk by have := hj.out; omega)
                    have HV2 := Lib.hid hV2
                    have HL2 := Lib.hid hl2
                    clear hV2 hl2
                    cases y2 with
                    | true =>
                      go_wp2
                      go_roundg (gk - 1)
                      case measure => exact hj1.out.2
                      case rel =>
                        exact ⟨V2, c2', j + 1, rfl, by go_num, Lib.hid hj1.out.1, hA2, HV2.out, ht2, Lib.hid (fun h => ⟨(hf2.out h).1, (hf2.out h).2.1, forall_take_succ (P := fun p : Int => V2[p.toNat]? = some true ∨ Z[p.toNat]? = some true) hp.out (hf2.out h).2.2 (.inl hy2.out)⟩), (by repeat (first | with_reducible exact hBu | with_reducible apply bdrew | with_reducible apply bdrewN | with_reducible apply balloc | ((with_reducible refine bset ?_ ?_ _); rotate_left; (first | omega | (simp <;> omega)))))⟩
                    | false =>
                      cases z2 with
                      | true =>
                        go_wp2
                        go_roundg (gk - 1)
                        case measure => exact hj1.out.2
                        case rel =>
                          exact ⟨V2, c2', j + 1, rfl, by go_num, Lib.hid hj1.out.1, hA2, HV2.out, ht2, Lib.hid (fun h => ⟨(hf2.out h).1, (hf2.out h).2.1, forall_take_succ (P := fun p : Int => V2[p.toNat]? = some true ∨ Z[p.toNat]? = some true) hp.out (hf2.out h).2.2 (.inr hz2.out)⟩), (by repeat (first | with_reducible exact hBu | with_reducible apply bdrew | with_reducible apply bdrewN | with_reducible apply balloc | ((with_reducible refine bset ?_ ?_ _); rotate_left; (first | omega | (simp <;> omega)))))⟩
                      | false =>
                        have hz := Lib.hid (show GR (BS n st) (BE n W t.ops Z) p from .step hfr.out ⟨o, ho.out, hf.out.symm, List.mem_of_getElem? hp.out, hz2.out⟩)
                        go_wp2
                        go_roundg (gk - 1)
                        case measure => exact hj1.out.2
                        case rel =>
                          refine ⟨V2.set p.toNat true, true, j + 1, rfl, by go_num, Lib.hid hj1.out.1, hA2.set_ _ _, HV2.out.set_ hz.out p0 (by omega), Lib.hid (fun _ => ?_), Lib.hid (fun h => by cases h), (by repeat (first | with_reducible exact hBu | with_reducible apply bdrew | with_reducible apply bdrewN | with_reducible apply balloc | ((with_reducible refine bset ?_ ?_ _); rotate_left; (first | omega | (simp <;> omega)))))⟩
                          have h3 := falses_set hy2.out
                          cases c2' with
                          | true => have h2 := ht2.out (by simp); omega
                          | false => have h2 := hf2.out (by simp); omega
                  · go_wp2
                    go_roundg (g4 - 1)
                    case measure => exact hk1.out.2
                    case rel =>
                      refine ⟨V2, c2', k + 1, rfl, by go_num, Lib.hid hk1.out.1, hA2, hV2, ht2, Lib.hid (fun h => ⟨(hf2.out h).1, closedG_succ (hf2.out h).2.1 (fun p q hE hp => ?_)⟩), (by repeat (first | with_reducible exact hBu | with_reducible apply bdrew | with_reducible apply bdrewN | with_reducible apply balloc | ((with_reducible refine bset ?_ ?_ _); rotate_left; (first | omega | (simp <;> omega)))))⟩
                      obtain ⟨o', ho', _, hpm, hzf⟩ := hE
                      rw [ho.out] at ho'; injection ho' with ho'; subst ho'
                      rcases forall_take_all hlj (hf2.out h).2.2 q hpm with h3 | h3
                      · exact h3
                      · rw [h3] at hzf; cases hzf
            · have hkk := Lib.hid (show k = t.ops.length by have := hk.out; omega)
              go_wp2
              go_roundg (2 * falses V1 + c1.toNat)
              case measure =>
                rw [hgk.out]
                cases c1 with
                | true => have := ht1.out rfl; simp; omega
                | false => have := (hf1.out rfl).1; simp; omega
              case rel => exact ⟨V1, c1, rfl, Lib.hid rfl, hA1, hV1, Lib.hid (fun h => by rw [← hkk.out]; exact (hf1.out h).2), (by repeat (first | with_reducible exact hBs | with_reducible apply bdrew | with_reducible apply bdrewN | with_reducible apply balloc | ((with_reducible refine bset ?_ ?_ _); rotate_left; (first | omega | (simp <;> omega)))))⟩


end Go.Proofs.Ytihkgdlanfemcaa

namespace Go.Proofs.Ytihkgdlanfemcaa
open Go.RowKit
set_option linter.unusedVariables false
set_option linter.unusedSimpArgs false

theorem grV_len' {n : Nat} {start : Int → Prop} {E : Nat → Int → Int → Prop} {Z : List Bool} (h : grV (n + 1) start E = Z) : Z.length = n + 1 := by rw [← h, grV_len]
theorem OwnI.drew' {base : Nat} {w : World} {v : Value} {xs : List Int} (h : OwnI base w v xs) : OwnI base w.drew v xs := h.below (bdrew (Below.refl _ _))
theorem minTo_zero {n : Nat} {W left : List Int} {ops : List OpV} {Z B : List Bool} : minTo left (cutTo n W ops Z B 0) = 1000000000 := rfl
theorem cut_skip {n k : Nat} {W : List Int} {ops : List OpV} {Z B : List Bool} {o : OpV} {f : Int} (ho : ops[k]? = some o) (hf : hardV W n o.pre = f) (h : B[f.toNat]? = some false ∨ ∀ p ∈ o.add, Z[p.toNat]? = some false) : cutTo n W ops Z B (k + 1) = cutTo n W ops Z B k := by
  refine cutTo_no ?_
  rintro ⟨o', ho', hb, p, hp, hz⟩
  rw [ho] at ho'; injection ho' with ho'; subst ho'
  rw [hf] at hb
  rcases h with h | h
  · rw [h] at hb; cases hb
  · rw [h p hp] at hz; cases hz
theorem cut_take {n k : Nat} {W : List Int} {ops : List OpV} {Z B : List Bool} {o : OpV} {f p : Int} (ho : ops[k]? = some o) (hf : hardV W n o.pre = f) (hb : B[f.toNat]? = some true) (hp : p ∈ o.add) (hz : Z[p.toNat]? = some true) : cutTo n W ops Z B k ++ [(k : Int)] = cutTo n W ops Z B (k + 1) := by
  refine (cutTo_yes ⟨o, ho, ?_, p, hp, hz⟩).symm
  rw [hf]; exact hb
set_option maxRecDepth 100000 in
set_option maxHeartbeats 1000000 in
theorem cut_any (w : World) (b : Nat) (n : Nat) (t : TaskV) (Ai Ag Ao S C Q : Option Addr) (ci cg co cs cc cq : Nat) (st left W : List Int) (hX : SBox w b n t Ai Ag Ao S C Q ci cg co cs cc cq st left W) (h40 : t.ops.length ≤ 100000000) :
    Calls Try.prog 110 #[.pointer (some ⟨b, 0, none⟩)] w fun e w' => ∃ v, e = .returned (.agg #[v, .int .i64 (minTo left (cutV n W t.ops (zoneV n W t.ops left t.goal) (befV n W t.ops st (zoneV n W t.ops left t.goal))))]) ∧ OwnI w.heap.size w' v (cutV n W t.ops (zoneV n W t.ops left t.goal) (befV n W t.ops st (zoneV n W t.ops left t.goal))) ∧ Below w.heap.size w w' := by
  have hn9 := hX.n9
  have hlo := hX.mem.lops.le
  have HX := Lib.hid hX
  obtain ⟨Z, hZe⟩ : ∃ Z, Hid (zoneV n W t.ops left t.goal = Z) := ⟨_, Lib.hid rfl⟩
  obtain ⟨Bf, hBe⟩ : ∃ Bf, Hid (befV n W t.ops st Z = Bf) := ⟨_, Lib.hid rfl⟩
  have HZL := Lib.hid (grV_len' hZe.out)
  have HBL := Lib.hid (grV_len' hBe.out)
  obtain ⟨k0, k1, k2, k3, k4, k5, k6⟩ := SBox.cells (HX.out)
  have kb := World.block_lt_of_cell? _ _ k0
  clear hX
  go_enter Try.func110, Try.ntmps110
  go_wp2_with fail
  refine (zone_any _ b n t Ai Ag Ao S C Q ci cg co cs cc cq st left W (HX.out.below (by repeat (first | with_reducible exact Below.refl _ _ | with_reducible apply bdrew | with_reducible apply bdrewN | with_reducible apply balloc | ((with_reducible refine bset ?_ ?_ _); rotate_left; (first | omega | (simp <;> omega))))))).mono ?_
  rintro e w1 ⟨g1, rfl, hg1, hA1, hB1⟩
  have D1 := dstep w hB1 (by repeat (first | with_reducible exact Below.refl _ _ | with_reducible apply bdrew | with_reducible apply bdrewN | with_reducible apply balloc | ((with_reducible refine bset ?_ ?_ _); rotate_left; (first | omega | (simp <;> omega)))))
  have d1s := D1.size
  have C1 := Cls.below (l := [(w.heap.size, 0, .slice none 0 0), (w.heap.size, 1, .int .i64 0)]) hB1 (by simp [Cls, go_sem])
  have F1 := C1
  simp only [Cls, and_true] at F1
  have y1w0 : w.heap.size < w1.heap.size := C1.blk (b := w.heap.size) (k := 0) (v := .slice none 0 0) (by simp)
  have y1wp1 : w.heap.size < w1.heap.size + 1 := (by omega)
  have y1wp2 : w.heap.size < w1.heap.size + 1 + 1 := (by omega)
  rw [hZe.out] at hA1
  clear k0 k1 k2 k3 k4 k5 k6 kb
  obtain ⟨k0, k1, k2, k3, k4, k5, k6⟩ := SBox.cells (HX.out.below (by repeat (first | with_reducible exact D1 | with_reducible apply bdrew | with_reducible apply bdrewN | with_reducible apply balloc | ((with_reducible refine bset ?_ ?_ _); rotate_left; (first | omega | (simp <;> omega))))))
  have kb := World.block_lt_of_cell? _ _ k0
  go_wp2_with fail
  refine (before_any _ b n t Ai Ag Ao S C Q ci cg co cs cc cq st left W (HX.out.below (by repeat (first | with_reducible exact D1 | with_reducible apply bdrew | with_reducible apply bdrewN | with_reducible apply balloc | ((with_reducible refine bset ?_ ?_ _); rotate_left; (first | omega | (simp <;> omega)))))) _ _ Z hA1.bools HZL.out).mono ?_
  rintro e w2 ⟨g2, rfl, hg2, hA2, hB2⟩
  have D2 := dstep w hB2 (by repeat (first | with_reducible exact D1 | with_reducible apply bdrew | with_reducible apply bdrewN | with_reducible apply balloc | ((with_reducible refine bset ?_ ?_ _); rotate_left; (first | omega | (simp <;> omega)))))
  have d2s := D2.size
  have C2 := Cls.below (l := [(w.heap.size, 0, .slice none 0 0), (w.heap.size, 1, .int .i64 0)]) hB2 (by simp [Cls, go_sem, F1, y1w0, y1wp1, y1wp2])
  have F2 := C2
  simp only [Cls, and_true] at F2
  have y2w0 : w.heap.size < w2.heap.size := C2.blk (b := w.heap.size) (k := 0) (v := .slice none 0 0) (by simp)
  have y2wp1 : w.heap.size < w2.heap.size + 1 := (by omega)
  have y2wp2 : w.heap.size < w2.heap.size + 1 + 1 := (by omega)
  rw [hBe.out] at hA2
  have hA1' := hA1.below (by repeat (first | with_reducible exact hB2 | with_reducible apply bdrew | with_reducible apply bdrewN | with_reducible apply balloc | ((with_reducible refine bset ?_ ?_ _); rotate_left; (first | omega | (simp <;> omega)))))
  clear k0 k1 k2 k3 k4 k5 k6 kb
  obtain ⟨k0, k1, k2, k3, k4, k5, k6⟩ := SBox.cells (HX.out.below (by repeat (first | with_reducible exact D2 | with_reducible apply bdrew | with_reducible apply bdrewN | with_reducible apply balloc | ((with_reducible refine bset ?_ ?_ _); rotate_left; (first | omega | (simp <;> omega))))))
  have kb := World.block_lt_of_cell? _ _ k0
  go_wp2_with fail
  go_loopg [22] (t.ops.length) (fun gk i wr => ∃ (k : Nat) (v : Value), i = .int .i64 k ∧ Hid (k + gk = t.ops.length) ∧ OwnI (w2.heap.size + 1) wr v (cutTo n W t.ops Z Bf k) ∧ Below w2.heap.size w2 wr ∧ Cls wr [(w.heap.size, 0, .slice none 0 0), (w.heap.size, 1, .int .i64 0), (w2.heap.size, 0, v), (w2.heap.size, 1, .int .i64 (minTo left (cutTo n W t.ops Z Bf k)))])
  case atStart =>
    refine ⟨0, .slice none 0 0, rfl, Lib.hid (by omega), OwnI.nil _ _, ?_⟩
    rw [minTo_zero]
    exact ⟨(by repeat (first | with_reducible exact Below.refl _ _ | with_reducible apply bdrew | with_reducible apply bdrewN | with_reducible apply balloc | ((with_reducible refine bset ?_ ?_ _); rotate_left; (first | omega | (simp <;> omega))))), (by simp [Cls, go_sem, F2, y2w0, y2wp1, y2wp2])⟩
  case round =>
    obtain ⟨k, v, rfl, hk, hown, hBs, hCs⟩ := hrel
    obtain ⟨g4, rfl⟩ : ∃ g : Nat, g = gk := ⟨_, rfl⟩
    obtain ⟨w4, rfl⟩ : ∃ wo : World, wo = wr := ⟨_, rfl⟩
    obtain ⟨mk, hmk⟩ : ∃ mk, Hid (minTo left (cutTo n W t.ops Z Bf k) = mk) := ⟨_, Lib.hid rfl⟩
    rw [hmk.out] at hCs
    have DW := D2.trans (hBs.mono D2.size)
    clear k0 k1 k2 k3 k4 k5 k6 kb
    obtain ⟨k0, k1, k2, k3, k4, k5, k6⟩ := SBox.cells (HX.out.below DW)
    have kb := World.block_lt_of_cell? _ _ k0
    have dss := hBs.size
    have Fs := hCs
    simp only [Cls, and_true] at Fs
    have ysw0 : w.heap.size < w4.heap.size := hCs.blk (b := w.heap.size) (k := 0) (v := .slice none 0 0) (by simp)
    have yswp1 : w.heap.size < w4.heap.size + 1 := (by omega)
    have yswp2 : w.heap.size < w4.heap.size + 1 + 1 := (by omega)
    have ysw20 : w2.heap.size < w4.heap.size := hCs.blk (b := w2.heap.size) (k := 0) (v := v) (by simp)
    have ysw2p1 : w2.heap.size < w4.heap.size + 1 := (by omega)
    have ysw2p2 : w2.heap.size < w4.heap.size + 1 + 1 := (by omega)
    by_cases hlt : k < t.ops.length
    · obtain ⟨ad, o, A0, c0, A1, c1', A2, c2, rfl, ho, hc0, hc1, hc2, hc3, hm⟩ := HX.out.mem.ops.at2 DW hlt
      have hoo := Lib.hid (HX.out.ops_ o (List.mem_of_getElem? ho.out))
      have hk1 := Lib.hid (show k + 1 + (g4 - 1) = t.ops.length ∧ g4 - 1 < g4 by have := hk.out; omega)
      obtain ⟨f, hf⟩ : ∃ f, Hid (hardV W n o.pre = f) := ⟨_, Lib.hid rfl⟩
      obtain ⟨f0, f1⟩ := hardV_in (vs := W) (n := (n : Int)) (by omega) hoo.out.1
      rw [hf.out] at f0 f1
      have hlk : k < left.length := by have := HX.out.lc; omega
      obtain ⟨cd, cv, rfl, hcv, hcc0⟩ := HX.out.ic.at_ hlk
      have hcbl := World.block_lt_of_cell? w _ hcc0
      go_wp2_with fail
      refine (hard_at (HX.out.below (by repeat (first | with_reducible exact DW | with_reducible apply bdrew | with_reducible apply bdrewN | with_reducible apply balloc | ((with_reducible refine bset ?_ ?_ _); rotate_left; (first | omega | (simp <;> omega)))))) _ _ _ (hm.pre.below (by repeat (first | with_reducible exact DW | with_reducible apply bdrew | with_reducible apply bdrewN | with_reducible apply balloc | ((with_reducible refine bset ?_ ?_ _); rotate_left; (first | omega | (simp <;> omega)))))) hm.lpre hoo.out.1 f hf.out).mono ?_
      rintro e w6 ⟨rfl, hB6⟩
      have D6 := dstep w2 hB6 (by repeat (first | with_reducible exact hBs | with_reducible apply bdrew | with_reducible apply bdrewN | with_reducible apply balloc | ((with_reducible refine bset ?_ ?_ _); rotate_left; (first | omega | (simp <;> omega)))))
      have d6s := D6.size
      have C6 := Cls.below (l := [(w.heap.size, 0, .slice none 0 0), (w.heap.size, 1, .int .i64 0), (w2.heap.size, 0, v), (w2.heap.size, 1, .int .i64 mk), (w4.heap.size, 0, .slice A0 o.pre.length c0), (w4.heap.size, 1, .slice A1 o.add.length c1'), (w4.heap.size, 2, .slice A2 o.del.length c2), (w4.heap.size, 3, .int .i64 o.cost)]) hB6 (by simp [Cls, go_sem, Fs, ysw0, yswp1, yswp2, ysw20, ysw2p1, ysw2p2])
      have F6 := C6
      simp only [Cls, and_true] at F6
      have y6w0 : w.heap.size < w6.heap.size := C6.blk (b := w.heap.size) (k := 0) (v := .slice none 0 0) (by simp)
      have y6wp1 : w.heap.size < w6.heap.size + 1 := (by omega)
      have y6wp2 : w.heap.size < w6.heap.size + 1 + 1 := (by omega)
      have y6w20 : w2.heap.size < w6.heap.size := C6.blk (b := w2.heap.size) (k := 0) (v := v) (by simp)
      have y6w2p1 : w2.heap.size < w6.heap.size + 1 := (by omega)
      have y6w2p2 : w2.heap.size < w6.heap.size + 1 + 1 := (by omega)
      have y6w40 : w4.heap.size < w6.heap.size := C6.blk (b := w4.heap.size) (k := 0) (v := .slice A0 o.pre.length c0) (by simp)
      have y6w4p1 : w4.heap.size < w6.heap.size + 1 := (by omega)
      have y6w4p2 : w4.heap.size < w6.heap.size + 1 + 1 := (by omega)
      have E6 := dstep w4 hB6 (by repeat (first | with_reducible exact Below.refl _ _ | with_reducible apply bdrew | with_reducible apply bdrewN | with_reducible apply balloc | ((with_reducible refine bset ?_ ?_ _); rotate_left; (first | omega | (simp <;> omega)))))
      clear k0 k1 k2 k3 k4 k5 k6 kb
      obtain ⟨k0, k1, k2, k3, k4, k5, k6⟩ := SBox.cells (HX.out.below (DW.trans (E6.mono DW.size)))
      have kb := World.block_lt_of_cell? _ _ k0
      have hown6 := hown.below E6
      have hA16 := hA1'.below D6
      have hA26 := hA2.below D6
      obtain ⟨yf, hyf, hyc, hyw⟩ := hA26.cell (i := f.toNat) (by have := HBL.out; omega)
      cases yf with
      | false =>
        have HS := Lib.hid (cut_skip (Z := Z) ho.out hf.out (.inl hyf.out))
        go_wp2
        go_roundg (g4 - 1)
        case measure => exact hk1.out.2
        case rel =>
          refine ⟨k + 1, v, by go_num, Lib.hid hk1.out.1, ?_, ?_⟩
          · rw [HS.out]; exact hown6
          · rw [HS.out, hmk.out]; exact ⟨(by repeat (first | with_reducible exact D6 | with_reducible apply bdrew | with_reducible apply bdrewN | with_reducible apply balloc | ((with_reducible refine bset ?_ ?_ _); rotate_left; (first | omega | (simp <;> omega))))), (by simp [Cls, go_sem, F6, y6w0, y6wp1, y6wp2, y6w20, y6w2p1, y6w2p2, y6w40, y6w4p1, y6w4p2])⟩
      | true =>
        have hlc' := hm.ladd.le
        have hadd6 := hm.add.below (DW.trans (E6.mono DW.size))
        go_wp2_with fail
        go_loop [38] (fun i => ∃ j : Nat, j ≤ o.add.length ∧ i = .int .i64 j ∧ Hid (∀ p ∈ o.add.take j, Z[p.toNat]? = some false)) (fun i => o.add.length - (intOf i).toNat)
        case atStart => exact ⟨0, Nat.zero_le _, rfl, Lib.hid (by simp)⟩
        case round =>
          obtain ⟨j, hj, rfl, hno⟩ := hrel
          by_cases hlj : j < o.add.length
          · obtain ⟨pd, p, rfl, hp, hpc⟩ := hadd6.at_ hlj
            obtain ⟨p0, p1⟩ := hoo.out.2 p (List.mem_of_getElem? hp.out)
            obtain ⟨z2, hz2, hzc2, hzw2⟩ := hA16.cell (i := p.toNat) (by have := HZL.out; omega)
            cases z2 with
            | false =>
              go_wp2
              go_round
              case rel => exact ⟨j + 1, by omega, by go_num, Lib.hid (forall_take_succ (P := fun p : Int => Z[p.toNat]? = some false) hp.out hno.out hz2.out)⟩
              case measure => simp [intOf]; omega
            | true =>
              have HT := Lib.hid (cut_take ho.out hf.out hyf.out (List.mem_of_getElem? hp.out) hz2.out)
              have HM := Lib.hid (show min mk cv = minTo left (cutTo n W t.ops Z Bf (k + 1)) by rw [← HT.out, minTo_snoc (by simpa using hcv.out), hmk.out])
              have hlen : (cutTo n W t.ops Z Bf k).length < 1000000000000 := by have := cutTo_len (n := n) (W := W) (ops := t.ops) (Z := Z) (B := Bf) k; omega
              obtain ⟨mn, hmn⟩ : ∃ mn, Hid (min mk cv = mn) := ⟨_, Lib.hid rfl⟩
              go_wp2_with (at_builtin; go_must (refine wpList_push rfl (.tmp 47) (.tmp 49) rfl w2 [(w.heap.size, 0, .slice none 0 0), (w.heap.size, 1, .int .i64 0), (w2.heap.size, 0, v), (w2.heap.size, 1, .int .i64 mk)] (w2.heap.size + 1) v _ ((k : Int)) rfl (OwnI.below hown6 ?p1) ⟨w6.heap.size, 0, none⟩ 1 rfl ?p2 hlen ?p3 ?p4 ?p5 ?p6 ?p7 ?_; (case p1 => repeat (first | with_reducible exact Below.refl _ _ | with_reducible apply bdrew | with_reducible apply bdrewN | with_reducible apply balloc | ((with_reducible refine bset ?_ ?_ _); rotate_left; (first | omega | (simp <;> omega))))); (case p2 => simp [Cls, go_sem, F6, y6w0, y6wp1, y6wp2, y6w20, y6w2p1, y6w2p2, y6w40, y6w4p1, y6w4p2]); (case p3 => (first | omega | (simp <;> omega))); (case p4 => (first | omega | (simp <;> omega))); (case p5 => repeat (first | with_reducible exact D6 | with_reducible apply bdrew | with_reducible apply bdrewN | with_reducible apply balloc | ((with_reducible refine bset ?_ ?_ _); rotate_left; (first | omega | (simp <;> omega))))); (case p6 => simp [Cls, go_sem, F6, y6w0, y6wp1, y6wp2, y6w20, y6w2p1, y6w2p2, y6w40, y6w4p1, y6w4p2]); (case p7 => (simp <;> omega)); intro v7 w7 o7 D7 C7 sz7; have d7s := D7.size; have F7 := C7; simp only [Cls, and_true] at F7; have y7w0 : w.heap.size < w7.heap.size := C7.blk (b := w.heap.size) (k := 0) (v := .slice none 0 0) (by simp); have y7wp1 : w.heap.size < w7.heap.size + 1 := (by omega); have y7wp2 : w.heap.size < w7.heap.size + 1 + 1 := (by omega); have y7w20 : w2.heap.size < w7.heap.size := C7.blk (b := w2.heap.size) (k := 0) (v := v) (by simp); have y7w2p1 : w2.heap.size < w7.heap.size + 1 := (by omega); have y7w2p2 : w2.heap.size < w7.heap.size + 1 + 1 := (by omega); obtain ⟨n7, hn7⟩ : ∃ n7 : Nat, Hid ((cutTo n W t.ops Z Bf k ++ [(k : Int)]).length = n7) := ⟨_, Lib.hid rfl⟩; obtain ⟨A7, c7, e7, -⟩ := o7.form_at hn7.out; subst e7; have DZ : Below w.heap.size w (w7.setCell ⟨w2.heap.size, 0, none⟩ (.slice A7 n7 c7)) := (by repeat (first | with_reducible exact (D2.trans (D7.mono D2.size)) | with_reducible apply bdrew | with_reducible apply bdrewN | with_reducible apply balloc | ((with_reducible refine bset ?_ ?_ _); rotate_left; (first | omega | (simp <;> omega))))); clear k0 k1 k2 k3 k4 k5 k6 kb; obtain ⟨k0, k1, k2, k3, k4, k5, k6⟩ := SBox.cells (HX.out.below DZ); have hccZ := (DZ.cell hcbl).trans hcc0))
              refine region_still_tail 11 (by kernel_rfl) (by kernel_rfl) ?_
              simp only [List.take_succ_cons, List.take_zero, List.drop_succ_cons, List.drop_zero]
              repeat still_step
              refine wpStill_nil ?_
              go_wp2
              all_goals
                go_roundg (g4 - 1)
                case measure => exact hk1.out.2
                case rel =>
                  refine ⟨k + 1, .slice A7 n7 c7, by go_num, Lib.hid hk1.out.1, ?_, ?_⟩
                  · rw [← HT.out]
                    repeat (first | with_reducible exact o7 | (with_reducible refine OwnI.far ?_ ?_ _; rotate_left; (first | omega | (simp <;> omega))) | with_reducible refine OwnI.drew' ?_)
                  · first | rw [show minTo left (cutTo n W t.ops Z Bf (k + 1)) = mk by rw [← HM.out]; omega] | rw [show minTo left (cutTo n W t.ops Z Bf (k + 1)) = cv by rw [← HM.out]; omega]
                    exact ⟨(by repeat (first | with_reducible exact D7 | with_reducible apply bdrew | with_reducible apply bdrewN | with_reducible apply balloc | ((with_reducible refine bset ?_ ?_ _); rotate_left; (first | omega | (simp <;> omega))))), (by simp [Cls, go_sem, F7, y7w0, y7wp1, y7wp2, y7w20, y7w2p1, y7w2p2])⟩
          · have HF := Lib.hid (forall_take_all hlj hno.out)
            have HS := Lib.hid (cut_skip (B := Bf) ho.out hf.out (.inr HF.out))
            go_wp2
            go_roundg (g4 - 1)
            case measure => exact hk1.out.2
            case rel =>
              refine ⟨k + 1, v, by go_num, Lib.hid hk1.out.1, ?_, ?_⟩
              · rw [HS.out]; exact hown6
              · rw [HS.out, hmk.out]; exact ⟨(by repeat (first | with_reducible exact D6 | with_reducible apply bdrew | with_reducible apply bdrewN | with_reducible apply balloc | ((with_reducible refine bset ?_ ?_ _); rotate_left; (first | omega | (simp <;> omega))))), (by simp [Cls, go_sem, F6, y6w0, y6wp1, y6wp2, y6w20, y6w2p1, y6w2p2, y6w40, y6w4p1, y6w4p2])⟩
    · have hkk := Lib.hid (show cutTo n W t.ops Z Bf k = cutV n W t.ops Z Bf by unfold cutV; rw [show k = t.ops.length by have := hk.out; omega])
      rw [hkk.out] at hown
      have hmk2 := Lib.hid (show minTo left (cutV n W t.ops Z Bf) = mk by rw [← hmk.out, hkk.out])
      obtain ⟨A5, c5, rfl, -⟩ := hown.form_at rfl
      go_wp2
      refine bodyPost_ret (v := .agg #[.slice A5 (cutV n W t.ops Z Bf).length c5, .int .i64 mk]) ?_ rfl ⟨_, by rw [hZe.out, hBe.out, hmk2.out], ?_, by repeat (first | with_reducible exact DW | with_reducible apply bdrew | with_reducible apply bdrewN | with_reducible apply balloc | ((with_reducible refine bset ?_ ?_ _); rotate_left; (first | omega | (simp <;> omega))))⟩
      · simp [results, Try.results110, go_sem, Fs, ysw0, yswp1, yswp2, ysw20, ysw2p1, ysw2p2]
      · rw [hZe.out, hBe.out]
        refine OwnI.mono (base := w2.heap.size + 1) ?_ (by omega)
        repeat (first | with_reducible exact hown | (with_reducible refine OwnI.far ?_ ?_ _; rotate_left; (first | omega | (simp <;> omega))) | with_reducible refine OwnI.drew' ?_)


end Go.Proofs.Ytihkgdlanfemcaa
