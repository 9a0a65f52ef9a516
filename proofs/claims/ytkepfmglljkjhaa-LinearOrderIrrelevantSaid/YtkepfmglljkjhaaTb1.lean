/-
  (*tableau).pivot: a pivot step in memory.
-/
import Derived.Test.YtkepfmglljkjhaaTm
namespace Go.Proofs.Ytkepfmglljkjhaa
open Go.RowKit
set_option linter.unusedVariables false
set_option linter.unusedSimpArgs false

/-- The entries while row i is at column j. -/
def pivP (T X : Nat → Nat → Int) (r i j : Nat) : Nat → Nat → Int := fun a b => if a ≠ r ∧ (a < i ∨ (a = i ∧ b < j)) then X a b else T a b
theorem pivP_start (T X : Nat → Nat → Int) (r a b : Nat) : pivP T X r 0 0 a b = T a b := by unfold pivP; rw [if_neg (by omega)]
theorem pivP_skip (T X : Nat → Nat → Int) (r a b : Nat) : pivP T X r (r + 1) 0 a b = pivP T X r r 0 a b := by
  unfold pivP
  by_cases e : a ≠ r ∧ (a < r ∨ a = r ∧ b < 0)
  · rw [if_pos e, if_pos (by omega)]
  · rw [if_neg e, if_neg (by omega)]
theorem pivP_step (T X : Nat → Nat → Int) {r i j a b : Nat} (h : i ≠ r) : pivP T X r i (j + 1) a b = if a = i ∧ b = j then X i j else pivP T X r i j a b := by
  unfold pivP
  by_cases e : a = i ∧ b = j
  · obtain ⟨rfl, rfl⟩ := e
    rw [if_pos (by omega), if_pos ⟨rfl, rfl⟩]
  · rw [if_neg e]
    by_cases e2 : a ≠ r ∧ (a < i ∨ a = i ∧ b < j)
    · rw [if_pos e2, if_pos (by omega)]
    · rw [if_neg e2, if_neg (by omega)]
theorem pivP_row (T X : Nat → Nat → Int) {r i N a b : Nat} (h : b < N) : pivP T X r (i + 1) 0 a b = pivP T X r i N a b := by
  unfold pivP
  by_cases e : a ≠ r ∧ (a < i ∨ a = i ∧ b < N)
  · rw [if_pos e, if_pos (by omega)]
  · rw [if_neg e, if_neg (by omega)]
theorem pivP_end {T X : Nat → Nat → Int} {r M a b : Nat} (h : a < M) (hr : ∀ j, X r j = T r j) : pivP T X r M 0 a b = X a b := by
  unfold pivP
  by_cases e : a = r
  · subst e; rw [if_neg (by omega)]; exact (hr b).symm
  · rw [if_pos (by omega)]
theorem pivP_at (T X : Nat → Nat → Int) (r i j : Nat) : pivP T X r i j i j = T i j := by unfold pivP; rw [if_neg (by omega)]
theorem pivP_r (T X : Nat → Nat → Int) (r i j b : Nat) : pivP T X r i j r b = T r b := by unfold pivP; rw [if_neg (by omega)]
theorem pivP_same (T X : Nat → Nat → Int) (r i b : Nat) : pivP T X r i 0 i b = T i b := by unfold pivP; rw [if_neg (by omega)]
def negP (X : Nat → Nat → Int) (i j : Nat) : Nat → Nat → Int := fun a b => if a < i ∨ (a = i ∧ b < j) then - X a b else X a b
theorem negP_start (X : Nat → Nat → Int) (a b : Nat) : negP X 0 0 a b = X a b := by unfold negP; rw [if_neg (by omega)]
theorem negP_at (X : Nat → Nat → Int) (i j : Nat) : negP X i j i j = X i j := by unfold negP; rw [if_neg (by omega)]
theorem negP_step (X : Nat → Nat → Int) {i j a b : Nat} : negP X i (j + 1) a b = if a = i ∧ b = j then - X i j else negP X i j a b := by
  unfold negP
  by_cases e : a = i ∧ b = j
  · obtain ⟨rfl, rfl⟩ := e
    rw [if_pos (by omega), if_pos ⟨rfl, rfl⟩]
  · rw [if_neg e]
    by_cases e2 : a < i ∨ a = i ∧ b < j
    · rw [if_pos e2, if_pos (by omega)]
    · rw [if_neg e2, if_neg (by omega)]
theorem negP_row (X : Nat → Nat → Int) {i N a b : Nat} (h : b < N) : negP X (i + 1) 0 a b = negP X i N a b := by
  unfold negP
  by_cases e : a < i ∨ a = i ∧ b < N
  · rw [if_pos e, if_pos (by omega)]
  · rw [if_neg e, if_neg (by omega)]
theorem negP_end (X : Nat → Nat → Int) {M a b : Nat} (h : a < M) : negP X M 0 a b = - X a b := by unfold negP; rw [if_pos (by omega)]
set_option maxRecDepth 100000 in
set_option maxHeartbeats 4000000 in
theorem piv_walk (w : World) (base : Nat) (L : TbLay) (m N : Nat) (bs : Nat → Nat) (T X : Nat → Nat → Int) (den p : Int) (r c : Nat) (hM : TbMem base w L m N bs T den) (hb : base ≤ w.heap.size) (hr : r < m) (hc : c < N) (hp : T r c = p) (hX : ∀ i j, i < m + 2 → j < N → i ≠ r → (T i j * p - T i c * T r j).tdiv den = X i j) (hXr : ∀ j, X r j = T r j) (hd0 : 0 < den) (hd1 : den ≤ 1000000000) (hTB : ∀ i j, i < m + 2 → j < N → -1000000000 ≤ T i j ∧ T i j ≤ 1000000000) (hXB : ∀ i j, i < m + 2 → j < N → -1000000000 ≤ X i j ∧ X i j ≤ 1000000000) (hm6 : m ≤ 6) (hN : N ≤ 100) :
    Calls Try.prog 51 #[.pointer (some ⟨L.b, 0, none⟩), .int .i64 r, .int .i64 c] w fun e w' => e = .returned (.tuple #[]) ∧ TbMem base w' L m N (LA.pivB bs r c) (fun i j => if p < 0 then - X i j else X i j) (if p < 0 then -p else p) ∧ Below base w w' := by
  have HX := Lib.hid hX
  have HXR := Lib.hid hXr
  have HTB := Lib.hid hTB
  have HXB := Lib.hid hXB
  have hcr := (hM.cell (i := r) (j := c) (by omega) hc).1
  rw [hp] at hcr
  have HP := Lib.hid hp
  have hpb : -1000000000 ≤ p ∧ p ≤ 1000000000 := by rw [← hp]; exact hTB r c (by omega) hc
  obtain ⟨hpb1, hpb2⟩ := hpb
  have hr2 : r < m + 2 := by omega
  have hr3 : (r : Int) < (m : Int) + 2 := by omega
  have hx0 := hM.box0
  have hxr := hM.out r (by omega)
  have hsb := hM.sepB
  obtain ⟨hsb1, hsb2, hsb3, hsb4⟩ := hsb
  clear hX hXr hTB hXB hp
  go_enter Try.func51, Try.ntmps51
  go_wp2_with fail
  go_loopw [29] (fun x wr => ∃ i : Nat, i ≤ m + 2 ∧ x = .int .i64 i ∧ TbMem base wr L m N bs (pivP T X r i 0) den ∧ Below base w wr) (fun x _ => m + 2 - (intOf x).toNat)
  case atStart => exact ⟨0, Nat.zero_le _, rfl, (hM.below (by repeat (first | with_reducible exact Below.refl _ _ | with_reducible apply bdrew | with_reducible apply bdrewN | with_reducible apply balloc | ((with_reducible refine bset ?_ ?_ _); rotate_left; (first | omega | (simp <;> omega)))))).congr (fun _ _ => rfl) (fun a _ c _ => pivP_start T X r a c), by repeat (first | with_reducible exact Below.refl _ _ | with_reducible apply bdrew | with_reducible apply bdrewN | with_reducible apply balloc | ((with_reducible refine bset ?_ ?_ _); rotate_left; (first | omega | (simp <;> omega))))⟩
  case round =>
    obtain ⟨i, hi, rfl, hM1, hB1⟩ := hrel
    obtain ⟨w1, rfl⟩ : ∃ wo : World, wo = wr := ⟨_, rfl⟩
    by_cases hlt : i < m + 2
    · have ho := hM1.out i hlt
      by_cases hir : i = r
      · subst hir
        go_wp2
        go_roundw
        case rel => exact ⟨i + 1, by omega, by go_num, (hM1.below (by repeat (first | with_reducible exact Below.refl _ _ | with_reducible apply bdrew | with_reducible apply bdrewN | with_reducible apply balloc | ((with_reducible refine bset ?_ ?_ _); rotate_left; (first | omega | (simp <;> omega)))))).congr (fun _ _ => rfl) (fun a _ c _ => pivP_skip T X i a c), hB1⟩
        case measure => simp [intOf]; omega
      · have hir' : ¬ ((i : Int) = (r : Int)) := by omega
        have hrc := (hM1.cell (i := i) (j := c) hlt hc).1
        have e1 : pivP T X r i 0 i c = T i c := pivP_same T X r i c
        rw [e1] at hrc
        obtain ⟨q, hq⟩ : ∃ q, Hid (T i c = q) := ⟨_, Lib.hid rfl⟩
        have hqb := HTB.out i c hlt hc
        rw [hq.out] at hrc hqb
        obtain ⟨hqb1, hqb2⟩ := hqb
        clear e1
        go_wp2_with fail
        (try simp only [show decide ((i : Int) < (m : Int) + 2) = true from decide_eq_true (by omega), show ((i : Int) == (r : Int)) = false from beq_eq_false_iff_ne.2 (by omega)])
        go_loopw [43] (fun x wr => ∃ j : Nat, j ≤ N ∧ x = .int .i64 j ∧ TbMem base wr L m N bs (pivP T X r i j) den ∧ Below base w wr) (fun x _ => N - (intOf x).toNat)
        case atStart => exact ⟨0, Nat.zero_le _, rfl, hM1.below (by repeat (first | with_reducible exact Below.refl _ _ | with_reducible apply bdrew | with_reducible apply bdrewN | with_reducible apply balloc | ((with_reducible refine bset ?_ ?_ _); rotate_left; (first | omega | (simp <;> omega))))), hB1⟩
        case round =>
          obtain ⟨j, hj, rfl, hM2, hB2⟩ := hrel
          obtain ⟨w2, rfl⟩ : ∃ wo : World, wo = wr := ⟨_, rfl⟩
          by_cases hlt2 : j < N
          · have hcc := hM2.cell (i := i) (j := j) hlt hlt2
            have hcd := (hM2.cell (i := r) (j := j) (by omega) hlt2).1
            have e1 : pivP T X r i j i j = T i j := pivP_at T X r i j
            have e2 : pivP T X r i j r j = T r j := pivP_r T X r i j j
            rw [e1] at hcc
            rw [e2] at hcd
            obtain ⟨hcc1, hcc2⟩ := hcc
            have hy0 := hM2.box0
            have hy2 := hM2.box2
            have hyr := hM2.out r (by omega)
            have hAB := HTB.out i j hlt hlt2
            have hDB := HTB.out r j (by omega) hlt2
            have hXE := HX.out i j hlt hlt2 hir
            rw [hq.out] at hXE
            obtain ⟨a, ha⟩ : ∃ a, Hid (T i j = a) := ⟨_, Lib.hid rfl⟩
            obtain ⟨d, hd⟩ : ∃ d, Hid (T r j = d) := ⟨_, Lib.hid rfl⟩
            obtain ⟨x, hx⟩ : ∃ x, Hid (X i j = x) := ⟨_, Lib.hid rfl⟩
            rw [ha.out] at hcc1 hAB hXE
            rw [hd.out] at hcd hDB hXE
            rw [hx.out] at hXE
            have hm1 := LA.abs_mul hAB ⟨hpb1, hpb2⟩
            have hm2 := LA.abs_mul ⟨hqb1, hqb2⟩ hDB
            obtain ⟨hm3, hm4⟩ := hm1
            obtain ⟨hm5, hm6'⟩ := hm2
            clear e1 e2 hAB hDB
            have hblk := (hM2.sep i hlt).1
            have hdne : ¬ den = 0 := by omega
            go_wp2_with fail
            refine region_still_tail 27 (by kernel_rfl) (by kernel_rfl) ?_
            simp only [List.take_succ_cons, List.take_zero, List.drop_succ_cons, List.drop_zero]
            repeat still_step
            refine wpStill_nil ?_
            go_wp2
            go_roundw
            case rel => exact ⟨j + 1, by omega, by go_num, ((hM2.set hlt x (j := j) (T' := pivP T X r i (j + 1)) (fun a' _ c' _ => by rw [pivP_step T X hir, hx.out])).below (by repeat (first | with_reducible exact Below.refl _ _ | with_reducible apply bdrew | with_reducible apply bdrewN | with_reducible apply balloc | ((with_reducible refine bset ?_ ?_ _); rotate_left; (first | omega | (simp <;> omega)))))), by repeat (first | with_reducible exact hB2 | with_reducible apply bdrew | with_reducible apply bdrewN | with_reducible apply balloc | ((with_reducible refine bset ?_ ?_ _); rotate_left; (first | omega | (simp <;> omega))))⟩
            case measure => simp [intOf]; omega
          · obtain rfl : j = N := by omega
            go_wp2
            go_roundw
            case rel => exact ⟨i + 1, by omega, by go_num, (hM2.below (by repeat (first | with_reducible exact Below.refl _ _ | with_reducible apply bdrew | with_reducible apply bdrewN | with_reducible apply balloc | ((with_reducible refine bset ?_ ?_ _); rotate_left; (first | omega | (simp <;> omega)))))).congr (fun _ _ => rfl) (fun a' _ c' hc' => pivP_row T X hc'), by repeat (first | with_reducible exact hB2 | with_reducible apply bdrew | with_reducible apply bdrewN | with_reducible apply balloc | ((with_reducible refine bset ?_ ?_ _); rotate_left; (first | omega | (simp <;> omega))))⟩
            case measure => simp [intOf]; omega
    · obtain rfl : i = m + 2 := by omega
      have hM3 : TbMem base w1 L m N bs X den := hM1.congr (fun _ _ => rfl) (fun a' ha' c' hc' => (pivP_end ha' HXR.out).symm)
      obtain ⟨g, hA, hg1, hg2, hg3, hg4⟩ := hM3.bas hr
      have hz1 := hM3.box1
      rw [hA] at hz1
      have hz2 := hM3.box2
      have hz3 := hM3.free2
      have hz0 := hM3.box0
      have hgb := hsb4 _ hA
      obtain ⟨hgb1, hgb2⟩ := hgb
      have hgb1 : ¬ g = L.b := hgb1
      have hgb1' : ¬ L.b = g := fun e => hgb1 e.symm
      have hM4 := ((hM3.setBas hA c (r := r)).setDen p)
      have hne0 : ¬ L.gR = L.b := fun e => hsb3 e.symm
      by_cases hpn : p < 0
      · have hM5 := hM4.setDen (-p)
        have HPN := Lib.hid hpn
        have HM5 := Lib.hid hM5
        have hf3 : ((w1.setCell ⟨g, r, none⟩ (.int .i64 c)).setCell ⟨L.b, 2, none⟩ (.int .i64 p)).cell? ⟨L.b, 0, none⟩ = some (.slice (some ⟨L.gR, 0, none⟩) (m + 2) L.cR) := hM4.box0
        have hf4 := hM5.box0
        have hf5 := hM4.free2
        clear hM4 hM5
        go_wp2_with fail
        go_loopw [98] (fun x wr => ∃ i : Nat, i ≤ m + 2 ∧ x = .int .i64 i ∧ TbMem base wr L m N (LA.pivB bs r c) (negP X i 0) (-p) ∧ Below base w wr) (fun x _ => m + 2 - (intOf x).toNat)
        case atStart => exact ⟨0, Nat.zero_le _, rfl, (HM5.out.below (by repeat (first | with_reducible exact Below.refl _ _ | with_reducible apply bdrew | with_reducible apply bdrewN | with_reducible apply balloc | ((with_reducible refine bset ?_ ?_ _); rotate_left; (first | omega | (simp <;> omega)))))).congr (fun _ _ => rfl) (fun a _ c _ => negP_start X a c), by repeat (first | with_reducible exact hB1 | with_reducible apply bdrew | with_reducible apply bdrewN | with_reducible apply balloc | ((with_reducible refine bset ?_ ?_ _); rotate_left; (first | omega | (simp <;> omega))))⟩
        case round =>
          obtain ⟨i, hi, rfl, hN1, hB3⟩ := hrel
          obtain ⟨w3, rfl⟩ : ∃ wo : World, wo = wr := ⟨_, rfl⟩
          by_cases hlt : i < m + 2
          · have ho := hN1.out i hlt
            go_wp2_with fail
            (try simp only [show decide ((i : Int) < (m : Int) + 2) = true from decide_eq_true (by omega)])
            go_loopw [104] (fun x wr => ∃ j : Nat, j ≤ N ∧ x = .int .i64 j ∧ TbMem base wr L m N (LA.pivB bs r c) (negP X i j) (-p) ∧ Below base w wr) (fun x _ => N - (intOf x).toNat)
            case atStart => exact ⟨0, Nat.zero_le _, rfl, hN1.below (by repeat (first | with_reducible exact Below.refl _ _ | with_reducible apply bdrew | with_reducible apply bdrewN | with_reducible apply balloc | ((with_reducible refine bset ?_ ?_ _); rotate_left; (first | omega | (simp <;> omega))))), hB3⟩
            case round =>
              obtain ⟨j, hj, rfl, hN2, hB4⟩ := hrel
              obtain ⟨w4, rfl⟩ : ∃ wo : World, wo = wr := ⟨_, rfl⟩
              by_cases hlt2 : j < N
              · have hcc := hN2.cell (i := i) (j := j) hlt hlt2
                have hAB := HXB.out i j hlt hlt2
                rw [negP_at] at hcc
                obtain ⟨a, ha⟩ : ∃ a, Hid (X i j = a) := ⟨_, Lib.hid rfl⟩
                rw [ha.out] at hcc hAB
                obtain ⟨hcc1, hcc2⟩ := hcc
                obtain ⟨hAB1, hAB2⟩ := hAB
                have hblk := (hN2.sep i hlt).1
                go_wp2
                go_roundw
                case rel => exact ⟨j + 1, by omega, by go_num, ((hN2.set hlt (-a) (j := j) (T' := negP X i (j + 1)) (fun a' _ c' _ => by rw [negP_step, ha.out])).below (by repeat (first | with_reducible exact Below.refl _ _ | with_reducible apply bdrew | with_reducible apply bdrewN | with_reducible apply balloc | ((with_reducible refine bset ?_ ?_ _); rotate_left; (first | omega | (simp <;> omega)))))), by repeat (first | with_reducible exact hB4 | with_reducible apply bdrew | with_reducible apply bdrewN | with_reducible apply balloc | ((with_reducible refine bset ?_ ?_ _); rotate_left; (first | omega | (simp <;> omega))))⟩
                case measure => simp [intOf]; omega
              · obtain rfl : j = N := by omega
                go_wp2
                go_roundw
                case rel => exact ⟨i + 1, by omega, by go_num, (hN2.below (by repeat (first | with_reducible exact Below.refl _ _ | with_reducible apply bdrew | with_reducible apply bdrewN | with_reducible apply balloc | ((with_reducible refine bset ?_ ?_ _); rotate_left; (first | omega | (simp <;> omega)))))).congr (fun _ _ => rfl) (fun a' _ c' hc' => negP_row X hc'), by repeat (first | with_reducible exact hB4 | with_reducible apply bdrew | with_reducible apply bdrewN | with_reducible apply balloc | ((with_reducible refine bset ?_ ?_ _); rotate_left; (first | omega | (simp <;> omega))))⟩
                case measure => simp [intOf]; omega
          · obtain rfl : i = m + 2 := by omega
            go_wp2
            go_end0
            refine ⟨rfl, (hN1.below (by repeat (first | with_reducible exact Below.refl _ _ | with_reducible apply bdrew | with_reducible apply bdrewN | with_reducible apply balloc | ((with_reducible refine bset ?_ ?_ _); rotate_left; (first | omega | (simp <;> omega)))))).congr (fun _ _ => rfl) (fun a' ha' c' _ => ?_), by repeat (first | with_reducible exact hB3 | with_reducible apply bdrew | with_reducible apply bdrewN | with_reducible apply balloc | ((with_reducible refine bset ?_ ?_ _); rotate_left; (first | omega | (simp <;> omega))))⟩
            rw [negP_end X ha']
      · have hpn' : decide (p < 0) = false := decide_eq_false hpn
        go_wp2
        go_end0
        exact ⟨rfl, hM4, by repeat (first | with_reducible exact hB1 | with_reducible apply bdrew | with_reducible apply bdrewN | with_reducible apply balloc | ((with_reducible refine bset ?_ ?_ _); rotate_left; (first | omega | (simp <;> omega))))⟩

theorem pivot_any (w : World) (base : Nat) (L : TbLay) (P : LA.LP) (s : LA.St) (hP : LA.LPIn P) (ht : LA.Tabl P s.bs s.T s.den) (hM : TbMem base w L P.m P.N s.bs s.T s.den) (hb : base ≤ w.heap.size) (r c : Nat) (hr : r < P.m) (hc : c ≤ P.n + P.m) (hne : s.T r c ≠ 0) :
    Calls Try.prog 51 #[.pointer (some ⟨L.b, 0, none⟩), .int .i64 r, .int .i64 c] w fun e w' => e = .returned (.tuple #[]) ∧ TbMem base w' L P.m P.N (s.piv r c).bs (s.piv r c).T (s.piv r c).den ∧ Below base w w' := by
  have hcN : c < P.N := by unfold LA.LP.N; omega
  have ht2 := ht.pivot hr hc hne
  have hle := ht.le_den hP
  have hN14 : P.N ≤ 100 := by unfold LA.LP.N; have := hP.m; have := hP.n; omega
  refine (piv_walk w base L P.m P.N s.bs s.T (LA.pivQ s.T s.den r c) s.den (s.T r c) r c hM hb hr hcN rfl (fun i j _ _ hir => ?_) (fun j => ?_) ht.pos (by omega) (fun i j hi hj => ?_) (fun i j hi hj => ?_) hP.m hN14).mono fun e w' h => ⟨h.1, h.2.1.congr (fun _ _ => rfl) (fun _ _ _ _ => rfl), h.2.2⟩
  · unfold LA.pivQ; rw [if_neg hir]
  · unfold LA.pivQ; rw [if_pos rfl]
  · have := ht.le hP hi hj; omega
  · have := ht2.le hP hi hj
    unfold LA.pivT at this
    split at this <;> omega

end Go.Proofs.Ytkepfmglljkjhaa
