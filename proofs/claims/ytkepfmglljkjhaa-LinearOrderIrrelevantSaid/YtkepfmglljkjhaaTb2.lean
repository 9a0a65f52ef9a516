/-
  (*tableau).leaving: the row that leaves.
-/
import Derived.Test.YtkepfmglljkjhaaTb1
namespace Go.Proofs.Ytkepfmglljkjhaa
open Go.RowKit
set_option linter.unusedVariables false
set_option linter.unusedSimpArgs false

/-- What is found among the first rows. -/
def LvTo (m l : Nat) (bs : Nat → Nat) (T : Nat → Nat → Int) (c i : Nat) (b : Int) : Prop :=
  (b = -1 ∧ ∀ k, k < i → T k c ≤ 0) ∨ ∃ r : Nat, b = r ∧ r < m ∧ r < i ∧ 0 < T r c ∧ ∀ k, k < i → 0 < T k c → T r l * T k c < T k l * T r c ∨ (T r l * T k c = T k l * T r c ∧ bs r ≤ bs k)
section
variable {m l : Nat} {bs : Nat → Nat} {T : Nat → Nat → Int} {c i : Nat} {b : Int}
theorem LvTo.skip (h : LvTo m l bs T c i b) (hi : T i c ≤ 0) : LvTo m l bs T c (i + 1) b := by
  rcases h with ⟨h1, h2⟩ | ⟨r, h1, h2, h3, h4, h5⟩
  · refine .inl ⟨h1, fun k hk => ?_⟩
    by_cases e : k = i
    · rw [e]; exact hi
    · exact h2 k (by omega)
  · refine .inr ⟨r, h1, h2, by omega, h4, fun k hk hp => ?_⟩
    by_cases e : k = i
    · rw [e] at hp; omega
    · exact h5 k (by omega) hp
theorem LvTo.first (h : LvTo m l bs T c i (-1)) (him : i < m) (hi : 0 < T i c) : LvTo m l bs T c (i + 1) (i : Int) := by
  rcases h with ⟨_, h2⟩ | ⟨r, h1, _⟩
  · refine .inr ⟨i, rfl, him, by omega, hi, fun k hk hp => ?_⟩
    by_cases e : k = i
    · rw [e]; exact .inr ⟨rfl, Nat.le_refl _⟩
    · have := h2 k (by omega); omega
  · omega
theorem LvTo.keep {r : Nat} (h : LvTo m l bs T c i (r : Int)) (hi : 0 < T i c) (hn : ¬ (T i l * T r c < T r l * T i c ∨ (T i l * T r c = T r l * T i c ∧ bs i < bs r))) : LvTo m l bs T c (i + 1) (r : Int) := by
  rcases h with ⟨h1, _⟩ | ⟨q, h1, h2, h3, h4, h5⟩
  · omega
  · obtain rfl : r = q := by omega
    refine .inr ⟨r, rfl, h2, by omega, h4, fun k hk hp => ?_⟩
    by_cases e : k = i
    · rw [e]
      by_cases e2 : T i l * T r c = T r l * T i c
      · exact .inr ⟨e2.symm, by omega⟩
      · exact .inl (by omega)
    · exact h5 k (by omega) hp
theorem LvTo.next {r : Nat} (h : LvTo m l bs T c i (r : Int)) (him : i < m) (hi : 0 < T i c) (hn : T i l * T r c < T r l * T i c ∨ (T i l * T r c = T r l * T i c ∧ bs i < bs r)) : LvTo m l bs T c (i + 1) (i : Int) := by
  rcases h with ⟨h1, _⟩ | ⟨q, h1, h2, h3, h4, h5⟩
  · omega
  · obtain rfl : r = q := by omega
    refine .inr ⟨i, rfl, him, by omega, hi, fun k hk hp => ?_⟩
    by_cases e : k = i
    · rw [e]; exact .inr ⟨rfl, Nat.le_refl _⟩
    · have h6 := h5 k (by omega) hp
      -- the products with the middle row
      have m1 : T i l * T k c * T r c = T i l * T r c * T k c := by grind
      have m2 : T k l * T i c * T r c = T k l * T r c * T i c := by grind
      have m3 : T r l * T i c * T k c = T r l * T k c * T i c := by grind
      rcases hn with hn | ⟨hn, hb⟩
      · left
        have a1 := Int.mul_lt_mul_of_pos_right hn hp
        have a2 : T r l * T k c * T i c ≤ T k l * T r c * T i c := Int.mul_le_mul_of_nonneg_right (by omega) (Int.le_of_lt hi)
        exact Int.lt_of_mul_lt_mul_right (a := T r c) (by omega) (Int.le_of_lt h4)
      · rcases h6 with h6 | ⟨h6, h7⟩
        · left
          have a2 := Int.mul_lt_mul_of_pos_right h6 hi
          exact Int.lt_of_mul_lt_mul_right (a := T r c) (by rw [m1, m2, hn, m3]; exact a2) (Int.le_of_lt h4)
        · right
          refine ⟨Int.eq_of_mul_eq_mul_right (a := T r c) (by omega) (by rw [m1, m2, hn, m3, h6]), by omega⟩
end
set_option maxRecDepth 100000 in
set_option maxHeartbeats 4000000 in
theorem leaving_walk (w : World) (base : Nat) (L : TbLay) (m n : Nat) (bs : Nat → Nat) (T : Nat → Nat → Int) (den : Int) (c : Nat) (hM : TbMem base w L m (n + 1) bs T den) (hc : c < n + 1) (hTB : ∀ i j, i < m + 2 → j < n + 1 → -1000000000 ≤ T i j ∧ T i j ≤ 1000000000) (hm6 : m ≤ 6) (hN : n ≤ 100) :
    Calls Try.prog 53 #[.pointer (some ⟨L.b, 0, none⟩), .int .i64 c] w fun e w' => ∃ b : Int, e = .returned (.int .i64 b) ∧ LvTo m n bs T c m b ∧ Below w.heap.size w w' := by
  obtain ⟨Lb, LgR, LcR, Lblk, LAB, LcB⟩ := L
  have HTB := Lib.hid hTB
  have hx0 := hM.box0
  have hx1 := hM.box1
  dsimp only at hx0 hx1
  clear hTB
  go_enter Try.func53, Try.ntmps53
  go_wp2_with fail
  go_loopw [5, 16] (fun s x wr => ∃ (i : Nat) (b : Int), i ≤ m ∧ x = .int .i64 i ∧ s = .int .i64 b ∧ Hid (LvTo m n bs T c i b) ∧ Below w.heap.size w wr) (fun _ x _ => m - (intOf x).toNat)
  case atStart => exact ⟨0, -1, Nat.zero_le _, rfl, rfl, Lib.hid (.inl ⟨rfl, fun k hk => by omega⟩), by repeat (first | with_reducible exact Below.refl _ _ | with_reducible apply bdrew | with_reducible apply bdrewN | with_reducible apply balloc | ((with_reducible refine bset ?_ ?_ _); rotate_left; (first | omega | (simp <;> omega))))⟩
  case round =>
    obtain ⟨i, b, hi, rfl, rfl, HL, hB1⟩ := hrel
    obtain ⟨w1, rfl⟩ : ∃ wo : World, wo = wr := ⟨_, rfl⟩
    have hM1 := hM.below hB1
    by_cases hlt : i < m
    · have hi2 : i < m + 2 := by omega
      have hi3 : (i : Int) < (m : Int) + 2 := by omega
      have hy0 := hM1.box0
      have hyo := hM1.out i hi2
      have hyc := (hM1.cell (i := i) (j := c) hi2 hc).1
      dsimp only at hy0 hyo hyc
      obtain ⟨x, hx⟩ : ∃ x, Hid (T i c = x) := ⟨_, Lib.hid rfl⟩
      rw [hx.out] at hyc
      by_cases hx0' : x ≤ 0
      · have HX0 := Lib.hid hx0'
        have hd : decide (x ≤ 0) = true := decide_eq_true hx0'
        go_wp2
        go_roundw
        case rel => exact ⟨i + 1, b, by omega, by go_num, rfl, Lib.hid (HL.out.skip (by rw [hx.out]; exact HX0.out)), by repeat (first | with_reducible exact hB1 | with_reducible apply bdrew | with_reducible apply bdrewN | with_reducible apply balloc | ((with_reducible refine bset ?_ ?_ _); rotate_left; (first | omega | (simp <;> omega))))⟩
        case measure => simp [intOf]; omega
      · have HX0 := Lib.hid (show 0 < T i c by rw [hx.out]; omega)
        have hd : decide (x ≤ 0) = false := decide_eq_false hx0'
        rcases HL.out with ⟨hb, _⟩ | ⟨r, hb, hrm, hri, hrp, _⟩
        · subst hb
          go_wp2
          go_roundw
          case rel => exact ⟨i + 1, i, by omega, by go_num, rfl, Lib.hid (HL.out.first hlt HX0.out), by repeat (first | with_reducible exact hB1 | with_reducible apply bdrew | with_reducible apply bdrewN | with_reducible apply balloc | ((with_reducible refine bset ?_ ?_ _); rotate_left; (first | omega | (simp <;> omega))))⟩
          case measure => simp [intOf]; omega
        · subst hb
          have hr2 : r < m + 2 := by omega
          have hr3 : (r : Int) < (m : Int) + 2 := by omega
          have hr4 : ¬ ((r : Int) < 0) := by omega
          have hyor := hM1.out r hr2
          have hyrc := (hM1.cell (i := r) (j := c) hr2 hc).1
          have hyrl := (hM1.cell (i := r) (j := n) hr2 (by omega)).1
          have hyil := (hM1.cell (i := i) (j := n) hi2 (by omega)).1
          have hy1 := hM1.box1
          obtain ⟨g, hA, hg1, hg2, hg3, hg4⟩ := hM1.bas hlt
          obtain ⟨g', hA', _, _, hg3', _⟩ := hM1.bas hrm
          obtain rfl : g = g' := by rw [hA] at hA'; injection hA' with h; injection h
          dsimp only at hyor hyrc hyrl hyil hy1 hA
          subst hA
          have b1 := LA.abs_mul (HTB.out i n hi2 (by omega)) (HTB.out r c hr2 hc)
          have b2 := LA.abs_mul (HTB.out r n hr2 (by omega)) (HTB.out i c hi2 hc)
          have HK := Lib.hid (HL.out.keep HX0.out)
          have HN := Lib.hid (HL.out.next hlt HX0.out)
          obtain ⟨z, hz⟩ : ∃ z, Hid (T r c = z) := ⟨_, Lib.hid rfl⟩
          obtain ⟨u, hu⟩ : ∃ z, Hid (T r n = z) := ⟨_, Lib.hid rfl⟩
          obtain ⟨v, hv⟩ : ∃ z, Hid (T i n = z) := ⟨_, Lib.hid rfl⟩
          rw [hz.out] at hyrc b1 HK HN
          rw [hu.out] at hyrl b2 HK HN
          rw [hv.out] at hyil b1 HK HN
          rw [hx.out] at b2 HK HN
          obtain ⟨p, hp⟩ : ∃ p, v * z = p := ⟨_, rfl⟩
          obtain ⟨q, hq⟩ : ∃ q, u * x = q := ⟨_, rfl⟩
          rw [hp] at b1 HK HN
          rw [hq] at b2 HK HN
          obtain ⟨b11, b12⟩ := b1
          obtain ⟨b21, b22⟩ := b2
          have hwp : IntKind.i64.wrap (v * z) = p := by rw [hp]; exact Go.IntWalk.i64_in _ (by omega)
          have hwq : IntKind.i64.wrap (u * x) = q := by rw [hq]; exact Go.IntWalk.i64_in _ (by omega)
          clear hp hq hrp HX0
          go_wp2_with fail
          go_quiet (fail)
          go_wp2_with fail
          by_cases h1 : p < q
          · have HC := Lib.hid (show (p < q ∨ (p = q ∧ bs i < bs r)) from .inl h1)
            have e1 : decide (p < q) = true := decide_eq_true h1
            go_quiet (fail)
            go_wp2
            go_roundw
            case rel => exact ⟨i + 1, (i : Int), by omega, by go_num, rfl, Lib.hid (HN.out HC.out), by repeat (first | with_reducible exact hB1 | with_reducible apply bdrew | with_reducible apply bdrewN | with_reducible apply balloc | ((with_reducible refine bset ?_ ?_ _); rotate_left; (first | omega | (simp <;> omega))))⟩
            case measure => simp [intOf]; omega
          · have e1 : decide (p < q) = false := decide_eq_false h1
            by_cases h2 : p = q
            · subst h2
              have e2 : decide (p = p) = true := decide_eq_true rfl
              by_cases h3 : bs i < bs r
              · have HC := Lib.hid (show (p < p ∨ (p = p ∧ bs i < bs r)) from .inr ⟨rfl, h3⟩)
                have e3 : decide ((bs i : Int) < (bs r : Int)) = true := decide_eq_true (by omega)
                go_quiet (fail)
                go_wp2
                go_roundw
                case rel => exact ⟨i + 1, (i : Int), by omega, by go_num, rfl, Lib.hid (HN.out HC.out), by repeat (first | with_reducible exact hB1 | with_reducible apply bdrew | with_reducible apply bdrewN | with_reducible apply balloc | ((with_reducible refine bset ?_ ?_ _); rotate_left; (first | omega | (simp <;> omega))))⟩
                case measure => simp [intOf]; omega
              · have HC := Lib.hid (show ¬ (p < p ∨ (p = p ∧ bs i < bs r)) by omega)
                have e3 : decide ((bs i : Int) < (bs r : Int)) = false := decide_eq_false (by omega)
                go_quiet (fail)
                go_wp2
                go_roundw
                case rel => exact ⟨i + 1, (r : Int), by omega, by go_num, rfl, Lib.hid (HK.out HC.out), by repeat (first | with_reducible exact hB1 | with_reducible apply bdrew | with_reducible apply bdrewN | with_reducible apply balloc | ((with_reducible refine bset ?_ ?_ _); rotate_left; (first | omega | (simp <;> omega))))⟩
                case measure => simp [intOf]; omega
            · have HC := Lib.hid (show ¬ (p < q ∨ (p = q ∧ bs i < bs r)) by omega)
              have e2 : (p == q) = false := beq_eq_false_iff_ne.2 h2
              go_quiet (fail)
              go_wp2
              go_roundw
              case rel => exact ⟨i + 1, (r : Int), by omega, by go_num, rfl, Lib.hid (HK.out HC.out), by repeat (first | with_reducible exact hB1 | with_reducible apply bdrew | with_reducible apply bdrewN | with_reducible apply balloc | ((with_reducible refine bset ?_ ?_ _); rotate_left; (first | omega | (simp <;> omega))))⟩
              case measure => simp [intOf]; omega
    · obtain rfl : i = m := by omega
      go_wp2
      go_ret
      exact ⟨b, rfl, HL.out, by repeat (first | with_reducible exact hB1 | with_reducible apply bdrew | with_reducible apply bdrewN | with_reducible apply balloc | ((with_reducible refine bset ?_ ?_ _); rotate_left; (first | omega | (simp <;> omega))))⟩

theorem leaving_any (w : World) (base : Nat) (L : TbLay) (P : LA.LP) (s : LA.St) (hP : LA.LPIn P) (ht : LA.Tabl P s.bs s.T s.den) (hM : TbMem base w L P.m P.N s.bs s.T s.den) (c : Nat) (hc : c ≤ P.n + P.m) :
    Calls Try.prog 53 #[.pointer (some ⟨L.b, 0, none⟩), .int .i64 c] w fun e w' => ∃ b : Int, e = .returned (.int .i64 b) ∧ ((b = -1 ∧ ∀ i, i < P.m → s.T i c ≤ 0) ∨ ∃ r : Nat, b = r ∧ LA.Leaves P s c r) ∧ Below w.heap.size w w' := by
  have hN : P.N = P.last + 1 := rfl
  rw [hN] at hM
  refine (leaving_walk w base L P.m P.last s.bs s.T s.den c hM (by unfold LA.LP.last; omega) (fun i j hi hj => ?_) hP.m (by have := hP.m; have := hP.n; unfold LA.LP.last; omega)).mono ?_
  · have := ht.le hP hi (show j < P.N by rw [hN]; exact hj); omega
  · rintro e w' ⟨b, rfl, h, hB⟩
    refine ⟨b, rfl, ?_, hB⟩
    rcases h with ⟨h1, h2⟩ | ⟨r, h1, h2, _, h4, h5⟩
    · exact .inl ⟨h1, h2⟩
    · exact .inr ⟨r, h1, h2, h4, h5⟩

end Go.Proofs.Ytkepfmglljkjhaa
