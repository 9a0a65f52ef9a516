/-
  (*tableau).start: the first phase.
-/
import Derived.Test.YtkepfmglljkjhaaTb3
namespace Go.Proofs.Ytkepfmglljkjhaa
open Go.RowKit
set_option linter.unusedVariables false
set_option linter.unusedSimpArgs false

/-- The first least negative bound among the first rows. -/
def LowTo (m : Nat) (B : Nat → Int) (i : Nat) (b : Int) : Prop :=
  (b = -1 ∧ ∀ k, k < i → 0 ≤ B k) ∨ ∃ r : Nat, b = r ∧ r < m ∧ r < i ∧ B r < 0 ∧ ∀ k, k < i → B r ≤ B k
theorem LowTo.skip {m i : Nat} {B : Nat → Int} {b : Int} (h : LowTo m B i b) (hi : 0 ≤ B i) : LowTo m B (i + 1) b := by
  rcases h with ⟨h1, h2⟩ | ⟨r, h1, h2, h3, h4, h5⟩
  · refine .inl ⟨h1, fun k hk => ?_⟩
    by_cases e : k = i
    · rw [e]; exact hi
    · exact h2 k (by omega)
  · refine .inr ⟨r, h1, h2, by omega, h4, fun k hk => ?_⟩
    by_cases e : k = i
    · rw [e]; omega
    · exact h5 k (by omega)
theorem LowTo.first {m i : Nat} {B : Nat → Int} (h : LowTo m B i (-1)) (him : i < m) (hi : B i < 0) : LowTo m B (i + 1) (i : Int) := by
  rcases h with ⟨_, h2⟩ | ⟨r, h1, _⟩
  · refine .inr ⟨i, rfl, him, by omega, hi, fun k hk => ?_⟩
    by_cases e : k = i
    · rw [e]; exact Int.le_refl _
    · have := h2 k (by omega); omega
  · omega
theorem LowTo.keep {m i r : Nat} {B : Nat → Int} (h : LowTo m B i (r : Int)) (hi : ¬ B i < B r) : LowTo m B (i + 1) (r : Int) := by
  rcases h with ⟨h1, _⟩ | ⟨q, h1, h2, h3, h4, h5⟩
  · omega
  · obtain rfl : r = q := by omega
    refine .inr ⟨r, rfl, h2, by omega, h4, fun k hk => ?_⟩
    by_cases e : k = i
    · rw [e]; omega
    · exact h5 k (by omega)
theorem LowTo.next {m i r : Nat} {B : Nat → Int} (h : LowTo m B i (r : Int)) (him : i < m) (hi : B i < B r) : LowTo m B (i + 1) (i : Int) := by
  rcases h with ⟨h1, _⟩ | ⟨q, h1, h2, h3, h4, h5⟩
  · omega
  · obtain rfl : r = q := by omega
    refine .inr ⟨i, rfl, him, by omega, by omega, fun k hk => ?_⟩
    by_cases e : k = i
    · rw [e]; exact Int.le_refl _
    · have := h5 k (by omega); omega
theorem maximize_at (w : World) (base : Nat) (L : TbLay) (P : LA.LP) (s : LA.St) (o lim : Nat) (g : Nat → Int) (oi li : Int) (hoi : oi = o) (hli : li = lim) (hP : LA.LPIn P) (ho : LA.Obj P o lim g) (h : LA.Ok P s) (hM : TbMem base w L P.m P.N s.bs s.T s.den) (hb : base ≤ w.heap.size) :
    Calls Try.prog 36 #[.pointer (some ⟨L.b, 0, none⟩), .int .i64 oi, .int .i64 li] w fun e w' => ∃ (s' : LA.St) (b : Int), e = .returned (.int .i64 b) ∧ LA.Ok P s' ∧ (lim ≤ P.n + P.m → LA.NoArt P s → LA.NoArt P s') ∧ ((b = -1 ∧ ∀ k, k < lim → 0 ≤ s'.T o k) ∨ ∃ c : Nat, b = c ∧ LA.Enters o lim s' c ∧ ∀ i, i < P.m → s'.T i c ≤ 0) ∧ TbMem base w' L P.m P.N s'.bs s'.T s'.den ∧ Below base w w' := by
  subst hoi
  subst hli
  exact maximize_any w base L P s o lim g hP ho h hM hb
theorem pivot_at (w : World) (base : Nat) (L : TbLay) (P : LA.LP) (s : LA.St) (ci : Int) (r c : Nat) (hci : ci = c) (hP : LA.LPIn P) (ht : LA.Tabl P s.bs s.T s.den) (hM : TbMem base w L P.m P.N s.bs s.T s.den) (hb : base ≤ w.heap.size) (hr : r < P.m) (hc : c ≤ P.n + P.m) (hne : s.T r c ≠ 0) :
    Calls Try.prog 51 #[.pointer (some ⟨L.b, 0, none⟩), .int .i64 r, .int .i64 ci] w fun e w' => e = .returned (.tuple #[]) ∧ TbMem base w' L P.m P.N (s.piv r c).bs (s.piv r c).T (s.piv r c).den ∧ Below base w w' := by
  subst hci
  exact pivot_any w base L P s hP ht hM hb r c hr hc hne
/-- While the artificial variable is looked for. -/
structure Drv (P : LA.LP) (s : LA.St) (i : Nat) : Prop where
  ok : LA.Ok P s
  out : ∀ k, k < i → s.bs k < P.n + P.m
  zero : ∀ k, k < P.m → s.bs k = P.n + P.m → s.T k P.last = 0
theorem Drv.skip {P : LA.LP} {s : LA.St} {i : Nat} (h : Drv P s i) (him : i < P.m) (hi : s.bs i ≠ P.n + P.m) : Drv P s (i + 1) :=
  ⟨h.ok, fun k hk => by
    by_cases e : k = i
    · rw [e]; have := h.ok.bas i him; omega
    · exact h.out k (by omega), h.zero⟩
theorem Drv.drive {P : LA.LP} {s : LA.St} {i c : Nat} (h : Drv P s i) (him : i < P.m) (hi : s.bs i = P.n + P.m) (hc : c < P.n + P.m) (hne : s.T i c ≠ 0) : Drv P (s.piv i c) (i + 1) :=
  ⟨h.ok.drive him (h.zero i him hi) hc hne, fun k hk => by
    show LA.pivB s.bs i c k < _
    unfold LA.pivB
    by_cases e : k = i
    · rw [if_pos e]; exact hc
    · rw [if_neg e]; exact h.out k (by omega), fun k hk e => by
    have e2 : LA.pivB s.bs i c k = P.n + P.m := e
    unfold LA.pivB at e2
    by_cases e3 : k = i
    · rw [if_pos e3] at e2; omega
    · rw [if_neg e3] at e2
      exact absurd (h.ok.inj hk him (by rw [e2, hi])) e3⟩
set_option maxRecDepth 100000 in
set_option maxHeartbeats 8000000 in
theorem start_any (w : World) (base : Nat) (L : TbLay) (P : LA.LP) (hP : LA.LPIn P) (hM : TbMem base w L P.m P.N (fun i => P.n + i) P.T0 1) (hb : base ≤ w.heap.size) :
    Calls Try.prog 34 #[.pointer (some ⟨L.b, 0, none⟩)] w fun e w' => ∃ (s' : LA.St) (ok : Bool), e = .returned (.bool ok) ∧ LA.Ok P s' ∧ (ok = true → LA.NoArt P s') ∧ (ok = false → (∀ j, j < P.n + P.m + 1 → 0 ≤ s'.T (P.m + 1) j) ∧ s'.T (P.m + 1) P.last < 0) ∧ TbMem base w' L P.m P.N s'.bs s'.T s'.den ∧ Below base w w' := by
  obtain ⟨Lb, LgR, LcR, Lblk, LAB, LcB⟩ := L
  have hm6 := hP.m
  have hn6 := hP.n
  have HP := Lib.hid hP
  have HM0 := Lib.hid hM
  have hBT : ∀ i, i < P.m → P.T0 i P.last = P.b i := fun i hi => by unfold LA.LP.T0; rw [if_pos hi, LA.t0_last]
  have HBT := Lib.hid hBT
  obtain ⟨a, ha⟩ : ∃ a, Hid (P.n + P.m = a) := ⟨_, Lib.hid rfl⟩
  have ha14 : a ≤ 12 := by have := ha.out; omega
  have hN : Hid (P.N = a + 2) := Lib.hid (by have := ha.out; unfold LA.LP.N; omega)
  have hl : Hid (P.last = a + 1) := Lib.hid (by have := ha.out; unfold LA.LP.last; omega)
  rw [hN.out] at hM
  obtain ⟨m, hm⟩ : ∃ m, Hid (P.m = m) := ⟨_, Lib.hid rfl⟩
  rw [hm.out] at hM hm6
  have HM := Lib.hid hM
  have hx0 := hM.box0
  have hx1 := hM.box1
  have hxm := hM.out m (by omega)
  have hm3 : (m : Int) < (m : Int) + 2 := by omega
  dsimp only at hx0 hx1 hxm
  clear hBT hP hM hn6
  go_enter Try.func34, Try.ntmps34
  go_wp2_with fail
  go_loopw [5, 29] (fun s x wr => ∃ (i : Nat) (b : Int), i ≤ m ∧ x = .int .i64 i ∧ s = .int .i64 b ∧ Hid (LowTo m (fun k => P.T0 k (a + 1)) i b) ∧ Below w.heap.size w wr) (fun _ x _ => m - (intOf x).toNat)
  case atStart => exact ⟨0, -1, Nat.zero_le _, rfl, rfl, Lib.hid (.inl ⟨rfl, fun k hk => by omega⟩), by repeat (first | with_reducible exact Below.refl _ _ | with_reducible apply bdrew | with_reducible apply bdrewN | with_reducible apply balloc | ((with_reducible refine bset ?_ ?_ _); rotate_left; (first | omega | (simp <;> omega))))⟩
  case round =>
    obtain ⟨i, b, hi, rfl, rfl, HL, hB1⟩ := hrel
    obtain ⟨w1, rfl⟩ : ∃ wo : World, wo = wr := ⟨_, rfl⟩
    have hM1 := HM.out.below hB1
    by_cases hlt : i < m
    · have hi2 : i < m + 2 := by omega
      have hi3 : (i : Int) < (m : Int) + 2 := by omega
      have hy0 := hM1.box0
      have hyo := hM1.out i hi2
      have hyc := (hM1.cell (i := i) (j := a + 1) hi2 (by omega)).1
      dsimp only at hy0 hyo hyc
      have HSK := Lib.hid (HL.out.skip (i := i))
      obtain ⟨x, hx⟩ : ∃ x, Hid (P.T0 i (a + 1) = x) := ⟨_, Lib.hid rfl⟩
      rw [hx.out] at hyc
      (try dsimp only at HSK)
      rw [hx.out] at HSK
      by_cases hneg : x < 0
      · have hd : decide (x < 0) = true := decide_eq_true hneg
        have HNG := Lib.hid hneg
        rcases HL.out with ⟨hb', _⟩ | ⟨r, hb', hrm, hri, hrp, _⟩
        · subst hb'
          have HFI := Lib.hid (HL.out.first hlt (by (try dsimp only); rw [hx.out]; exact hneg))
          clear hneg
          go_wp2_with fail
          go_quiet (fail)
          go_wp2
          go_roundw
          case rel => exact ⟨i + 1, (i : Int), by omega, by go_num, rfl, Lib.hid (HFI.out), by repeat (first | with_reducible exact hB1 | with_reducible apply bdrew | with_reducible apply bdrewN | with_reducible apply balloc | ((with_reducible refine bset ?_ ?_ _); rotate_left; (first | omega | (simp <;> omega))))⟩
          case measure => simp [intOf]; omega
        · subst hb'
          have hr2 : r < m + 2 := by omega
          have hr3 : (r : Int) < (m : Int) + 2 := by omega
          have hr4 : decide ((r : Int) < 0) = false := decide_eq_false (by omega)
          have hyor := hM1.out r hr2
          have hyrl := (hM1.cell (i := r) (j := a + 1) hr2 (by omega)).1
          dsimp only at hyor hyrl
          have HK := Lib.hid (HL.out.keep (i := i))
          have HX := Lib.hid (HL.out.next hlt)
          (try dsimp only at HK HX)
          rw [hx.out] at HK HX
          obtain ⟨z, hz⟩ : ∃ z, Hid (P.T0 r (a + 1) = z) := ⟨_, Lib.hid rfl⟩
          rw [hz.out] at hyrl HK HX
          clear hrp
          by_cases hcmp : x < z
          · have HC := Lib.hid hcmp
            have hd2 : decide (x < z) = true := decide_eq_true hcmp
            clear hcmp
            go_wp2_with fail
            go_quiet (fail)
            go_wp2
            go_roundw
            case rel => exact ⟨i + 1, (i : Int), by omega, by go_num, rfl, Lib.hid (HX.out HC.out), by repeat (first | with_reducible exact hB1 | with_reducible apply bdrew | with_reducible apply bdrewN | with_reducible apply balloc | ((with_reducible refine bset ?_ ?_ _); rotate_left; (first | omega | (simp <;> omega))))⟩
            case measure => simp [intOf]; omega
          · have HC := Lib.hid hcmp
            have hd2 : decide (x < z) = false := decide_eq_false hcmp
            clear hcmp
            go_wp2_with fail
            go_quiet (fail)
            go_wp2
            go_roundw
            case rel => exact ⟨i + 1, (r : Int), by omega, by go_num, rfl, Lib.hid (HK.out HC.out), by repeat (first | with_reducible exact hB1 | with_reducible apply bdrew | with_reducible apply bdrewN | with_reducible apply balloc | ((with_reducible refine bset ?_ ?_ _); rotate_left; (first | omega | (simp <;> omega))))⟩
            case measure => simp [intOf]; omega
      · have hd : decide (x < 0) = false := decide_eq_false hneg
        have HNG := Lib.hid (show 0 ≤ x by omega)
        clear hneg
        go_wp2_with fail
        go_quiet (fail)
        go_wp2
        go_roundw
        case rel => exact ⟨i + 1, b, by omega, by go_num, rfl, Lib.hid (HSK.out HNG.out), by repeat (first | with_reducible exact hB1 | with_reducible apply bdrew | with_reducible apply bdrewN | with_reducible apply balloc | ((with_reducible refine bset ?_ ?_ _); rotate_left; (first | omega | (simp <;> omega))))⟩
        case measure => simp [intOf]; omega
    · obtain rfl : m = i := by omega
      have hB1b : Below base w w1 := hB1.mono hb
      rcases HL.out with ⟨hb', hall⟩ | ⟨r, hb', hrm, hri, hrp, hmin⟩
      · subst hb'
        have HOK : Hid (LA.Ok P ⟨fun i => P.n + i, P.T0, 1⟩) := Lib.hid (LA.Ok.plain fun k hk => by
          rw [← HBT.out k hk, hl.out]; exact hall k (by rw [← hm.out]; exact hk))
        clear hall
        go_wp2
        go_ret
        exact ⟨⟨fun i => P.n + i, P.T0, 1⟩, true, rfl, HOK.out, fun _ k hk => Nat.add_lt_add_left hk _, (fun h => by cases h), HM0.out.below (by repeat (first | with_reducible exact hB1 | with_reducible apply bdrew | with_reducible apply bdrewN | with_reducible apply balloc | ((with_reducible refine bset ?_ ?_ _); rotate_left; (first | omega | (simp <;> omega))))), by repeat (first | with_reducible exact hB1b | with_reducible apply bdrew | with_reducible apply bdrewN | with_reducible apply balloc | ((with_reducible refine bset ?_ ?_ _); rotate_left; (first | omega | (simp <;> omega))))⟩
      · subst hb'
        have hneg2 : P.b r < 0 := by rw [← HBT.out r (by rw [hm.out]; exact hrm), hl.out]; exact hrp
        have HFST : Hid (LA.Ok P (LA.St.piv ⟨fun i => P.n + i, P.T0, 1⟩ r (P.n + P.m))) := Lib.hid (LA.Ok.first (by rw [hm.out]; exact hrm) hneg2 fun k hk => by
          rw [← HBT.out k hk, ← HBT.out r (by rw [hm.out]; exact hrm), hl.out]; exact hmin k (by rw [← hm.out]; exact hk))
        have hr4 : ¬ ((r : Int) < 0) := by omega
        clear hmin hrp hneg2
        go_wp2_with fail
        refine (pivot_at _ base ⟨Lb, LgR, LcR, Lblk, LAB, LcB⟩ P ⟨fun i => P.n + i, P.T0, 1⟩ _ r (P.n + P.m) (by rw [ha.out]; omega) HP.out (LA.Tabl.start P) (HM0.out.below (by repeat (first | with_reducible exact hB1 | with_reducible apply bdrew | with_reducible apply bdrewN | with_reducible apply balloc | ((with_reducible refine bset ?_ ?_ _); rotate_left; (first | omega | (simp <;> omega)))))) (Nat.le_trans hb hB1.size) (by rw [hm.out]; exact hrm) (Nat.le_refl _) (by show P.T0 r (P.n + P.m) ≠ 0; unfold LA.LP.T0; rw [if_pos (by rw [hm.out]; exact hrm), LA.t0_art]; omega)).mono ?_
        rintro e w2 ⟨rfl, hM2, hB2⟩
        have hB12 : Below base w w2 := hB1b.trans hB2
        go_wp2_with fail
        refine (maximize_at _ base ⟨Lb, LgR, LcR, Lblk, LAB, LcB⟩ P _ (P.m + 1) (P.n + P.m + 1) P.g1 _ _ (by rw [hm.out]; omega) (by rw [ha.out]; omega) HP.out (LA.obj_art P) HFST.out (hM2.below (by repeat (first | with_reducible exact Below.refl _ _ | with_reducible apply bdrew | with_reducible apply bdrewN | with_reducible apply balloc | ((with_reducible refine bset ?_ ?_ _); rotate_left; (first | omega | (simp <;> omega)))))) (Nat.le_trans hb hB12.size)).mono ?_
        rintro e w3 ⟨s3, b3, rfl, hok3, -, hfin, hM3, hB3⟩
        have hB13 : Below base w w3 := hB12.trans hB3
        have HOK3 := Lib.hid hok3
        have HALL : Hid (∀ j, j < P.n + P.m + 1 → 0 ≤ s3.T (P.m + 1) j) := Lib.hid (by
          rcases hfin with ⟨_, h⟩ | ⟨c, _, hE, hle⟩
          · exact h
          · exfalso
            have h1 := LA.art_bounded hok3 (c := c) (by have := hE.1; unfold LA.LP.N; omega) hle
            have := hE.2.1
            omega)
        clear hfin hok3 HFST hM2
        have HM3' := Lib.hid hM3
        rw [hm.out, hN.out] at hM3
        have HM3 := Lib.hid hM3
        have hz0 := hM3.box0
        have hz1 := hM3.box1
        have hzo := hM3.out (m + 1) (by omega)
        have hzc := (hM3.cell (i := m + 1) (j := a + 1) (by omega) (by omega)).1
        dsimp only at hz0 hz1 hzo hzc
        obtain ⟨x, hx⟩ : ∃ x, Hid (s3.T (m + 1) (a + 1) = x) := ⟨_, Lib.hid rfl⟩
        rw [hx.out] at hzc
        have hm4 : (m : Int) + 1 < (m : Int) + 2 := by omega
        by_cases hneg : x < 0
        · have HNG := Lib.hid (show s3.T (P.m + 1) P.last < 0 by rw [hm.out, hl.out, hx.out]; exact hneg)
          go_wp2
          go_ret
          exact ⟨s3, false, rfl, HOK3.out, (fun h => by cases h), fun _ => ⟨HALL.out, HNG.out⟩, HM3'.out.below (by repeat (first | with_reducible exact Below.refl _ _ | with_reducible apply bdrew | with_reducible apply bdrewN | with_reducible apply balloc | ((with_reducible refine bset ?_ ?_ _); rotate_left; (first | omega | (simp <;> omega))))), by repeat (first | with_reducible exact hB13 | with_reducible apply bdrew | with_reducible apply bdrewN | with_reducible apply balloc | ((with_reducible refine bset ?_ ?_ _); rotate_left; (first | omega | (simp <;> omega))))⟩
        · have HDR : Hid (Drv P s3 0) := Lib.hid ⟨HOK3.out, (fun k hk => by omega), fun k hk he => LA.art_zero HOK3.out (by rw [hm.out, hl.out, hx.out]; omega) hk he⟩
          clear hM3
          go_wp2_with fail
          (try simp only [show a + 2 - 1 = a + 1 from rfl])
          go_loopw [101] (fun x wr => ∃ (i : Nat) (s : LA.St), i ≤ m ∧ x = .int .i64 i ∧ Hid (Drv P s i) ∧ TbMem base wr ⟨Lb, LgR, LcR, Lblk, LAB, LcB⟩ m (a + 2) s.bs s.T s.den ∧ Below base w wr) (fun x _ => m - (intOf x).toNat)
          case atStart => exact ⟨0, s3, Nat.zero_le _, rfl, HDR, HM3.out.below (by repeat (first | with_reducible exact Below.refl _ _ | with_reducible apply bdrew | with_reducible apply bdrewN | with_reducible apply balloc | ((with_reducible refine bset ?_ ?_ _); rotate_left; (first | omega | (simp <;> omega))))), by repeat (first | with_reducible exact hB13 | with_reducible apply bdrew | with_reducible apply bdrewN | with_reducible apply balloc | ((with_reducible refine bset ?_ ?_ _); rotate_left; (first | omega | (simp <;> omega))))⟩
          case round =>
            obtain ⟨i, s4, hi, rfl, HD, hM4, hB4⟩ := hrel
            obtain ⟨w4, rfl⟩ : ∃ wo : World, wo = wr := ⟨_, rfl⟩
            have HD4 := Lib.hid hM4
            by_cases hlt : i < m
            · have hi2 : i < m + 2 := by omega
              have hi3 : (i : Int) < (m : Int) + 2 := by omega
              obtain ⟨g, hA, hg1, hg2, hg3, hg4⟩ := hM4.bas hlt
              have hy0 := hM4.box0
              have hyo := hM4.out i hi2
              dsimp only at hA hy0 hyo
              subst hA
              by_cases hba : s4.bs i = a
              · have hne : ((s4.bs i : Int) != (a : Int)) = false := by simp [hba]
                have hne2 : ¬ ¬ ((s4.bs i : Int) = (a : Int)) := by omega
                obtain ⟨c0, hc0, hc1⟩ := LA.art_row HD.out.ok (r := i) (by rw [hm.out]; exact hlt) (by rw [ha.out]; exact hba)
                have HC1 := Lib.hid hc1
                rw [ha.out] at hc0
                have HBA := Lib.hid hba
                rw [hba] at hg3
                clear hba hc1 hne2 hne
                go_wp2_with fail
                go_loopw [9] (fun x wr => ∃ c : Nat, c ≤ c0 ∧ x = .int .i64 c ∧ Below w4.heap.size w4 wr) (fun x _ => c0 - (intOf x).toNat)
                case atStart => exact ⟨0, Nat.zero_le _, rfl, by repeat (first | with_reducible exact Below.refl _ _ | with_reducible apply bdrew | with_reducible apply bdrewN | with_reducible apply balloc | ((with_reducible refine bset ?_ ?_ _); rotate_left; (first | omega | (simp <;> omega))))⟩
                case round =>
                  obtain ⟨c, hc, rfl, hB5⟩ := hrel
                  obtain ⟨w5, rfl⟩ : ∃ wo : World, wo = wr := ⟨_, rfl⟩
                  have hM5 := HD4.out.below hB5
                  have hB45 := hB4.trans (hB5.mono (Nat.le_trans hb hB4.size))
                  have hu0 := hM5.box0
                  have huo := hM5.out i hi2
                  have huc := (hM5.cell (i := i) (j := c) hi2 (by omega)).1
                  dsimp only at hu0 huo huc
                  obtain ⟨x, hx⟩ : ∃ x, Hid (s4.T i c = x) := ⟨_, Lib.hid rfl⟩
                  rw [hx.out] at huc
                  by_cases hxz : x = 0
                  · subst hxz
                    have hcc : Hid (c + 1 ≤ c0) := Lib.hid (by
                      rcases Nat.lt_or_ge c c0 with h | h
                      · exact h
                      · exfalso
                        have : c = c0 := by omega
                        rw [← this, hx.out] at HC1
                        exact HC1.out rfl)
                    go_wp2
                    go_roundw
                    case rel => exact ⟨c + 1, hcc.out, by go_num, by repeat (first | with_reducible exact hB5 | with_reducible apply bdrew | with_reducible apply bdrewN | with_reducible apply balloc | ((with_reducible refine bset ?_ ?_ _); rotate_left; (first | omega | (simp <;> omega))))⟩
                    case measure => have := hcc.out; simp [intOf]; omega
                  · have HXZ := Lib.hid (show s4.T i c ≠ 0 by rw [hx.out]; exact hxz)
                    have hxe : (x == 0) = false := beq_eq_false_iff_ne.2 hxz
                    go_wp2_with fail
                    refine (pivot_at _ base ⟨Lb, LgR, LcR, Lblk, some ⟨g, 0, none⟩, LcB⟩ P s4 _ i c rfl HP.out HD.out.ok.toTabl (by rw [hm.out, hN.out]; exact hM5.below (by repeat (first | with_reducible exact Below.refl _ _ | with_reducible apply bdrew | with_reducible apply bdrewN | with_reducible apply balloc | ((with_reducible refine bset ?_ ?_ _); rotate_left; (first | omega | (simp <;> omega)))))) (Nat.le_trans hb hB45.size) (by rw [hm.out]; exact hlt) (by rw [ha.out]; omega) HXZ.out).mono ?_
                    rintro e w6 ⟨rfl, hM6, hB6⟩
                    rw [hm.out, hN.out] at hM6
                    go_wp2
                    go_roundw
                    case rel => exact ⟨i + 1, s4.piv i c, by omega, by go_num, Lib.hid (HD.out.drive (by rw [hm.out]; exact hlt) (by rw [ha.out]; exact HBA.out) (by rw [ha.out]; omega) HXZ.out), hM6.below (by repeat (first | with_reducible exact Below.refl _ _ | with_reducible apply bdrew | with_reducible apply bdrewN | with_reducible apply balloc | ((with_reducible refine bset ?_ ?_ _); rotate_left; (first | omega | (simp <;> omega))))), hB45.trans hB6⟩
                    case measure => simp [intOf]; omega
              · have HBA := Lib.hid (show s4.bs i ≠ P.n + P.m by rw [ha.out]; exact hba)
                have hne2 : ¬ ((s4.bs i : Int) = (a : Int)) := by omega
                obtain ⟨v, hv⟩ : ∃ v, Hid (s4.bs i = v) := ⟨_, Lib.hid rfl⟩
                rw [hv.out] at hg3 hne2 hba
                go_wp2
                go_roundw
                case rel => exact ⟨i + 1, s4, by omega, by go_num, Lib.hid (HD.out.skip (by rw [hm.out]; exact hlt) HBA.out), HD4.out.below (by repeat (first | with_reducible exact Below.refl _ _ | with_reducible apply bdrew | with_reducible apply bdrewN | with_reducible apply balloc | ((with_reducible refine bset ?_ ?_ _); rotate_left; (first | omega | (simp <;> omega))))), by repeat (first | with_reducible exact hB4 | with_reducible apply bdrew | with_reducible apply bdrewN | with_reducible apply balloc | ((with_reducible refine bset ?_ ?_ _); rotate_left; (first | omega | (simp <;> omega))))⟩
                case measure => simp [intOf]; omega
            · obtain rfl : m = i := by omega
              go_wp2
              go_ret
              exact ⟨s4, true, rfl, HD.out.ok, fun _ k hk => HD.out.out k (by rw [← hm.out]; exact hk), (fun h => by cases h), by rw [hm.out, hN.out]; exact HD4.out.below (by repeat (first | with_reducible exact Below.refl _ _ | with_reducible apply bdrew | with_reducible apply bdrewN | with_reducible apply balloc | ((with_reducible refine bset ?_ ?_ _); rotate_left; (first | omega | (simp <;> omega))))), by repeat (first | with_reducible exact hB4 | with_reducible apply bdrew | with_reducible apply bdrewN | with_reducible apply balloc | ((with_reducible refine bset ?_ ?_ _); rotate_left; (first | omega | (simp <;> omega))))⟩


end Go.Proofs.Ytkepfmglljkjhaa
