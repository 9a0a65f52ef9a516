/-
  (*tableau).maximize: the steps of the simplex method.
-/
import Derived.Test.YtkepfmglljkjhaaTb2
namespace Go.Proofs.Ytkepfmglljkjhaa
open Go.RowKit
set_option linter.unusedVariables false
set_option linter.unusedSimpArgs false

set_option maxRecDepth 100000 in
set_option maxHeartbeats 4000000 in
theorem maximize_any (w : World) (base : Nat) (L : TbLay) (P : LA.LP) (s : LA.St) (o lim : Nat) (g : Nat → Int) (hP : LA.LPIn P) (ho : LA.Obj P o lim g) (h : LA.Ok P s) (hM : TbMem base w L P.m P.N s.bs s.T s.den) (hb : base ≤ w.heap.size) :
    Calls Try.prog 36 #[.pointer (some ⟨L.b, 0, none⟩), .int .i64 o, .int .i64 lim] w fun e w' => ∃ (s' : LA.St) (b : Int), e = .returned (.int .i64 b) ∧ LA.Ok P s' ∧ (lim ≤ P.n + P.m → LA.NoArt P s → LA.NoArt P s') ∧ ((b = -1 ∧ ∀ k, k < lim → 0 ≤ s'.T o k) ∨ ∃ c : Nat, b = c ∧ LA.Enters o lim s' c ∧ ∀ i, i < P.m → s'.T i c ≤ 0) ∧ TbMem base w' L P.m P.N s'.bs s'.T s'.den ∧ Below base w w' := by
  obtain ⟨K, f, hf0, hfok, hfst, hfn⟩ := LA.steps ho h
  have HFOK := Lib.hid hfok
  have HFN := Lib.hid hfn
  have HNA : Hid (lim ≤ P.n + P.m → LA.NoArt P s → ∀ i, i ≤ K → LA.NoArt P (f i)) := Lib.hid fun hl hn i => by
    induction i with
    | zero => intro _; rw [hf0]; exact hn
    | succ i ih => intro hi; exact (ih (by omega)).step hl (hfst i (by omega))
  have HO := Lib.hid ho
  have hom := ho.lt
  have hol := ho.lim
  have hlN : lim ≤ P.N := by have := ho.lim; unfold LA.LP.N; omega
  have hm6 := hP.m
  have hl100 : lim ≤ 100 := by have := ho.lim; have := hP.n; omega
  have HP := Lib.hid hP
  have HM := Lib.hid (show TbMem base w L P.m P.N (f 0).bs (f 0).T (f 0).den by rw [hf0]; exact hM)
  have hx0 := hM.box0
  clear hfok hfst hfn h ho hP hM hf0
  obtain ⟨m, hm⟩ : ∃ m, Hid (P.m = m) := ⟨_, Lib.hid rfl⟩
  obtain ⟨N, hN⟩ : ∃ N, Hid (P.N = N) := ⟨_, Lib.hid rfl⟩
  rw [hm.out, hN.out] at HM
  rw [hm.out] at hm6 hom hx0
  rw [hN.out] at hlN
  go_enter Try.func36, Try.ntmps36
  go_wp2_with fail
  go_loopg [7] K (fun gk x wr => ∃ i : Nat, i ≤ K ∧ Hid (i + gk = K) ∧ TbMem base wr L m N (f i).bs (f i).T (f i).den ∧ Below base w wr)
  case atStart => exact ⟨0, Nat.zero_le _, Lib.hid (by omega), HM.out.below (by repeat (first | with_reducible exact Below.refl _ _ | with_reducible apply bdrew | with_reducible apply bdrewN | with_reducible apply balloc | ((with_reducible refine bset ?_ ?_ _); rotate_left; (first | omega | (simp <;> omega))))), by repeat (first | with_reducible exact Below.refl _ _ | with_reducible apply bdrew | with_reducible apply bdrewN | with_reducible apply balloc | ((with_reducible refine bset ?_ ?_ _); rotate_left; (first | omega | (simp <;> omega))))⟩
  case round =>
    obtain ⟨i, hi, HG, hM1, hB1⟩ := hrel
    obtain ⟨w1, rfl⟩ : ∃ wo : World, wo = wr := ⟨_, rfl⟩
    have hOK := HFOK.out i hi
    have HOK := Lib.hid hOK
    have hTt : ∀ a j, a < m + 2 → j < N → -707788800 ≤ (f i).T a j ∧ (f i).T a j ≤ 707788800 := fun a j ha hj => hOK.toTabl.le HP.out (by rw [hm.out]; exact ha) (by rw [hN.out]; exact hj)
    clear hOK hTt
    have hy0 := hM1.box0
    have hyo := hM1.out o hom
    have hom3 : (o : Int) < (m : Int) + 2 := by omega
    go_wp2_with fail
    go_loopw [7] (fun x wr => ∃ c : Nat, c ≤ lim ∧ x = .int .i64 c ∧ Hid (∀ k, k < c → 0 ≤ (f i).T o k) ∧ Below w1.heap.size w1 wr) (fun x _ => lim - (intOf x).toNat)
    case atStart => exact ⟨0, Nat.zero_le _, rfl, Lib.hid (fun k hk => by omega), by repeat (first | with_reducible exact Below.refl _ _ | with_reducible apply bdrew | with_reducible apply bdrewN | with_reducible apply balloc | ((with_reducible refine bset ?_ ?_ _); rotate_left; (first | omega | (simp <;> omega))))⟩
    case round =>
      obtain ⟨c, hc, rfl, HC, hB2⟩ := hrel
      obtain ⟨w2, rfl⟩ : ∃ wo : World, wo = wr := ⟨_, rfl⟩
      have hM2 := hM1.below hB2
      have hB12 := hB1.trans (hB2.mono (Nat.le_trans hb hB1.size))
      by_cases hlt : c < lim
      · have hz0 := hM2.box0
        have hzo := hM2.out o hom
        have hcN : c < N := by omega
        have hzc := (hM2.cell (i := o) (j := c) hom hcN).1
        obtain ⟨x, hx⟩ : ∃ x, Hid ((f i).T o c = x) := ⟨_, Lib.hid rfl⟩
        rw [hx.out] at hzc
        by_cases hx0' : x ≥ 0
        · have HX := Lib.hid hx0'
          have hd : decide (x ≥ 0) = true := decide_eq_true hx0'
          go_wp2
          go_roundw
          case rel => exact ⟨c + 1, by omega, by go_num, Lib.hid (fun k hk => by
            by_cases e : k = c
            · rw [e, hx.out]; exact HX.out
            · exact HC.out k (by omega)), by repeat (first | with_reducible exact hB2 | with_reducible apply bdrew | with_reducible apply bdrewN | with_reducible apply balloc | ((with_reducible refine bset ?_ ?_ _); rotate_left; (first | omega | (simp <;> omega))))⟩
          case measure => simp [intOf]; omega
        · have hd : decide (x ≥ 0) = false := decide_eq_false hx0'
          have HE := Lib.hid (show LA.Enters o lim (f i) c from ⟨hlt, by rw [hx.out]; omega, HC.out⟩)
          have hcl : ¬ ((c : Int) = (lim : Int)) := by omega
          have hce : ((c : Int) == (lim : Int)) = false := beq_eq_false_iff_ne.2 hcl
          go_wp2_with fail
          refine (leaving_any _ base L P (f i) HP.out HOK.out.toTabl (by rw [hm.out, hN.out]; exact hM2.below (by repeat (first | with_reducible exact Below.refl _ _ | with_reducible apply bdrew | with_reducible apply bdrewN | with_reducible apply balloc | ((with_reducible refine bset ?_ ?_ _); rotate_left; (first | omega | (simp <;> omega)))))) c (by omega)).mono ?_
          rintro e w3 ⟨b, rfl, hlv, hB3⟩
          have hM3 := hM2.below (show Below w2.heap.size w2 w3 from dstep w2 hB3 (by repeat (first | with_reducible exact Below.refl _ _ | with_reducible apply bdrew | with_reducible apply bdrewN | with_reducible apply balloc | ((with_reducible refine bset ?_ ?_ _); rotate_left; (first | omega | (simp <;> omega))))))
          have hB13 : Below base w w3 := hB12.trans ((dstep w2 hB3 (by repeat (first | with_reducible exact Below.refl _ _ | with_reducible apply bdrew | with_reducible apply bdrewN | with_reducible apply balloc | ((with_reducible refine bset ?_ ?_ _); rotate_left; (first | omega | (simp <;> omega)))))).mono (Nat.le_trans hb hB12.size))
          rcases hlv with ⟨rfl, hno⟩ | ⟨r, rfl, hlv⟩
          · have HNO := Lib.hid hno
            clear hno
            go_wp2
            go_ret
            exact ⟨f i, c, rfl, HOK.out, fun hl hn => HNA.out hl hn i hi, .inr ⟨c, rfl, HE.out, HNO.out⟩, by rw [hm.out, hN.out]; exact hM3.below (by repeat (first | with_reducible exact Below.refl _ _ | with_reducible apply bdrew | with_reducible apply bdrewN | with_reducible apply balloc | ((with_reducible refine bset ?_ ?_ _); rotate_left; (first | omega | (simp <;> omega))))), by repeat (first | with_reducible exact hB13 | with_reducible apply bdrew | with_reducible apply bdrewN | with_reducible apply balloc | ((with_reducible refine bset ?_ ?_ _); rotate_left; (first | omega | (simp <;> omega))))⟩
          · have HLV := Lib.hid hlv
            have hrm := hlv.1
            have hrp := hlv.2.1
            obtain ⟨hik, hnx⟩ := HFN.out i hi _ ⟨c, r, HE.out, hlv, rfl⟩
            have HNX := Lib.hid hnx
            have hrn : ¬ ((r : Int) < 0) := by omega
            have hgk := Lib.hid (show i + 1 + (gk - 1) = K ∧ gk - 1 < gk by have := HG.out; omega)
            clear hlv hnx
            go_wp2_with fail
            refine (pivot_any _ base L P (f i) HP.out HOK.out.toTabl (by rw [hm.out, hN.out]; exact hM3.below (by repeat (first | with_reducible exact Below.refl _ _ | with_reducible apply bdrew | with_reducible apply bdrewN | with_reducible apply balloc | ((with_reducible refine bset ?_ ?_ _); rotate_left; (first | omega | (simp <;> omega)))))) (Nat.le_trans hb hB13.size) r c hrm (by omega) (by omega)).mono ?_
            rintro e w4 ⟨rfl, hM4, hB4⟩
            rw [← HNX.out, hm.out, hN.out] at hM4
            go_wp2
            go_roundg (gk - 1)
            case measure => exact hgk.out.2
            case rel => exact ⟨i + 1, by omega, Lib.hid hgk.out.1, hM4.below (by repeat (first | with_reducible exact Below.refl _ _ | with_reducible apply bdrew | with_reducible apply bdrewN | with_reducible apply balloc | ((with_reducible refine bset ?_ ?_ _); rotate_left; (first | omega | (simp <;> omega))))), hB13.trans hB4⟩
      · obtain rfl : c = lim := by omega
        go_wp2
        go_ret
        exact ⟨f i, -1, rfl, HOK.out, fun hl hn => HNA.out hl hn i hi, .inl ⟨rfl, HC.out⟩, by rw [hm.out, hN.out]; exact hM2.below (by repeat (first | with_reducible exact Below.refl _ _ | with_reducible apply bdrew | with_reducible apply bdrewN | with_reducible apply balloc | ((with_reducible refine bset ?_ ?_ _); rotate_left; (first | omega | (simp <;> omega))))), by repeat (first | with_reducible exact hB12 | with_reducible apply bdrew | with_reducible apply bdrewN | with_reducible apply balloc | ((with_reducible refine bset ?_ ?_ _); rotate_left; (first | omega | (simp <;> omega))))⟩


end Go.Proofs.Ytkepfmglljkjhaa
