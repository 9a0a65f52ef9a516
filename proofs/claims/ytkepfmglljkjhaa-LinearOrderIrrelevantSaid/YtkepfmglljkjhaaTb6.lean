/-
  (*tableau).point: the values of the variables in a column.
-/
import Derived.Test.YtkepfmglljkjhaaTb5
import Derived.Test.YtkepfmglljkjhaaLa8
namespace Go.Proofs.Ytkepfmglljkjhaa
open Go.RowKit
set_option linter.unusedVariables false
set_option linter.unusedSimpArgs false

def ptTo (bs : Nat → Nat) (T : Nat → Nat → Int) (col i j : Nat) : Int := LA.sumN i fun k => if bs k = j then T k col else 0
theorem ptTo_hit {bs : Nat → Nat} {T : Nat → Nat → Int} {col i : Nat} (h : ∀ k, k < i → bs k ≠ bs i) : ptTo bs T col (i + 1) (bs i) = T i col := by
  show LA.sumN i _ + _ = _
  rw [LA.sumN_eq_zero fun k hk => if_neg (h k hk)]; simp
theorem ptTo_miss {bs : Nat → Nat} {T : Nat → Nat → Int} {col i j : Nat} (h : bs i ≠ j) : ptTo bs T col (i + 1) j = ptTo bs T col i j := by
  show LA.sumN i _ + (if bs i = j then T i col else 0) = _
  rw [if_neg h, Int.add_zero]; rfl
set_option maxRecDepth 100000 in
set_option maxHeartbeats 4000000 in
theorem point_walk (w : World) (base : Nat) (L : TbLay) (m N n : Nat) (bs : Nat → Nat) (T : Nat → Nat → Int) (den : Int) (col : Nat) (sg : Int) (hM : TbMem base w L m N bs T den) (hcol : col < N) (hsg : sg = 1 ∨ sg = -1) (hTB : ∀ i, i < m → -1000000000 ≤ T i col ∧ T i col ≤ 1000000000) (hinj : ∀ i k, i < m → k < m → bs i = bs k → i = k) (hm6 : m ≤ 6) (hn6 : n ≤ 100) :
    Calls Try.prog 37 #[.pointer (some ⟨L.b, 0, none⟩), .int .i64 n, .int .i64 col, .int .i64 sg] w fun e w' => ∃ g : Nat, e = .returned (.slice (some ⟨g, 0, none⟩) n n) ∧ w.heap.size ≤ g ∧ IArr w' g (tbRow n fun j => sg * ptTo bs T col m j) ∧ Below w.heap.size w w' := by
  obtain ⟨Lb, LgR, LcR, Lblk, LAB, LcB⟩ := L
  have HTB := Lib.hid hTB
  have HIN := Lib.hid hinj
  have HM := Lib.hid hM
  have hsb := hM.sepB
  have hx1 := hM.box1
  have hlt1 := World.block_lt_of_cell? w _ hx1
  have hx0 := hM.box0
  have hlt0 := World.block_lt_of_cell? w _ (hM.out 0 (by omega))
  dsimp only at hx1 hlt1 hx0 hlt0
  have hmk := make_ints n (by omega)
  have HMP := Lib.hid (tbRow_zero n)
  have HSG := Lib.hid hsg
  have hsg1 : -1 ≤ sg ∧ sg ≤ 1 := by omega
  clear hTB hinj hM hsb hsg
  go_enter Try.func37, Try.ntmps37
  go_wp2_with fail
  go_loopw [19] (fun x wr => ∃ i : Nat, i ≤ m ∧ x = .int .i64 i ∧ Below w.heap.size w wr ∧ IArr wr w.heap.size (tbRow n fun j => sg * ptTo bs T col i j)) (fun x _ => m - (intOf x).toNat)
  case atStart => exact ⟨0, Nat.zero_le _, rfl, by repeat (first | with_reducible exact Below.refl _ _ | with_reducible apply bdrew | with_reducible apply bdrewN | with_reducible apply balloc | ((with_reducible refine bset ?_ ?_ _); rotate_left; (first | omega | (simp <;> omega)))), by
    have h := IArr.made w n w.heap.size rfl
    rw [HMP.out, tbRow_congr (g := fun j => sg * ptTo bs T col 0 j) fun j _ => by unfold ptTo; simp [LA.sumN]] at h
    simpa using h⟩
  case round =>
    obtain ⟨i, hi, rfl, hB1, hA1⟩ := hrel
    obtain ⟨w1, rfl⟩ : ∃ wo : World, wo = wr := ⟨_, rfl⟩
    have hM1 := HM.out.below hB1
    have hs1 := hA1.lt
    by_cases hlt : i < m
    · have hi2 : i < m + 2 := by omega
      have hi3 : (i : Int) < (m : Int) + 2 := by omega
      obtain ⟨g, hA, hg1, hg2, hg3, hg4⟩ := hM1.bas hlt
      have hy0 := hM1.box0
      have hyo := hM1.out i hi2
      have hyc := (hM1.cell (i := i) (j := col) hi2 hcol).1
      dsimp only at hA hy0 hyo hyc
      subst hA
      have hTb := HTB.out i hlt
      obtain ⟨v, hv⟩ : ∃ v, Hid (bs i = v) := ⟨_, Lib.hid rfl⟩
      obtain ⟨x, hx⟩ : ∃ x, Hid (T i col = x) := ⟨_, Lib.hid rfl⟩
      rw [hv.out] at hg3
      rw [hx.out] at hyc hTb
      have hmul := LA.abs_mul hsg1 hTb
      obtain ⟨hmul1, hmul2⟩ := hmul
      obtain ⟨p, hp⟩ : ∃ p, Hid (sg * x = p) := ⟨_, Lib.hid rfl⟩
      have hwp : IntKind.i64.wrap (sg * x) = p := by rw [hp.out] at hmul1 hmul2 ⊢; exact Go.IntWalk.i64_in _ (by omega)
      by_cases hvn : v < n
      · have hvn' : decide ((v : Int) < (n : Int)) = true := decide_eq_true (by omega)
        obtain ⟨z, hz, hzc, hzf⟩ := hA1.cell (i := v) (by rw [tbRow_len]; exact hvn)
        clear hz
        go_wp2
        go_roundw
        case rel => exact ⟨i + 1, by omega, by go_num, by repeat (first | with_reducible exact hB1 | with_reducible apply bdrew | with_reducible apply bdrewN | with_reducible apply balloc | ((with_reducible refine bset ?_ ?_ _); rotate_left; (first | omega | (simp <;> omega)))), (by
          have h := hA1.set_ v p
          rw [tbRow_set] at h
          rw [tbRow_congr (g := fun j => if j = v then p else sg * ptTo bs T col i j) fun j _ => by
            by_cases e : j = v
            · rw [if_pos e, e, ← hv.out, ptTo_hit (fun k hk e2 => by have := HIN.out k i (by omega) hlt e2; omega), hx.out, hp.out]
            · rw [if_neg e, ptTo_miss (by rw [hv.out]; exact fun e2 => e e2.symm)]]
          exact h.below (by repeat (first | with_reducible exact Below.refl _ _ | with_reducible apply bdrew | with_reducible apply bdrewN | with_reducible apply balloc | ((with_reducible refine bset ?_ ?_ _); rotate_left; (first | omega | (simp <;> omega))))))⟩
        case measure => simp [intOf]; omega
      · have hvn' : decide ((v : Int) < (n : Int)) = false := decide_eq_false (by omega)
        go_wp2
        go_roundw
        case rel => exact ⟨i + 1, by omega, by go_num, by repeat (first | with_reducible exact hB1 | with_reducible apply bdrew | with_reducible apply bdrewN | with_reducible apply balloc | ((with_reducible refine bset ?_ ?_ _); rotate_left; (first | omega | (simp <;> omega)))), (by
          rw [tbRow_congr (g := fun j => sg * ptTo bs T col i j) fun j hj => by rw [ptTo_miss (by rw [hv.out]; omega)]]
          exact hA1.below (by repeat (first | with_reducible exact Below.refl _ _ | with_reducible apply bdrew | with_reducible apply bdrewN | with_reducible apply balloc | ((with_reducible refine bset ?_ ?_ _); rotate_left; (first | omega | (simp <;> omega))))))⟩
        case measure => simp [intOf]; omega
    · obtain rfl : m = i := by omega
      go_wp2
      go_ret
      exact ⟨w.heap.size, rfl, Nat.le_refl _, hA1.below (by repeat (first | with_reducible exact Below.refl _ _ | with_reducible apply bdrew | with_reducible apply bdrewN | with_reducible apply balloc | ((with_reducible refine bset ?_ ?_ _); rotate_left; (first | omega | (simp <;> omega))))), by repeat (first | with_reducible exact hB1 | with_reducible apply bdrew | with_reducible apply bdrewN | with_reducible apply balloc | ((with_reducible refine bset ?_ ?_ _); rotate_left; (first | omega | (simp <;> omega))))⟩


end Go.Proofs.Ytkepfmglljkjhaa
