/-
  helmsmanref3.SupporterOf: the supporter of a fact.
-/
import Derived.Test.YtihkgdlanfemcaaAch
import Derived.Test.YtihkgdlanfemcaaSp1
namespace Go.Proofs.Ytihkgdlanfemcaa
open Go.RowKit
set_option linter.unusedVariables false
set_option linter.unusedSimpArgs false

theorem supTo_none {V : List Int} {ops : List OpV} {p : Int} (h : valAt V p ≤ 0) : ∀ i, i ≤ ops.length → supTo V ops p i = (-1, 0)
  | 0, _ => rfl
  | i + 1, hi => by
    rw [supTo_succ (List.getElem?_eq_getElem (show i < ops.length by omega)), if_neg, supTo_none h i (by omega)]
    rintro ⟨hg, _⟩
    have := hg.2.1
    omega
theorem supOf_none {V : List Int} {ops : List OpV} {p : Int} (h : valAt V p ≤ 0) : supOf V ops p = -1 := by
  unfold supOf; rw [supTo_none h _ (Nat.le_refl _)]
/-- The flag behind the first conditions. -/
def goodTo (V : List Int) (o : OpV) (p : Int) (j : Nat) : Prop := p ∈ o.add ∧ ∀ q ∈ o.pre.take j, 0 ≤ valAt V q ∧ valAt V q < valAt V p
theorem goodTo_zero {V : List Int} {o : OpV} {p : Int} : goodTo V o p 0 ↔ p ∈ o.add := by unfold goodTo; simp
theorem goodTo_succ {V : List Int} {o : OpV} {p x : Int} {j : Nat} (hx : o.pre[j]? = some x) : goodTo V o p (j + 1) ↔ goodTo V o p j ∧ 0 ≤ valAt V x ∧ valAt V x < valAt V p := by
  unfold goodTo
  rw [List.take_add_one, hx]
  constructor
  · rintro ⟨h1, h2⟩
    exact ⟨⟨h1, fun q hq => h2 q (List.mem_append_left _ hq)⟩, h2 x (List.mem_append_right _ (by simp))⟩
  · rintro ⟨⟨h1, h2⟩, h3⟩
    refine ⟨h1, fun q hq => ?_⟩
    rcases List.mem_append.1 hq with h | h
    · exact h2 q h
    · have : q = x := by simpa using h
      rw [this]; exact h3
theorem goodTo_all {V : List Int} {o : OpV} {p : Int} {j : Nat} (hj : o.pre.length ≤ j) (h0 : 0 < valAt V p) : goodTo V o p j ↔ goodO V o p := by
  unfold goodTo goodO
  rw [List.take_of_length_le hj]
  exact ⟨fun h => ⟨h.1, h0, h.2⟩, fun h => ⟨h.1, h.2.2⟩⟩
set_option maxRecDepth 100000 in
set_option maxHeartbeats 4000000 in
theorem supporterof_any (w : World) (t : TaskV) (Ai Ag Ao : Option Addr) (ci cg co : Nat) (hT : TaskMem w Ai Ag Ao t) (gl : Nat) (V : List Int) (hA : IArr w gl V) (n : Nat) (hn : t.facts = n) (hv : Valid t) (hVl : V.length = n) (hVr : ∀ q, -1 ≤ valAt V q ∧ valAt V q ≤ (n : Int)) (p : Nat) (hp : p < n) :
    Calls Try.prog 31 #[.agg #[.int .i64 t.facts, .slice Ai t.init.length ci, .slice Ag t.goal.length cg, .slice Ao t.ops.length co], .slice (some ⟨gl, 0, none⟩) n n, .int .i64 (p : Int)] w fun e w' => e = .returned (.int .i64 (supOf V t.ops (p : Int))) ∧ Below w.heap.size w w' := by
  have HV := Lib.hid hv
  have hlo := hT.lops.le
  have h40 := hv.nops
  have hn24 : n ≤ 24 := by have := hv.f1; omega
  have HOPS := Lib.hid (ops_in hv hn)
  have HPL := Lib.hid (show ∀ o ∈ t.ops, o.pre.length ≤ 24 from fun o ho => by have h1 := (hv.ops o ho).1.1.length hv.f0; have h2 := hv.f1; omega)
  have HVR := Lib.hid hVr
  obtain ⟨y0, hy0, hyc0, hyf0⟩ := hA.cell (i := p) (by omega)
  have hv0 := Lib.hid (show valAt V (p : Int) = y0 from valAt_of (by simpa using hy0.out))
  have hyr0 := hVr (p : Int)
  rw [hv0.out] at hyr0
  have hgl : gl < w.heap.size := World.block_lt_of_cell? w _ hyc0
  clear hv hVr hn
  by_cases h0 : y0 ≤ 0
  · have hsn := Lib.hid (supOf_none (V := V) (ops := t.ops) (p := (p : Int)) (by rw [hv0.out]; exact h0))
    rw [hsn.out]
    have h0' : decide (y0 ≤ 0) = true := decide_eq_true h0
    go_enter Try.func31, Try.ntmps31
    go_wp2
    go_ret
    exact ⟨rfl, by repeat (first | with_reducible exact Below.refl _ _ | with_reducible apply bdrew | with_reducible apply bdrewN | with_reducible apply balloc | ((with_reducible refine bset ?_ ?_ _); rotate_left; (first | omega | (simp <;> omega))))⟩
  · have h0' : decide (y0 ≤ 0) = false := decide_eq_false h0
    go_enter Try.func31, Try.ntmps31
    go_wp2_with fail
    go_loopw [7, 8, 9] (fun b l i wr => ∃ k : Nat, k ≤ t.ops.length ∧ i = .int .i64 k ∧ b = .int .i64 (supTo V t.ops (p : Int) k).1 ∧ l = .int .i64 (supTo V t.ops (p : Int) k).2 ∧ Below w.heap.size w wr ∧ Cls wr [(w.heap.size, 0, .int .i64 t.facts), (w.heap.size, 1, .slice Ai t.init.length ci), (w.heap.size, 2, .slice Ag t.goal.length cg), (w.heap.size, 3, .slice Ao t.ops.length co)]) (fun _ _ i _ => t.ops.length - (intOf i).toNat)
    case atStart => exact ⟨0, Nat.zero_le _, rfl, rfl, rfl, (by repeat (first | with_reducible exact Below.refl _ _ | with_reducible apply bdrew | with_reducible apply bdrewN | with_reducible apply balloc | ((with_reducible refine bset ?_ ?_ _); rotate_left; (first | omega | (simp <;> omega))))), (by simp [Cls, go_sem])⟩
    case round =>
      obtain ⟨k, hk, rfl, rfl, rfl, hBr, hCr⟩ := hrel
      obtain ⟨w1, rfl⟩ : ∃ wo : World, wo = wr := ⟨_, rfl⟩
      have drs := hBr.size
      have Fr := hCr
      simp only [Cls, and_true] at Fr
      have yrw0 : w.heap.size < w1.heap.size := hCr.blk (b := w.heap.size) (k := 0) (v := .int .i64 t.facts) (by simp)
      have yrwp1 : w.heap.size < w1.heap.size + 1 := (by omega)
      have yrwp2 : w.heap.size < w1.heap.size + 1 + 1 := (by omega)
      obtain ⟨bk, hbk⟩ : ∃ a, Hid ((supTo V t.ops (p : Int) k).1 = a) := ⟨_, Lib.hid rfl⟩
      obtain ⟨lk, hlk⟩ : ∃ a, Hid ((supTo V t.ops (p : Int) k).2 = a) := ⟨_, Lib.hid rfl⟩
      rw [hbk.out, hlk.out]
      by_cases hlt : k < t.ops.length
      · obtain ⟨ad, o, A0, c0, A2, c2, A4, c4, rfl, ho, hc0, hc1, hc2, hc3, hm⟩ := hT.ops.at2 hBr hlt
        have hoo := Lib.hid (HOPS.out o (List.mem_of_getElem? ho.out))
        have hpl : o.pre.length ≤ 24 := HPL.out o (List.mem_of_getElem? ho.out)
        have hla := hm.ladd.le
        have hlp := hm.lpre.le
        have HSUC := Lib.hid (supTo_succ (V := V) (p := (p : Int)) ho.out)
        obtain ⟨gb, hgb⟩ : ∃ a, Hid (decide ((p : Int) ∈ o.add) = a) := ⟨_, Lib.hid rfl⟩
        go_wp2_with fail
        refine (has_any _ _ _ _ _ (hm.add.below (by repeat (first | with_reducible exact hBr | with_reducible apply bdrew | with_reducible apply bdrewN | with_reducible apply balloc | ((with_reducible refine bset ?_ ?_ _); rotate_left; (first | omega | (simp <;> omega)))))) hla).mono ?_
        rintro e w' ⟨he, rfl⟩
        rw [hgb.out] at he
        subst he
        go_wp2_with fail
        go_loopw [11, 12, 13] (fun s g i wr => ∃ (j : Nat) (gd : Bool), j ≤ o.pre.length ∧ i = .int .i64 j ∧ s = .int .i64 (sumL V (o.pre.take j)) ∧ g = .bool gd ∧ Hid (gd = true ↔ goodTo V o (p : Int) j) ∧ Below w.heap.size w wr ∧ Cls wr [(w.heap.size, 0, .int .i64 t.facts), (w.heap.size, 1, .slice Ai t.init.length ci), (w.heap.size, 2, .slice Ag t.goal.length cg), (w.heap.size, 3, .slice (some ad) t.ops.length co), (w1.heap.size, 0, .slice A0 o.pre.length c0), (w1.heap.size, 1, .slice A2 o.add.length c2), (w1.heap.size, 2, .slice A4 o.del.length c4), (w1.heap.size, 3, .int .i64 o.cost)]) (fun _ _ i _ => o.pre.length - (intOf i).toNat)
        case atStart => exact ⟨0, gb, Nat.zero_le _, rfl, rfl, rfl, Lib.hid (by rw [goodTo_zero, ← hgb.out]; exact decide_eq_true_iff), (by repeat (first | with_reducible exact hBr | with_reducible apply bdrew | with_reducible apply bdrewN | with_reducible apply balloc | ((with_reducible refine bset ?_ ?_ _); rotate_left; (first | omega | (simp <;> omega))))), (by simp [Cls, go_sem, Fr, yrw0, yrwp1, yrwp2])⟩
        case round =>
          obtain ⟨j, gd, hj, rfl, rfl, rfl, hgd, hBu, hCu⟩ := hrel
          obtain ⟨w2, rfl⟩ : ∃ wo : World, wo = wr := ⟨_, rfl⟩
          have dus := hBu.size
          have Fu := hCu
          simp only [Cls, and_true] at Fu
          have yuw0 : w.heap.size < w2.heap.size := hCu.blk (b := w.heap.size) (k := 0) (v := .int .i64 t.facts) (by simp)
          have yuwp1 : w.heap.size < w2.heap.size + 1 := (by omega)
          have yuwp2 : w.heap.size < w2.heap.size + 1 + 1 := (by omega)
          have yuw10 : w1.heap.size < w2.heap.size := hCu.blk (b := w1.heap.size) (k := 0) (v := .slice A0 o.pre.length c0) (by simp)
          have yuw1p1 : w1.heap.size < w2.heap.size + 1 := (by omega)
          have yuw1p2 : w1.heap.size < w2.heap.size + 1 + 1 := (by omega)
          by_cases hlj : j < o.pre.length
          · obtain ⟨pd, x, rfl, hx, hpc⟩ := (hm.pre.below hBu).at_ hlj
            obtain ⟨x0, x1⟩ := hoo.out.1 x (List.mem_of_getElem? hx.out)
            obtain ⟨x, rfl⟩ := Int.eq_ofNat_of_zero_le x0
            obtain ⟨y, hy, hyc, hyf⟩ := (hA.below hBu).cell (i := x) (by omega)
            have hva := Lib.hid (show valAt V (x : Int) = y from valAt_of (by simpa using hy.out))
            have hyc0u : w2.cell? ⟨gl, p, none⟩ = some (.int .i64 y0) := (hBu.cell (World.block_lt_of_cell? w _ hyc0)).trans hyc0
            have hglu : gl < w2.heap.size := World.block_lt_of_cell? w2 _ hyc0u
            have HSU := Lib.hid (sumL_succ (V := V) hx.out)
            have HGS := Lib.hid (goodTo_succ (V := V) (p := (p : Int)) hx.out)
            have hsr := sumL_rng HVR.out (o.pre.take j)
            have hyr := HVR.out (x : Int)
            rw [hva.out] at HSU HGS hyr
            rw [hv0.out] at HGS
            have hjl : ((o.pre.take j).length : Int) ≤ 24 := by rw [List.length_take]; omega
            have hjm : ((o.pre.take j).length : Int) * (n : Int) ≤ 24 * 24 := Int.mul_le_mul hjl (by omega) (by omega) (by omega)
            obtain ⟨sj, hsj⟩ : ∃ a, Hid (sumL V (o.pre.take j) = a) := ⟨_, Lib.hid rfl⟩
            rw [hsj.out] at HSU hsr ⊢
            have hsb : -1000 ≤ sj ∧ sj ≤ 1000 := by omega
            clear hjl hjm hsr hy
            cases gd with
            | false =>
              have HNG := Lib.hid (show ¬ goodTo V o (p : Int) j from fun h => by have := hgd.out.2 h; cases this)
              go_wp2_with fail
              go_quiet (fail)
              go_wp2
              go_roundw
              case rel => exact ⟨j + 1, false, by omega, by go_num, by rw [HSU.out], rfl, Lib.hid (by rw [HGS.out]; exact ⟨fun h => (by cases h), fun h => absurd h.1 HNG.out⟩), (by repeat (first | with_reducible exact hBu | with_reducible apply bdrew | with_reducible apply bdrewN | with_reducible apply balloc | ((with_reducible refine bset ?_ ?_ _); rotate_left; (first | omega | (simp <;> omega))))), (Cls.below (w := w2) (by repeat (first | with_reducible exact Below.refl _ _ | with_reducible apply bdrew | with_reducible apply bdrewN | with_reducible apply balloc | ((with_reducible refine bset ?_ ?_ _); rotate_left; (first | omega | (simp <;> omega))))) hCu)⟩
              case measure => simp [intOf]; omega
            | true =>
              have HYG := Lib.hid (hgd.out.1 rfl)
              by_cases hin : 0 ≤ y ∧ y < y0
              · obtain ⟨hin1, hin2⟩ := hin
                go_wp2_with fail
                go_quiet ((go_at_call 42; exact Calls.quiet_of_same ((in_yes _ _ _ _ (by omega) (by omega)).mono fun _ _ h => ⟨h.1, h.2.symm⟩)))
                go_wp2
                go_roundw
                case rel => exact ⟨j + 1, true, by omega, by go_num, by rw [HSU.out], rfl, Lib.hid (by rw [HGS.out]; exact ⟨fun _ => ⟨HYG.out, hin1, hin2⟩, fun _ => rfl⟩), (by repeat (first | with_reducible exact hBu | with_reducible apply bdrew | with_reducible apply bdrewN | with_reducible apply balloc | ((with_reducible refine bset ?_ ?_ _); rotate_left; (first | omega | (simp <;> omega))))), (Cls.below (w := w2) (by repeat (first | with_reducible exact Below.refl _ _ | with_reducible apply bdrew | with_reducible apply bdrewN | with_reducible apply balloc | ((with_reducible refine bset ?_ ?_ _); rotate_left; (first | omega | (simp <;> omega))))) hCu)⟩
                case measure => simp [intOf]; omega
              · have hin' : y < 0 ∨ y0 - 1 < y := by omega
                go_wp2_with fail
                go_quiet ((go_at_call 42; exact Calls.quiet_of_same ((in_no _ _ _ _ hin').mono fun _ _ h => ⟨h.1, h.2.symm⟩)))
                go_wp2
                go_roundw
                case rel => exact ⟨j + 1, false, by omega, by go_num, by rw [HSU.out], rfl, Lib.hid (by rw [HGS.out]; exact ⟨fun h => (by cases h), fun h => absurd h.2 hin⟩), (by repeat (first | with_reducible exact hBu | with_reducible apply bdrew | with_reducible apply bdrewN | with_reducible apply balloc | ((with_reducible refine bset ?_ ?_ _); rotate_left; (first | omega | (simp <;> omega))))), (Cls.below (w := w2) (by repeat (first | with_reducible exact Below.refl _ _ | with_reducible apply bdrew | with_reducible apply bdrewN | with_reducible apply balloc | ((with_reducible refine bset ?_ ?_ _); rotate_left; (first | omega | (simp <;> omega))))) hCu)⟩
                case measure => simp [intOf]; omega
          · have hall := Lib.hid (show o.pre.take j = o.pre from List.take_of_length_le (by omega))
            have HG := Lib.hid (show gd = true ↔ goodO V o (p : Int) by rw [hgd.out]; exact goodTo_all (by omega) (by rw [hv0.out]; omega))
            rw [hall.out]
            obtain ⟨sm, hsm⟩ : ∃ a, Hid (sumL V o.pre = a) := ⟨_, Lib.hid rfl⟩
            rw [hsm.out] at HSUC ⊢
            rw [hbk.out, hlk.out] at HSUC
            cases gd with
            | false =>
              have HNX := Lib.hid (show supTo V t.ops (p : Int) (k + 1) = supTo V t.ops (p : Int) k by rw [HSUC.out, if_neg]; rintro ⟨h, _⟩; have := HG.out.2 h; cases this)
              go_wp2
              go_roundw
              case rel => exact ⟨k + 1, by omega, by go_num, by rw [HNX.out, hbk.out], by rw [HNX.out, hlk.out], (by repeat (first | with_reducible exact hBu | with_reducible apply bdrew | with_reducible apply bdrewN | with_reducible apply balloc | ((with_reducible refine bset ?_ ?_ _); rotate_left; (first | omega | (simp <;> omega))))), (by simp [Cls, go_sem, Fu, yuw0, yuwp1, yuwp2, yuw10, yuw1p1, yuw1p2])⟩
              case measure => simp [intOf]; omega
            | true =>
              have HGO := Lib.hid (HG.out.1 rfl)
              by_cases hb : bk < 0
              · have HNX := Lib.hid (show supTo V t.ops (p : Int) (k + 1) = ((k : Int), sm) by rw [HSUC.out, if_pos ⟨HGO.out, .inl hb⟩])
                have hb' : decide (bk < 0) = true := decide_eq_true hb
                go_wp2
                go_roundw
                case rel => exact ⟨k + 1, by omega, by go_num, by rw [HNX.out], by rw [HNX.out], (by repeat (first | with_reducible exact hBu | with_reducible apply bdrew | with_reducible apply bdrewN | with_reducible apply balloc | ((with_reducible refine bset ?_ ?_ _); rotate_left; (first | omega | (simp <;> omega))))), (by simp [Cls, go_sem, Fu, yuw0, yuwp1, yuwp2, yuw10, yuw1p1, yuw1p2])⟩
                case measure => simp [intOf]; omega
              · have hb' : decide (bk < 0) = false := decide_eq_false hb
                by_cases hl : sm < lk
                · have HNX := Lib.hid (show supTo V t.ops (p : Int) (k + 1) = ((k : Int), sm) by rw [HSUC.out, if_pos ⟨HGO.out, .inr hl⟩])
                  have hl' : decide (sm < lk) = true := decide_eq_true hl
                  go_wp2
                  go_roundw
                  case rel => exact ⟨k + 1, by omega, by go_num, by rw [HNX.out], by rw [HNX.out], (by repeat (first | with_reducible exact hBu | with_reducible apply bdrew | with_reducible apply bdrewN | with_reducible apply balloc | ((with_reducible refine bset ?_ ?_ _); rotate_left; (first | omega | (simp <;> omega))))), (by simp [Cls, go_sem, Fu, yuw0, yuwp1, yuwp2, yuw10, yuw1p1, yuw1p2])⟩
                  case measure => simp [intOf]; omega
                · have HNX := Lib.hid (show supTo V t.ops (p : Int) (k + 1) = supTo V t.ops (p : Int) k by rw [HSUC.out, if_neg]; rintro ⟨_, h⟩; omega)
                  have hl' : decide (sm < lk) = false := decide_eq_false hl
                  go_wp2
                  go_roundw
                  case rel => exact ⟨k + 1, by omega, by go_num, by rw [HNX.out, hbk.out], by rw [HNX.out, hlk.out], (by repeat (first | with_reducible exact hBu | with_reducible apply bdrew | with_reducible apply bdrewN | with_reducible apply balloc | ((with_reducible refine bset ?_ ?_ _); rotate_left; (first | omega | (simp <;> omega))))), (by simp [Cls, go_sem, Fu, yuw0, yuwp1, yuwp2, yuw10, yuw1p1, yuw1p2])⟩
                  case measure => simp [intOf]; omega
      · have hke : k = t.ops.length := by omega
        have hso : supOf V t.ops (p : Int) = bk := by unfold supOf; rw [← hke]; exact hbk.out
        go_wp2
        go_ret
        exact ⟨by first | exact hso.symm | exact hso | simp [hso], by repeat (first | with_reducible exact hBr | with_reducible apply bdrew | with_reducible apply bdrewN | with_reducible apply balloc | ((with_reducible refine bset ?_ ?_ _); rotate_left; (first | omega | (simp <;> omega))))⟩


end Go.Proofs.Ytihkgdlanfemcaa
