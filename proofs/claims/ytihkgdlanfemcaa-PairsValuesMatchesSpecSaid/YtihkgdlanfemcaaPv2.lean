/-
  setValue, PairGoal, the reference's: what they return.
-/
import Derived.Test.YtihkgdlanfemcaaPv1
import Derived.Test.YtihkgdlanfemcaaBf3
import Derived.Test.YtihkgdlanfemcaaMP
namespace Go.Proofs.Ytihkgdlanfemcaa
open Go.RowKit
set_option linter.unusedVariables false
set_option linter.unusedSimpArgs false

theorem valTo_first (V : Int → Int → Int) (l : List Int) : valTo V l 0 0 = 0 := by
  cases h : l[0]? with
  | some p => exact valTo_start h
  | none => unfold valTo; rw [h]; exact valP_zero h
/-- A cell of a table of values. -/
theorem tab_at {w : World} {A : Option Addr} {n : Nat} {V : Int → Int → Int} (h : LLR w A (tabR n V)) {p q : Int} (hp : 0 ≤ p ∧ p < (n : Int)) (hq : 0 ≤ q ∧ q < (n : Int)) :
    ∃ ad bd c, A = some ad ∧ w.cell? (ad.add p.toNat) = some (.slice (some bd) n c) ∧ w.cell? (bd.add q.toNat) = some (.int .i64 (V p q)) ∧ Ints w (some bd) (rowV n (V p)) := by
  have e : ((p.toNat : Nat) : Int) = p := by omega
  have e2 : ((q.toNat : Nat) : Int) = q := by omega
  obtain ⟨ad, B, c, hA, hc, hI⟩ := h p.toNat _ (tabR_get (by omega))
  rw [rowV_len] at hc
  rw [e] at hI
  obtain ⟨bd, hb, hcv⟩ := hI q.toNat (.int .i64 (V p q)) (by rw [List.getElem?_map, rowV_get (by omega), e2]; rfl)
  subst hb
  exact ⟨ad, bd, c, hA, hc, hcv, hI⟩
set_option maxRecDepth 100000 in
set_option maxHeartbeats 1000000 in
theorem setval_any (w : World) (A : Option Addr) (n c : Nat) (V : Int → Int → Int) (hT : LLR w A (tabR n V)) (B : Option Addr) (l : List Int) (d : Nat) (hI : Ints w B l) (hll : l.length ≤ 1000000) (hn : n ≤ 1000) (hl : ∀ x ∈ l, 0 ≤ x ∧ x < (n : Int)) :
    Calls Try.prog 65 #[.slice A n c, .slice B l.length d] w fun e w' => e = .returned (.int .i64 (valP V l)) ∧ Below w.heap.size w w' := by
  have HX := Lib.hid hl
  clear hl
  go_enter Try.func65, Try.ntmps65
  go_wp2_with fail
  go_loopw [5, 6] (fun a i wr => ∃ (k : Nat) (o : Int), k ≤ l.length ∧ i = .int .i64 k ∧ a = .int .i64 o ∧ Hid (valTo V l k 0 = o) ∧ Below w.heap.size w wr) (fun _ i _ => l.length - (intOf i).toNat)
  case atStart => exact ⟨0, 0, Nat.zero_le _, rfl, rfl, Lib.hid (valTo_first V l), Below.refl _ _⟩
  case round =>
    obtain ⟨k, o, hk, rfl, rfl, hC, hBr⟩ := hrel
    obtain ⟨w1, rfl⟩ : ∃ wo : World, wo = wr := ⟨_, rfl⟩
    by_cases hlt : k < l.length
    · obtain ⟨bd, x, rfl, hx, hcx0⟩ := hI.at_ hlt
      obtain ⟨x0, x1⟩ := HX.out x (List.mem_of_getElem? hx.out)
      obtain ⟨ad, bd0, c0, rfl, _⟩ := tab_at hT ⟨x0, x1⟩ ⟨x0, x1⟩
      go_wp2_with fail
      go_loopw [5, 7] (fun a i wr => ∃ (j : Nat) (o : Int), j ≤ l.length ∧ i = .int .i64 j ∧ a = .int .i64 o ∧ Hid (valTo V l k j = o) ∧ Below w.heap.size w wr) (fun _ i _ => l.length - (intOf i).toNat)
      case atStart => exact ⟨0, o, Nat.zero_le _, rfl, rfl, hC, (by repeat (first | with_reducible exact hBr | with_reducible apply bdrew | with_reducible apply bdrewN | with_reducible apply balloc | ((with_reducible refine bset ?_ ?_ _); rotate_left; (first | omega | (simp <;> omega)))))⟩
      case round =>
        clear hBr
        obtain ⟨j, o1, hj, rfl, rfl, hC1, hBs⟩ := hrel
        obtain ⟨w2, rfl⟩ : ∃ wo : World, wo = wr := ⟨_, rfl⟩
        by_cases hjl : j < l.length
        · obtain ⟨bd', y, e, hy, hcy0⟩ := hI.at_ (k := j) hjl
          injection e with e
          subst e
          obtain ⟨y0, y1⟩ := HX.out y (List.mem_of_getElem? hy.out)
          obtain ⟨ad', rd, c1, e, hrow0, hval0, -⟩ := tab_at hT ⟨x0, x1⟩ ⟨y0, y1⟩
          injection e with e
          subst e
          have hcx := (hBs.cell (World.block_lt_of_cell? w _ hcx0)).trans hcx0
          have hcy := (hBs.cell (World.block_lt_of_cell? w _ hcy0)).trans hcy0
          have hrow := (hBs.cell (World.block_lt_of_cell? w _ hrow0)).trans hrow0
          have hval := (hBs.cell (World.block_lt_of_cell? w _ hval0)).trans hval0
          obtain ⟨vv, hvv⟩ : ∃ vv, Hid (V x y = vv) := ⟨_, Lib.hid rfl⟩
          rw [hvv.out] at hval
          clear hcx0 hcy0 hrow0 hval0
          go_wp2_with fail
          go_region
          go_wp2_with fail
          go_roundw
          case rel => exact ⟨j + 1, max o1 vv, by omega, by go_num, (by first | rfl | (simp only [Int.max_def]; split <;> rfl) | (simp only [Int.max_def]; congr 1; (repeat split) <;> omega)), Lib.hid (by rw [valTo_step hx.out hy.out, hC1.out, hvv.out]), (by repeat (first | with_reducible exact hBs | with_reducible apply bdrew | with_reducible apply bdrewN | with_reducible apply balloc | ((with_reducible refine bset ?_ ?_ _); rotate_left; (first | omega | (simp <;> omega)))))⟩
          case measure => simp [intOf]; omega
        · obtain rfl : j = l.length := by omega
          go_wp2_with fail
          go_roundw
          case rel => exact ⟨k + 1, o1, by omega, by go_num, rfl, Lib.hid (by rw [← valTo_row hx.out]; exact hC1.out), (by repeat (first | with_reducible exact hBs | with_reducible apply bdrew | with_reducible apply bdrewN | with_reducible apply balloc | ((with_reducible refine bset ?_ ?_ _); rotate_left; (first | omega | (simp <;> omega)))))⟩
          case measure => simp [intOf]; omega
    · have HE := Lib.hid (show o = valP V l by rw [← hC.out]; exact valTo_nil (by omega))
      go_wp2_with fail
      go_ret
      exact ⟨ret_int HE.out, by repeat (first | with_reducible exact hBr | with_reducible apply bdrew | with_reducible apply bdrewN | with_reducible apply balloc | ((with_reducible refine bset ?_ ?_ _); rotate_left; (first | omega | (simp <;> omega))))⟩

set_option maxRecDepth 100000 in
set_option maxHeartbeats 400000 in
theorem rpgoal_any (w : World) (t : TaskV) (Ai Ag Ao : Option Addr) (ci cg co : Nat) (hT : TaskMem w Ai Ag Ao t) (A : Option Addr) (n c : Nat) (V : Int → Int → Int) (hA : LLR w A (tabR n V)) (hlg : t.goal.length ≤ 1000000) (hn : n ≤ 1000) (hgo : ∀ x ∈ t.goal, 0 ≤ x ∧ x < (n : Int)) :
    Calls Try.prog 26 #[.agg #[.int .i64 t.facts, .slice Ai t.init.length ci, .slice Ag t.goal.length cg, .slice Ao t.ops.length co], .slice A n c] w fun e w' => e = .returned (.int .i64 (valP V t.goal)) ∧ Below w.heap.size w w' := by
  have HI := Lib.hid hgo
  clear hgo
  go_enter Try.func26, Try.ntmps26
  go_wp2_with fail
  refine (setval_any _ A n c V (hA.below (by repeat (first | with_reducible exact Below.refl _ _ | with_reducible apply bdrew | with_reducible apply bdrewN | with_reducible apply balloc | ((with_reducible refine bset ?_ ?_ _); rotate_left; (first | omega | (simp <;> omega)))))) Ag t.goal cg (hT.goal.below (by repeat (first | with_reducible exact Below.refl _ _ | with_reducible apply bdrew | with_reducible apply bdrewN | with_reducible apply balloc | ((with_reducible refine bset ?_ ?_ _); rotate_left; (first | omega | (simp <;> omega)))))) hlg hn HI.out).mono ?_
  rintro e w1 ⟨rfl, hB1⟩
  have D1 := dstep w hB1 (by repeat (first | with_reducible exact Below.refl _ _ | with_reducible apply bdrew | with_reducible apply bdrewN | with_reducible apply balloc | ((with_reducible refine bset ?_ ?_ _); rotate_left; (first | omega | (simp <;> omega)))))
  have d1s := D1.size
  have C1 := Cls.below (l := [(w.heap.size, 0, .int .i64 t.facts), (w.heap.size, 1, .slice Ai t.init.length ci), (w.heap.size, 2, .slice Ag t.goal.length cg), (w.heap.size, 3, .slice Ao t.ops.length co)]) hB1 (by simp [Cls, go_sem])
  have F1 := C1
  simp only [Cls, and_true] at F1
  have y1w0 : w.heap.size < w1.heap.size := C1.blk (b := w.heap.size) (k := 0) (v := .int .i64 t.facts) (by simp)
  have y1wp1 : w.heap.size < w1.heap.size + 1 := (by omega)
  have y1wp2 : w.heap.size < w1.heap.size + 1 + 1 := (by omega)
  go_wp2
  go_ret
  exact ⟨rfl, by repeat (first | with_reducible exact D1 | with_reducible apply bdrew | with_reducible apply bdrewN | with_reducible apply balloc | ((with_reducible refine bset ?_ ?_ _); rotate_left; (first | omega | (simp <;> omega))))⟩


end Go.Proofs.Ytihkgdlanfemcaa
