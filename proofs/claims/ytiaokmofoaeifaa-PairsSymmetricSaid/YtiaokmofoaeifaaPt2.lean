/-
  pairs: the greatest value of a set, lowering a value: what they return.
-/
import Derived.Test.YtiaokmofoaeifaaPt1
import Derived.Test.YtiaokmofoaeifaaMem2
namespace Go.Proofs.Ytiaokmofoaeifaa
open Go.RowKit
set_option linter.unusedVariables false
set_option linter.unusedSimpArgs false

/-- s[:k] -/
theorem cut_low (A : Option Addr) (n c k : Nat) (hk : k ≤ c) (hc2 : c ≤ 9223372036854775807) :
    ∀ (i : Int), i = (k : Int) → ∀ (w : World), (Instr.slice 22 (.slice A n c) none (some (.int .i64 i)) none).run Try.prog w = .ok (.slice A k c) w := by
  rintro i rfl w
  have h0 : (0 : Int) ≤ k := by omega
  have h1 : (k : Int) ≤ c := by omega
  simp [go_sem, Try.underlying22, h0, h1, hk]
  try omega
set_option maxRecDepth 100000 in
set_option maxHeartbeats 400000 in
theorem pvalue_any (w : World) (g n c : Nat) (bs : List Nat) (V : Int → Int → Int) (hT : Tbl w g bs n V) (A : Option Addr) (l : List Int) (hI : Ints w A l) (hc : l.length ≤ c) (hc2 : c ≤ 9223372036854775807) (hn : n ≤ 1000) (hl : ∀ x ∈ l, 0 ≤ x ∧ x < (n : Int)) (hs : ∀ p ∈ l, ∀ q ∈ l, V p q = V q p) :
    Calls Try.prog 65 #[.slice (some ⟨g, 0, none⟩) n n, .slice A l.length c] w fun e w' => e = .returned (.int .i64 (valP V l)) ∧ w = w' := by
  have HS := Lib.hid hs
  have HX := Lib.hid hl
  have HC : ∀ (k : Nat), k < l.length → ∀ (i : Int), i = (k : Int) + 1 → ∀ (w : World), (Instr.slice 22 (.slice A l.length c) none (some (.int .i64 i)) none).run Try.prog w = .ok (.slice A (k + 1) c) w := fun k hk i hi w => cut_low A l.length c (k + 1) (by omega) hc2 i (by omega) w
  clear hs hl
  go_enter Try.func65, Try.ntmps65
  go_wp2
  go_loop [5, 12] (fun a i => ∃ (k : Nat) (o : Int), k ≤ l.length ∧ i = .int .i64 k ∧ a = .int .i64 o ∧ Hid (Cov V l k 0 o)) (fun _ i => l.length - (intOf i).toNat)
  case atStart => exact ⟨0, 0, Nat.zero_le _, rfl, rfl, Lib.hid (Cov.start V l)⟩
  case round =>
    obtain ⟨k, o, hk, rfl, rfl, hC⟩ := hrel
    by_cases hlt : k < l.length
    · obtain ⟨ad, x, rfl, hx, hcx⟩ := hI.at_ hlt
      obtain ⟨x0, x1⟩ := HX.out x (List.mem_of_getElem? hx.out)
      have hcut := HC k hlt
      go_wp2
      go_loop [5, 22] (fun a i => ∃ (j : Nat) (o : Int), j ≤ k + 1 ∧ i = .int .i64 j ∧ a = .int .i64 o ∧ Hid (Cov V l k j o)) (fun _ i => k + 1 - (intOf i).toNat)
      case atStart => exact ⟨0, o, by omega, rfl, rfl, hC⟩
      case round =>
        obtain ⟨j, o1, hj, rfl, rfl, hC1⟩ := hrel
        by_cases hjl : j < k + 1
        · obtain ⟨ad', y, e, hy, hcy⟩ := hI.at_ (k := j) (by omega)
          injection e with e
          subst e
          obtain ⟨y0, y1⟩ := HX.out y (List.mem_of_getElem? hy.out)
          obtain ⟨b, hb, hg, hcv, hfv⟩ := hT.at_ ⟨x0, x1⟩ ⟨y0, y1⟩
          go_wp2
          go_round
          case rel => exact ⟨j + 1, _, by omega, by go_num, rfl, Lib.hid (hC1.out.step hx.out hy.out rfl)⟩
          case measure => simp [intOf]; omega
        · obtain rfl : j = k + 1 := by omega
          go_wp2
          go_round
          case rel => exact ⟨k + 1, o1, by omega, by go_num, rfl, Lib.hid hC1.out.row⟩
          case measure => simp [intOf]; omega
    · have HE := Lib.hid (hC.out.end_ (by omega) HS.out)
      go_wp2
      go_ret
      exact ⟨ret_int HE.out, rfl⟩

theorem Wr.drew {bs : List Nat} {a w : World} (h : Wr bs a w) : Wr bs a w.drew := ⟨h.os, h.tape, h.output, h.size, h.block⟩
theorem Tbl.drew {w : World} {g n : Nat} {bs : List Nat} {V : Int → Int → Int} (h : Tbl w g bs n V) : Tbl w.drew g bs n V := ⟨h.arr, h.len, h.rows, h.diff, h.nodup⟩
set_option maxRecDepth 100000 in
set_option maxHeartbeats 400000 in
theorem pset_no (w : World) (g n : Nat) (bs : List Nat) (V : Int → Int → Int) (hT : Tbl w g bs n V) (hn : n ≤ 1000) (p q x : Int) (hp : 0 ≤ p ∧ p < (n : Int)) (hq : 0 ≤ q ∧ q < (n : Int)) (hx : ¬ x < V p q) :
    Calls Try.prog 102 #[.slice (some ⟨g, 0, none⟩) n n, .int .i64 p, .int .i64 q, .int .i64 x] w fun e w' => e = .returned (.bool false) ∧ Tbl w' g bs n (setT V p q x) ∧ Wr bs w w' := by
  obtain ⟨p0, p1⟩ := hp
  obtain ⟨q0, q1⟩ := hq
  obtain ⟨b, hb, hg, hcv, hfv⟩ := hT.at_ ⟨p0, p1⟩ ⟨q0, q1⟩
  have HE := Lib.hid (setT_no hx)
  have hge : x ≥ V p q := by omega
  go_enter Try.func102, Try.ntmps102
  go_wp2
  go_ret
  exact ⟨rfl, by rw [HE.out]; exact hT, Wr.refl _ _⟩

set_option maxRecDepth 100000 in
set_option maxHeartbeats 1000000 in
theorem pset_yes (w : World) (g n : Nat) (bs : List Nat) (V : Int → Int → Int) (hT : Tbl w g bs n V) (hn : n ≤ 1000) (p q x : Int) (hp : 0 ≤ p ∧ p < (n : Int)) (hq : 0 ≤ q ∧ q < (n : Int)) (hx : x < V p q) :
    Calls Try.prog 102 #[.slice (some ⟨g, 0, none⟩) n n, .int .i64 p, .int .i64 q, .int .i64 x] w fun e w' => e = .returned (.bool true) ∧ Tbl w' g bs n (setT V p q x) ∧ Wr bs w w' := by
  obtain ⟨p0, p1⟩ := hp
  obtain ⟨q0, q1⟩ := hq
  obtain ⟨b, hb, hg, hcv, hfv⟩ := hT.at_ ⟨p0, p1⟩ ⟨q0, q1⟩
  obtain ⟨b', hb', hg', hcv', hfv'⟩ := hT.at_ ⟨q0, q1⟩ ⟨p0, p1⟩
  have HE := Lib.hid (setT_yes hx)
  have hge : ¬ x ≥ V p q := by omega
  have hm := Lib.hid (List.mem_of_getElem? hb.out)
  have hm' := Lib.hid (List.mem_of_getElem? hb'.out)
  have T1 := hT.store p0 q0 hb.out x
  have T2 := hT.store q0 p0 hb'.out x
  obtain ⟨b2, e2, -, hcA, hfA⟩ := T1.at_ ⟨q0, q1⟩ ⟨p0, p1⟩
  obtain ⟨b3, e3, -, hcB, hfB⟩ := T2.at_ ⟨p0, p1⟩ ⟨q0, q1⟩
  obtain rfl : b2 = b' := by have := e2.out; rw [hb'.out] at this; injection this with this; exact this.symm
  obtain rfl : b3 = b := by have := e3.out; rw [hb.out] at this; injection this with this; exact this.symm
  have HT1 := Lib.hid (show Tbl ((w.setCell ⟨b3, q.toNat, none⟩ (.int .i64 x)).setCell ⟨b2, p.toNat, none⟩ (.int .i64 x)) g bs n (setT V p q x) by rw [HE.out, ← put1_two]; exact T1.store q0 p0 hb'.out x)
  have HT2 := Lib.hid (show Tbl ((w.setCell ⟨b2, p.toNat, none⟩ (.int .i64 x)).setCell ⟨b3, q.toNat, none⟩ (.int .i64 x)) g bs n (setT V p q x) by rw [HE.out, ← put1_two']; exact T2.store p0 q0 hb.out x)
  have HW1 := Lib.hid (show Wr bs w (((w.setCell ⟨b3, q.toNat, none⟩ (.int .i64 x)).setCell ⟨b2, p.toNat, none⟩ (.int .i64 x)).drew) from (((Wr.refl bs w).set_ (p := ⟨b3, q.toNat, none⟩) hm.out _).set_ (p := ⟨b2, p.toNat, none⟩) hm'.out _).drew)
  have HW2 := Lib.hid (show Wr bs w (((w.setCell ⟨b2, p.toNat, none⟩ (.int .i64 x)).setCell ⟨b3, q.toNat, none⟩ (.int .i64 x)).drew) from (((Wr.refl bs w).set_ (p := ⟨b2, p.toNat, none⟩) hm'.out _).set_ (p := ⟨b3, q.toNat, none⟩) hm.out _).drew)
  clear T1 T2
  go_enter Try.func102, Try.ntmps102
  go_wp2
  go_region
  all_goals (go_wp2; go_ret; (first | exact ⟨rfl, HT1.out.drew, HW1.out⟩ | exact ⟨rfl, HT2.out.drew, HW2.out⟩))

theorem pset_any (w : World) (g n : Nat) (bs : List Nat) (V : Int → Int → Int) (hT : Tbl w g bs n V) (hn : n ≤ 1000) (p q x : Int) (hp : 0 ≤ p ∧ p < (n : Int)) (hq : 0 ≤ q ∧ q < (n : Int)) (v : Bool) (hv : decide (x < V p q) = v) :
    Calls Try.prog 102 #[.slice (some ⟨g, 0, none⟩) n n, .int .i64 p, .int .i64 q, .int .i64 x] w fun e w' => e = .returned (.bool v) ∧ Tbl w' g bs n (setT V p q x) ∧ Wr bs w w' := by
  cases v with
  | true => exact pset_yes w g n bs V hT hn p q x hp hq (of_decide_eq_true hv)
  | false => exact pset_no w g n bs V hT hn p q x hp hq (of_decide_eq_false hv)

end Go.Proofs.Ytiaokmofoaeifaa
