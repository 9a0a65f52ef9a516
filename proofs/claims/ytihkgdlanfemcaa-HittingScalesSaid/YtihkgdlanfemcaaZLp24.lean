/-
  If all costs are multiplied by the same positive number, the hitting set does not change, and its cost is multiplied by it.
-/
import Derived.Test.YtihkgdlanfemcaaZ22
import Derived.Test.YtihkgdlanfemcaaZ15
import Derived.Test.YtihkgdlanfemcaaZ23
import Derived.Test.YtihkgdlanfemcaaZ1
import Derived.Test.YtihkgdlanfemcaaZ24
namespace Go.Proofs.Ytihkgdlanfemcaa
open Go.RowKit
set_option linter.unusedVariables false
set_option linter.unusedSimpArgs false

set_option maxRecDepth 100000 in
set_option maxHeartbeats 1000000 in
theorem walk_hsc_1 (w : World) (A : Option Addr) (ca : Nat) (sets : List (List Int)) (hL : LLR w A sets) (hsl : ∀ s ∈ sets, s.length ≤ 9223372036854775807) (hl : sets.length ≤ 9223372036854775807) (C : Option Addr) (cc : Nat) (cs : List Int) (hC : Ints w C cs) (hcl : cs.length ≤ 9223372036854775807) (by_ : Int) (c j : Int) (hf : hfault sets cs = (c, j)) (hc0 : ¬ c = 0) :
    Calls Try.prog 14 #[.slice A sets.length ca, .slice C cs.length cc, .int .i64 by_] w fun e w' => e = .returned (.bool true) ∧ Below w.heap.size w w' := by
  have HSL := Lib.hid hsl
  have HF := Lib.hid hf
  have N := bb_no hc0
  have N' := bn_yes hc0
  clear hf hsl
  go_enter Try.func14, Try.ntmps14
  go_wp2_with fail
  refine (hexample_any _).mono ?_
  rintro e w1 ⟨rfl, hB1⟩
  have D1 := dstep w hB1 (by repeat (first | with_reducible exact Below.refl _ _ | with_reducible apply bdrew | with_reducible apply bdrewN | with_reducible apply balloc | ((with_reducible refine bset ?_ ?_ _); rotate_left; (first | omega | (simp <;> omega)))))
  have d1s := D1.size
  go_wp2_with fail
  refine (hBest_1 _ A ca sets (hL.below (by repeat (first | with_reducible exact D1 | with_reducible apply bdrew | with_reducible apply bdrewN | with_reducible apply balloc | ((with_reducible refine bset ?_ ?_ _); rotate_left; (first | omega | (simp <;> omega)))))) HSL.out hl C cc cs (hC.below (by repeat (first | with_reducible exact D1 | with_reducible apply bdrew | with_reducible apply bdrewN | with_reducible apply balloc | ((with_reducible refine bset ?_ ?_ _); rotate_left; (first | omega | (simp <;> omega)))))) hcl c j HF.out hc0).mono ?_
  rintro e w2 ⟨rfl, hB2⟩
  have D2 := dstep w hB2 (by repeat (first | with_reducible exact D1 | with_reducible apply bdrew | with_reducible apply bdrewN | with_reducible apply balloc | ((with_reducible refine bset ?_ ?_ _); rotate_left; (first | omega | (simp <;> omega)))))
  have d2s := D2.size
  go_wp2
  go_ret
  exact ⟨by simp, by repeat (first | with_reducible exact D2 | with_reducible apply bdrew | with_reducible apply bdrewN | with_reducible apply balloc | ((with_reducible refine bset ?_ ?_ _); rotate_left; (first | omega | (simp <;> omega))))⟩

set_option maxRecDepth 100000 in
set_option maxHeartbeats 1000000 in
theorem walk_hsc_2 (w : World) (A : Option Addr) (ca : Nat) (sets : List (List Int)) (hL : LLR w A sets) (hsl : ∀ s ∈ sets, s.length ≤ 9223372036854775807) (hl : sets.length ≤ 9223372036854775807) (C : Option Addr) (cc : Nat) (cs : List Int) (hC : Ints w C cs) (hcl : cs.length ≤ 9223372036854775807) (by_ : Int) (hok : HOk sets cs) (hb : ¬ (1 ≤ by_ ∧ by_ ≤ 1000)) :
    Calls Try.prog 14 #[.slice A sets.length ca, .slice C cs.length cc, .int .i64 by_] w fun e w' => e = .returned (.bool true) ∧ Below w.heap.size w w' := by
  have HSL := Lib.hid hsl
  have HOK := Lib.hid hok
  have hc16 := hok.ncosts
  have hs16 := hok.nsets
  have HCI := Lib.hid hok.costs
  clear hok hsl
  go_enter Try.func14, Try.ntmps14
  go_wp2_with fail
  refine (hexample_any _).mono ?_
  rintro e w1 ⟨rfl, hB1⟩
  have D1 := dstep w hB1 (by repeat (first | with_reducible exact Below.refl _ _ | with_reducible apply bdrew | with_reducible apply bdrewN | with_reducible apply balloc | ((with_reducible refine bset ?_ ?_ _); rotate_left; (first | omega | (simp <;> omega)))))
  have d1s := D1.size
  go_wp2_with fail
  refine (hBest_2 _ A ca sets (hL.below (by repeat (first | with_reducible exact D1 | with_reducible apply bdrew | with_reducible apply bdrewN | with_reducible apply balloc | ((with_reducible refine bset ?_ ?_ _); rotate_left; (first | omega | (simp <;> omega)))))) HSL.out hl C cc cs (hC.below (by repeat (first | with_reducible exact D1 | with_reducible apply bdrew | with_reducible apply bdrewN | with_reducible apply balloc | ((with_reducible refine bset ?_ ?_ _); rotate_left; (first | omega | (simp <;> omega)))))) hcl HOK.out).mono ?_
  rintro e w2 ⟨A', c', n, v, rfl, hlst, ho, hB2⟩
  have D2 := dstep w hB2 (by repeat (first | with_reducible exact D1 | with_reducible apply bdrew | with_reducible apply bdrewN | with_reducible apply balloc | ((with_reducible refine bset ?_ ?_ _); rotate_left; (first | omega | (simp <;> omega)))))
  have d2s := D2.size
  clear hlst ho
  have hno : decide (1 ≤ by_ ∧ by_ ≤ 1000) = false := decide_eq_false hb
  go_wp2_with fail
  refine (in_any _ _ _ _).mono ?_
  rintro _ w' ⟨he, rfl⟩
  rw [hno] at he
  subst he
  go_wp2
  go_ret
  exact ⟨by simp, by repeat (first | with_reducible exact D2 | with_reducible apply bdrew | with_reducible apply bdrewN | with_reducible apply balloc | ((with_reducible refine bset ?_ ?_ _); rotate_left; (first | omega | (simp <;> omega))))⟩

set_option maxRecDepth 100000 in
set_option maxHeartbeats 4000000 in
theorem walk_hsc_3 (w : World) (A : Option Addr) (ca : Nat) (sets : List (List Int)) (hL : LLR w A sets) (hsl : ∀ s ∈ sets, s.length ≤ 9223372036854775807) (hl : sets.length ≤ 9223372036854775807) (C : Option Addr) (cc : Nat) (cs : List Int) (hC : Ints w C cs) (hcl : cs.length ≤ 9223372036854775807) (by_ : Int) (hok : HOk sets cs) (hb : 1 ≤ by_ ∧ by_ ≤ 1000) :
    Calls Try.prog 14 #[.slice A sets.length ca, .slice C cs.length cc, .int .i64 by_] w fun e w' => e = .returned (.bool true) ∧ Below w.heap.size w w' := by
  have HSL := Lib.hid hsl
  have HOK := Lib.hid hok
  have hc16 := hok.ncosts
  have hs16 := hok.nsets
  have HCI := Lib.hid hok.costs
  clear hok hsl
  go_enter Try.func14, Try.ntmps14
  go_wp2_with fail
  refine (hexample_any _).mono ?_
  rintro e w1 ⟨rfl, hB1⟩
  have D1 := dstep w hB1 (by repeat (first | with_reducible exact Below.refl _ _ | with_reducible apply bdrew | with_reducible apply bdrewN | with_reducible apply balloc | ((with_reducible refine bset ?_ ?_ _); rotate_left; (first | omega | (simp <;> omega)))))
  have d1s := D1.size
  go_wp2_with fail
  refine (hBest_2 _ A ca sets (hL.below (by repeat (first | with_reducible exact D1 | with_reducible apply bdrew | with_reducible apply bdrewN | with_reducible apply balloc | ((with_reducible refine bset ?_ ?_ _); rotate_left; (first | omega | (simp <;> omega)))))) HSL.out hl C cc cs (hC.below (by repeat (first | with_reducible exact D1 | with_reducible apply bdrew | with_reducible apply bdrewN | with_reducible apply balloc | ((with_reducible refine bset ?_ ?_ _); rotate_left; (first | omega | (simp <;> omega)))))) hcl HOK.out).mono ?_
  rintro e w2 ⟨A', c', n, v, rfl, hlst, ho, hB2⟩
  have D2 := dstep w hB2 (by repeat (first | with_reducible exact D1 | with_reducible apply bdrew | with_reducible apply bdrewN | with_reducible apply balloc | ((with_reducible refine bset ?_ ?_ _); rotate_left; (first | omega | (simp <;> omega)))))
  have d2s := D2.size
  have HLST := Lib.hid hlst
  have hbl16 := bitsL_len cs.length v
  have hnr := costW_rng (cs := cs) (M := 1000000) (by omega) HCI.out v
  rw [← hlst.eq] at hnr
  have hnr2 : (cs.length : Int) * 1000000 ≤ 16 * 1000000 := by omega
  clear hlst
  obtain ⟨A2, c2, e2, -, hI2⟩ := ho.form
  injection e2 with e2 e3 e4
  subst e2
  subst e4
  clear e3 ho
  go_wp2_with fail
  refine (in_yes _ _ _ _ hb.1 hb.2).mono ?_
  rintro _ w' ⟨rfl, rfl⟩
  go_wp2_with fail
  go_loopw [10, 11] (fun sv x wr => ∃ (k : Nat) (vj : Value), k ≤ cs.length ∧ x = .int .i64 k ∧ vj = sv ∧ OwnI (w2.heap.size + 1) wr vj ((cs.take k).map (· * by_)) ∧ Hid (∀ c ∈ cs.take k, c * by_ ≤ 1000000) ∧ Below w2.heap.size w2 wr ∧ Cls wr [(w2.heap.size, 0, .int .i64 0), (w2.heap.size, 1, .int .i64 0)]) (fun _ x _ => cs.length - (intOf x).toNat)
  case atStart => exact ⟨0, _, Nat.zero_le _, rfl, rfl, OwnI.nil _ _, Lib.hid (by simp), (by repeat (first | with_reducible exact Below.refl _ _ | with_reducible apply bdrew | with_reducible apply bdrewN | with_reducible apply balloc | ((with_reducible refine bset ?_ ?_ _); rotate_left; (first | omega | (simp <;> omega))))), (by simp [Cls, go_sem])⟩
  case round =>
    obtain ⟨k, vj, hk, rfl, rfl, hown, hall, hBr, hCr⟩ := hrel
    obtain ⟨w3, rfl⟩ : ∃ wo : World, wo = wr := ⟨_, rfl⟩
    have drs := hBr.size
    have Fr := hCr
    simp only [Cls, and_true] at Fr
    have yrw20 : w2.heap.size < w3.heap.size := hCr.blk (b := w2.heap.size) (k := 0) (v := .int .i64 0) (by simp)
    have yrw2p1 : w2.heap.size < w3.heap.size + 1 := (by omega)
    have yrw2p2 : w2.heap.size < w3.heap.size + 1 + 1 := (by omega)
    have DR := D2.trans (hBr.mono D2.size)
    by_cases hlt : k < cs.length
    · obtain ⟨ad, c, rfl, hc, hcc⟩ := (hC.below DR).at_ hlt
      have hcr := HCI.out c (List.mem_of_getElem? hc.out)
      have hmul : 0 ≤ c * by_ ∧ c * by_ ≤ 1000000 * 1000 := ⟨Int.mul_nonneg hcr.1 (by omega), Int.mul_le_mul hcr.2 (by omega) (by omega) (by omega)⟩
      have hlen : ((cs.take k).map (· * by_)).length < 1000000000000 := by rw [List.length_map, List.length_take]; omega
      have HNX := Lib.hid (show (cs.take (k + 1)).map (· * by_) = (cs.take k).map (· * by_) ++ [c * by_] by rw [List.take_add_one, hc.out]; simp)
      have HAL := Lib.hid (show c * by_ ≤ 1000000 → ∀ d ∈ cs.take (k + 1), d * by_ ≤ 1000000 from fun h d hd => by
        rw [List.take_add_one, hc.out] at hd
        rcases List.mem_append.1 hd with h1 | h1
        · exact hall.out d h1
        · have : d = c := by simpa using h1
          rw [this]; exact h)
      obtain ⟨p, hp⟩ : ∃ x, c * by_ = x := ⟨_, rfl⟩
      rw [hp] at hmul HNX HAL
      by_cases hgt : p > 1000000
      · have hgt' : decide (p > 1000000) = true := decide_eq_true hgt
        go_wp2
        go_ret
        exact ⟨by simp, by repeat (first | with_reducible exact DR | with_reducible apply bdrew | with_reducible apply bdrewN | with_reducible apply balloc | ((with_reducible refine bset ?_ ?_ _); rotate_left; (first | omega | (simp <;> omega))))⟩
      · have hgt' : decide (p > 1000000) = false := decide_eq_false hgt
        go_wp2_with (at_builtin; go_must (refine wpList_push rfl (.tmp 55) (.tmp 62) rfl w2 [(w2.heap.size, 0, .int .i64 0), (w2.heap.size, 1, .int .i64 0)] (w2.heap.size + 1) vj _ (p) rfl (OwnI.below hown ?p1) ⟨w3.heap.size, 0, none⟩ 1 rfl ?p2 hlen ?p3 ?p4 ?p5 ?p6 ?p7 ?_; (case p1 => repeat (first | with_reducible exact Below.refl _ _ | with_reducible apply bdrew | with_reducible apply bdrewN | with_reducible apply balloc | ((with_reducible refine bset ?_ ?_ _); rotate_left; (first | omega | (simp <;> omega))))); (case p2 => (first | simp [Cls, go_sem, Fr, yrw20, yrw2p1, yrw2p2] | exact cell_new_at _ _ _ _ rfl)); (case p3 => (first | omega | (simp <;> omega))); (case p4 => (first | omega | (simp <;> omega))); (case p5 => repeat (first | with_reducible exact hBr | with_reducible apply bdrew | with_reducible apply bdrewN | with_reducible apply balloc | ((with_reducible refine bset ?_ ?_ _); rotate_left; (first | omega | (simp <;> omega))))); (case p6 => exact Cls.below (w := w3) (by repeat (first | with_reducible exact Below.refl _ _ | with_reducible apply bdrew | with_reducible apply bdrewN | with_reducible apply balloc | ((with_reducible refine bset ?_ ?_ _); rotate_left; (first | omega | (simp <;> omega))))) hCr); (case p7 => (simp <;> omega)); intro v3 w3 o3 D3 C3 sz3; have d3s := D3.size; have F3 := C3; simp only [Cls, and_true] at F3; have y3w20 : w2.heap.size < w3.heap.size := C3.blk (b := w2.heap.size) (k := 0) (v := .int .i64 0) (by simp); have y3w2p1 : w2.heap.size < w3.heap.size + 1 := (by omega); have y3w2p2 : w2.heap.size < w3.heap.size + 1 + 1 := (by omega)))
        go_roundw
        case rel => exact ⟨k + 1, v3, by omega, by go_num, rfl, by rw [HNX.out]; exact o3, Lib.hid (HAL.out (by omega)), (by repeat (first | with_reducible exact D3 | with_reducible apply bdrew | with_reducible apply bdrewN | with_reducible apply balloc | ((with_reducible refine bset ?_ ?_ _); rotate_left; (first | omega | (simp <;> omega))))), (by simp [Cls, go_sem, F3, y3w20, y3w2p1, y3w2p2])⟩
        case measure => simp [intOf]; omega
    · obtain rfl : k = cs.length := by omega
      rw [List.take_length] at hown hall
      have HOM := Lib.hid (hok_times HOK.out (show 0 < by_ by omega) hall.out)
      have HLM := Lib.hid (least_times (show 0 < by_ by omega) HLST.out)
      obtain ⟨ms, hms⟩ : ∃ l, Hid (cs.map (· * by_) = l) := ⟨_, Lib.hid rfl⟩
      have HML := Lib.hid (show ms.length = cs.length by rw [← hms.out, List.length_map])
      rw [hms.out] at hown HOM HLM
      obtain ⟨A5, c5, rfl, -, hI5⟩ := hown.form
      go_wp2_with fail
      refine (hBest_2 _ A ca sets (hL.below (by repeat (first | with_reducible exact DR | with_reducible apply bdrew | with_reducible apply bdrewN | with_reducible apply balloc | ((with_reducible refine bset ?_ ?_ _); rotate_left; (first | omega | (simp <;> omega)))))) HSL.out hl A5 c5 ms (hI5.below (by repeat (first | with_reducible exact Below.refl _ _ | with_reducible apply bdrew | with_reducible apply bdrewN | with_reducible apply balloc | ((with_reducible refine bset ?_ ?_ _); rotate_left; (first | omega | (simp <;> omega)))))) (by have := HML.out; omega) HOM.out).mono ?_
      rintro e w6 ⟨A6, c6, n6, v6, rfl, hlst6, ho6, hB6⟩
      have D6 := dstep w hB6 (by repeat (first | with_reducible exact DR | with_reducible apply bdrew | with_reducible apply bdrewN | with_reducible apply balloc | ((with_reducible refine bset ?_ ?_ _); rotate_left; (first | omega | (simp <;> omega)))))
      have d6s := D6.size
      have Ew2_6 := dstep w2 hB6 (by repeat (first | with_reducible exact hBr | with_reducible apply bdrew | with_reducible apply bdrewN | with_reducible apply balloc | ((with_reducible refine bset ?_ ?_ _); rotate_left; (first | omega | (simp <;> omega)))))
      have C6 := Cls.below (l := [(w2.heap.size, 0, .int .i64 0), (w2.heap.size, 1, .int .i64 0)]) hB6 (by simp [Cls, go_sem, Fr, yrw20, yrw2p1, yrw2p2])
      have F6 := C6
      simp only [Cls, and_true] at F6
      have y6w20 : w2.heap.size < w6.heap.size := C6.blk (b := w2.heap.size) (k := 0) (v := .int .i64 0) (by simp)
      have y6w2p1 : w2.heap.size < w6.heap.size + 1 := (by omega)
      have y6w2p2 : w2.heap.size < w6.heap.size + 1 + 1 := (by omega)
      rw [HML.out] at hlst6 ho6 ⊢
      obtain ⟨hle1, hle2⟩ := hlst6.uniq HLM.out
      have hle3 := hle1.symm
      have hle4 := hle2.symm
      subst hle3
      subst hle4
      obtain ⟨A7, c7, e7, -, hI7⟩ := ho6.form
      injection e7 with e7 e8 e9
      subst e7
      subst e9
      clear e8 ho6 hlst6
      have hmn : 0 ≤ n * by_ ∧ n * by_ ≤ 16000000 * 1000 := ⟨Int.mul_nonneg (by omega) (by omega), Int.mul_le_mul (by omega) (by omega) (by omega) (by omega)⟩
      obtain ⟨nb, hnb⟩ : ∃ a, n * by_ = a := ⟨_, rfl⟩
      rw [hnb] at hmn ⊢
      go_wp2_with fail
      refine (ints_at _ _ _ _ (bitsL cs.length v).length (bitsL cs.length v) (bitsL cs.length v) _ (hI2.below (by repeat (first | with_reducible exact Ew2_6 | with_reducible apply bdrew | with_reducible apply bdrewN | with_reducible apply balloc | ((with_reducible refine bset ?_ ?_ _); rotate_left; (first | omega | (simp <;> omega)))))) (hI7.below (by repeat (first | with_reducible exact Below.refl _ _ | with_reducible apply bdrew | with_reducible apply bdrewN | with_reducible apply balloc | ((with_reducible refine bset ?_ ?_ _); rotate_left; (first | omega | (simp <;> omega)))))) rfl rfl (by omega) true (by simp)).mono ?_
      rintro e w7 ⟨rfl, hB7⟩
      have D7 := dstep w hB7 (by repeat (first | with_reducible exact D6 | with_reducible apply bdrew | with_reducible apply bdrewN | with_reducible apply balloc | ((with_reducible refine bset ?_ ?_ _); rotate_left; (first | omega | (simp <;> omega)))))
      have d7s := D7.size
      have Ew2_7 := dstep w2 hB7 (by repeat (first | with_reducible exact Ew2_6 | with_reducible apply bdrew | with_reducible apply bdrewN | with_reducible apply balloc | ((with_reducible refine bset ?_ ?_ _); rotate_left; (first | omega | (simp <;> omega)))))
      have C7 := Cls.below (l := [(w2.heap.size, 0, .int .i64 0), (w2.heap.size, 1, .int .i64 0), (w6.heap.size, 0, .int .i64 0), (w6.heap.size, 1, .int .i64 0)]) hB7 (by simp [Cls, go_sem, F6, y6w20, y6w2p1, y6w2p2])
      have F7 := C7
      simp only [Cls, and_true] at F7
      have y7w20 : w2.heap.size < w7.heap.size := C7.blk (b := w2.heap.size) (k := 0) (v := .int .i64 0) (by simp)
      have y7w2p1 : w2.heap.size < w7.heap.size + 1 := (by omega)
      have y7w2p2 : w2.heap.size < w7.heap.size + 1 + 1 := (by omega)
      have y7w60 : w6.heap.size < w7.heap.size := C7.blk (b := w6.heap.size) (k := 0) (v := .int .i64 0) (by simp)
      have y7w6p1 : w6.heap.size < w7.heap.size + 1 := (by omega)
      have y7w6p2 : w6.heap.size < w7.heap.size + 1 + 1 := (by omega)
      go_wp2
      go_ret
      exact ⟨by simp, by repeat (first | with_reducible exact D7 | with_reducible apply bdrew | with_reducible apply bdrewN | with_reducible apply balloc | ((with_reducible refine bset ?_ ?_ _); rotate_left; (first | omega | (simp <;> omega))))⟩

theorem walk_hsc (w : World) (A : Option Addr) (ca : Nat) (sets : List (List Int)) (hL : LLR w A sets) (hsl : ∀ s ∈ sets, s.length ≤ 9223372036854775807) (hl : sets.length ≤ 9223372036854775807) (C : Option Addr) (cc : Nat) (cs : List Int) (hC : Ints w C cs) (hcl : cs.length ≤ 9223372036854775807) (by_ : Int) :
    Calls Try.prog 14 #[.slice A sets.length ca, .slice C cs.length cc, .int .i64 by_] w fun e w' => e = .returned (.bool true) ∧ Below w.heap.size w w' := by
  by_cases h : (hfault sets cs).1 = 0
  · by_cases hb : 1 ≤ by_ ∧ by_ ≤ 1000
    · exact walk_hsc_3 w A ca sets hL hsl hl C cc cs hC hcl by_ (hfault_zero.1 h) hb
    · exact walk_hsc_2 w A ca sets hL hsl hl C cc cs hC hcl by_ (hfault_zero.1 h) hb
  · exact walk_hsc_1 w A ca sets hL hsl hl C cc cs hC hcl by_ _ _ rfl h

namespace hittingScales
open Go.ChangeShapes Go.WideShapes Go.ChangeAt Go.RowKit

set_option maxRecDepth 100000 in
theorem lifted (os : Os) (started : os.Started) (H : Type) (enc : TypeId × Value → H) :
    ReturnsInHanded {} Try.checked os 14 .any (Rows.hittingScalesSpec.pre6 enc Try.prog Try.f14 Rows.hittingScalesRow.domain false) (Rows.hittingScalesSpec.post enc Try.prog Try.f14 false true false false) := by
  refine returnsInHanded_of_change (C := Try.checked) own_knob started (by kernel_rfl) Try.func14
    (ChangeSpec.witness6 (enc := enc) (C := Try.checked) false ⟨#[], #[.slice none 0 0, .slice none 0 0, .int .i64 0], []⟩ 8 (by kernel_rfl) (by kernel_rfl) (by kernel_rfl) (by kernel_rfl)) ?_
  intro W base args ds gs before hval0 hW _ hsz
  have hval : ∀ (j : Nat) t v, Try.f14.params[j]? = some t → args[j]? = some v → Value.okWide Try.prog W .any base t v := hval0
  have hpost := fun (W' : World) (hfn : gs = [] → Rows.hittingScalesSpec.fn H (ds ++ gs) = { results := [.lit (.bool true)], args := ds }) (hb : Below W.heap.size W W') => law_post (f := Try.f14) (tb := 4) laid_out_B Try.underlying4 rfl (by kernel_rfl) rfl hfn hW hb
  obtain ⟨p, q, hA0, hV, hpq, hfz, hnd⟩ := hW
  have hA : DataW.TrodAll enc Try.prog W 0 (fun _ => true) true Try.f14.params.toList args.toList ds p := hA0
  rw [Try.params14] at hA hval
  obtain ⟨v0, vs0, d0, ds0, p0, q0, hargs, rfl, hp0, h0, r0⟩ := trodAll_cons hA
  obtain ⟨v1, vs1, d1, ds1, p1, q1, rfl, rfl, hp1, h1, r1⟩ := trodAll_cons r0
  obtain ⟨v2, vs2, d2, ds2, p2, q2, rfl, rfl, hp2, h2, r2⟩ := trodAll_cons r1
  obtain ⟨rfl, rfl, hpn⟩ := trodAll_nil r2
  obtain rfl : args = #[v0, v1, v2] := by cases args; simp_all
  obtain ⟨A, ca, sets, rfl, hLc, hLl, hLn, hL⟩ := open_rowsW (hval 0 27 v0 rfl rfl) h0
  obtain ⟨S, cs, st, rfl, hSc, hSl, hSnn, hS, hSi⟩ := open_intsW (hval 1 22 v1 rfl rfl) h1
  obtain ⟨by_, rfl, rfl, rfl, w2⟩ := open_int Try.underlying3 (hval 2 3 v2 rfl rfl) h2
  refine (walk_hsc W A ca sets hL.llr hL.lens (Nat.le_trans hLc hLl) S cs st hS (Nat.le_trans hSc hSl) by_).mono fun e W' ⟨he, hb⟩ => ?_
  subst he
  exact ⟨_, rfl, hpost W' (fun hg => by subst hg; rfl) hb⟩

theorem closed : joinedFacts Try.checked.prog 14 Try.f14 Rows.hittingScalesSpec Rows.hittingScalesRow = true := by
  unfold joinedFacts
  rw [pf_enter, pf_lifts, pf_make]
  kernel_rfl
theorem proved : Rows.HittingScalesSaid :=
  OpenClaim.holds_of_wide 14 Try.f14 rfl rfl rfl rfl rfl rfl rfl ⟨rfl, rfl, rfl, rfl, rfl⟩ rfl rfl rfl rfl rfl (by kernel_rfl) Try.func14 closed
    (of_decide_eq_true (by kernel_rfl)) (by unfold Func.isWrapper; first | (rw [if_pos (by decide +kernel)]; kernel_rfl) | (rw [if_neg (by decide +kernel)]; exact ⟨rfl, rfl⟩))
    (fun os started H enc _ => lifted os started H enc)
#print axioms proved
end hittingScales

end Go.Proofs.Ytihkgdlanfemcaa
