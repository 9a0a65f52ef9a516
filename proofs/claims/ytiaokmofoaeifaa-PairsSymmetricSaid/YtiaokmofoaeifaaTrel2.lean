/-
  Sums and greatest values, the program's and the reference's: what they return.
-/
import Derived.Test.YtiaokmofoaeifaaTrel1
import Derived.Test.YtiaokmofoaeifaaRplain
namespace Go.Proofs.Ytiaokmofoaeifaa
open Go.RowKit
set_option linter.unusedVariables false
set_option linter.unusedSimpArgs false

set_option maxHeartbeats 400000 in
theorem plus_1 (a b : Int) (w : World) (ha : InV a) (hb : InV b) (h : a = 1000000000) : Calls Try.prog 88 #[.int .i64 a, .int .i64 b] w fun e w' => e = .returned (.int .i64 (1000000000)) ∧ w = w' := by
  subst h
  unfold InV at ha hb
  go_enter Try.func88, Try.ntmps88
  go_wp2
  go_ret
  exact ⟨ret_int (by omega), rfl⟩
set_option maxHeartbeats 400000 in
theorem plus_2 (a b : Int) (w : World) (ha : InV a) (hb : InV b) (hn : ¬ a = 1000000000) (h : b = 1000000000) : Calls Try.prog 88 #[.int .i64 a, .int .i64 b] w fun e w' => e = .returned (.int .i64 (1000000000)) ∧ w = w' := by
  subst h
  unfold InV at ha hb
  have N : (a == 1000000000) = false := by simpa using hn
  go_enter Try.func88, Try.ntmps88
  go_wp2
  go_ret
  exact ⟨ret_int (by omega), rfl⟩
set_option maxHeartbeats 400000 in
theorem plus_3 (a b : Int) (w : World) (ha : InV a) (hb : InV b) (hn : ¬ a = 1000000000) (hm : ¬ b = 1000000000) (h : a + b ≥ 1000000000) : Calls Try.prog 88 #[.int .i64 a, .int .i64 b] w fun e w' => e = .returned (.int .i64 (999999999)) ∧ w = w' := by
  unfold InV at ha hb
  have N : (a == 1000000000) = false := by simpa using hn
  have N' : (b == 1000000000) = false := by simpa using hm
  go_enter Try.func88, Try.ntmps88
  go_wp2
  go_ret
  exact ⟨ret_int (by omega), rfl⟩
set_option maxHeartbeats 400000 in
theorem plus_4 (a b : Int) (w : World) (ha : InV a) (hb : InV b) (hn : ¬ a = 1000000000) (hm : ¬ b = 1000000000) (h : ¬ a + b ≥ 1000000000) : Calls Try.prog 88 #[.int .i64 a, .int .i64 b] w fun e w' => e = .returned (.int .i64 (a + b)) ∧ w = w' := by
  unfold InV at ha hb
  have N : (a == 1000000000) = false := by simpa using hn
  have N' : (b == 1000000000) = false := by simpa using hm
  go_enter Try.func88, Try.ntmps88
  go_wp2
  go_ret
  exact ⟨ret_int (by omega), rfl⟩
theorem plus_any (a b : Int) (w : World) (ha : InV a) (hb : InV b) : Calls Try.prog 88 #[.int .i64 a, .int .i64 b] w fun e w' => e = .returned (.int .i64 (plusV a b)) ∧ w = w' := by
  by_cases h1 : a = 1000000000
  · rw [plusV_inf (Or.inl h1)]; exact plus_1 a b w ha hb h1
  · by_cases h2 : b = 1000000000
    · rw [plusV_inf (Or.inr h2)]; exact plus_2 a b w ha hb h1 h2
    · by_cases h3 : a + b ≥ 1000000000
      · rw [plusV_big (by omega) h3]; exact plus_3 a b w ha hb h1 h2 h3
      · rw [plusV_sum (by omega) h3]; exact plus_4 a b w ha hb h1 h2 h3

set_option maxHeartbeats 400000 in
theorem rplus_1 (a b : Int) (w : World) (ha : InV a) (hb : InV b) (h : a = 1000000000) : Calls Try.prog 69 #[.int .i64 a, .int .i64 b] w fun e w' => e = .returned (.int .i64 (1000000000)) ∧ w = w' := by
  subst h
  unfold InV at ha hb
  go_enter Try.func69, Try.ntmps69
  go_wp2
  go_ret
  exact ⟨ret_int (by omega), rfl⟩
set_option maxHeartbeats 400000 in
theorem rplus_2 (a b : Int) (w : World) (ha : InV a) (hb : InV b) (hn : ¬ a = 1000000000) (h : b = 1000000000) : Calls Try.prog 69 #[.int .i64 a, .int .i64 b] w fun e w' => e = .returned (.int .i64 (1000000000)) ∧ w = w' := by
  subst h
  unfold InV at ha hb
  have N : (a == 1000000000) = false := by simpa using hn
  go_enter Try.func69, Try.ntmps69
  go_wp2
  go_ret
  exact ⟨ret_int (by omega), rfl⟩
set_option maxHeartbeats 400000 in
theorem rplus_3 (a b : Int) (w : World) (ha : InV a) (hb : InV b) (hn : ¬ a = 1000000000) (hm : ¬ b = 1000000000) (h : a + b ≥ 1000000000) : Calls Try.prog 69 #[.int .i64 a, .int .i64 b] w fun e w' => e = .returned (.int .i64 (999999999)) ∧ w = w' := by
  unfold InV at ha hb
  have N : (a == 1000000000) = false := by simpa using hn
  have N' : (b == 1000000000) = false := by simpa using hm
  go_enter Try.func69, Try.ntmps69
  go_wp2
  go_ret
  exact ⟨ret_int (by omega), rfl⟩
set_option maxHeartbeats 400000 in
theorem rplus_4 (a b : Int) (w : World) (ha : InV a) (hb : InV b) (hn : ¬ a = 1000000000) (hm : ¬ b = 1000000000) (h : ¬ a + b ≥ 1000000000) : Calls Try.prog 69 #[.int .i64 a, .int .i64 b] w fun e w' => e = .returned (.int .i64 (a + b)) ∧ w = w' := by
  unfold InV at ha hb
  have N : (a == 1000000000) = false := by simpa using hn
  have N' : (b == 1000000000) = false := by simpa using hm
  go_enter Try.func69, Try.ntmps69
  go_wp2
  go_ret
  exact ⟨ret_int (by omega), rfl⟩
theorem rplus_any (a b : Int) (w : World) (ha : InV a) (hb : InV b) : Calls Try.prog 69 #[.int .i64 a, .int .i64 b] w fun e w' => e = .returned (.int .i64 (plusV a b)) ∧ w = w' := by
  by_cases h1 : a = 1000000000
  · rw [plusV_inf (Or.inl h1)]; exact rplus_1 a b w ha hb h1
  · by_cases h2 : b = 1000000000
    · rw [plusV_inf (Or.inr h2)]; exact rplus_2 a b w ha hb h1 h2
    · by_cases h3 : a + b ≥ 1000000000
      · rw [plusV_big (by omega) h3]; exact rplus_3 a b w ha hb h1 h2 h3
      · rw [plusV_sum (by omega) h3]; exact rplus_4 a b w ha hb h1 h2 h3

set_option maxRecDepth 100000 in
set_option maxHeartbeats 400000 in
theorem greatest_any (A B : Option Addr) (c d : Nat) (vs xs : List Int) (w : World) (hI : Ints w A vs) (hJ : Ints w B xs) (hl : xs.length ≤ 9223372036854775807) (hb : vs.length ≤ 9223372036854775807) (hx : ∀ x ∈ xs, 0 ≤ x ∧ x < vs.length) (hv : AllV vs) :
    Calls Try.prog 51 #[.slice A vs.length c, .slice B xs.length d] w fun e w' => e = .returned (.int .i64 (combV false vs xs)) ∧ w = w' := by
  have HX := Lib.hid hx
  have HV := Lib.hid hv
  clear hx hv
  go_enter Try.func51, Try.ntmps51
  go_wp2
  go_loop [5, 10] (fun a i => ∃ k : Nat, k ≤ xs.length ∧ i = .int .i64 k ∧ a = .int .i64 (combV false vs (xs.take k))) (fun a i => xs.length - (intOf i).toNat)
  case atStart => exact ⟨0, Nat.zero_le _, rfl, rfl⟩
  case round =>
    obtain ⟨k, hk, rfl, rfl⟩ := hrel
    have hin := combV_in (s := false) HV.out (xs.take k)
    by_cases hlt : k < xs.length
    · obtain ⟨ad, x, rfl, hx, hc⟩ := hJ.at_ hlt
      obtain ⟨x0, x1⟩ := HX.out x (List.mem_of_getElem? hx.out)
      obtain ⟨bd, v1, rfl, hy, hd⟩ := hI.at_ (show x.toNat < vs.length by omega)
      have hs := Lib.hid (combV_take_succ (s := false) hx.out hy.out)
      have hv1 := HV.out v1 (List.mem_of_getElem? hy.out)
      generalize combV false vs (xs.take k) = g at *
      unfold InV at hin hv1
      have hm : stepV false g v1 = if g < v1 then v1 else g := rfl
      have HM := Lib.hid hm
      clear hm
      go_wp2
      go_round
      case rel => exact ⟨k + 1, by omega, by go_num, by rw [hs.out, HM.out]⟩
      case measure => simp [intOf]; omega
    · have hall := combV_take_all (s := false) (vs := vs) hlt
      rw [hall]
      go_wp2
      go_ret
      exact ⟨rfl, rfl⟩
set_option maxRecDepth 100000 in
set_option maxHeartbeats 400000 in
theorem sum_any (A B : Option Addr) (c d : Nat) (vs xs : List Int) (w : World) (hI : Ints w A vs) (hJ : Ints w B xs) (hl : xs.length ≤ 9223372036854775807) (hb : vs.length ≤ 9223372036854775807) (hx : ∀ x ∈ xs, 0 ≤ x ∧ x < vs.length) (hv : AllV vs) :
    Calls Try.prog 57 #[.slice A vs.length c, .slice B xs.length d] w fun e w' => e = .returned (.int .i64 (combV true vs xs)) ∧ w = w' := by
  have HX := Lib.hid hx
  have HV := Lib.hid hv
  clear hx hv
  go_enter Try.func57, Try.ntmps57
  go_wp2
  go_loop [5, 10] (fun a i => ∃ k : Nat, k ≤ xs.length ∧ i = .int .i64 k ∧ a = .int .i64 (combV true vs (xs.take k))) (fun a i => xs.length - (intOf i).toNat)
  case atStart => exact ⟨0, Nat.zero_le _, rfl, rfl⟩
  case round =>
    obtain ⟨k, hk, rfl, rfl⟩ := hrel
    have hin := combV_in (s := true) HV.out (xs.take k)
    by_cases hlt : k < xs.length
    · obtain ⟨ad, x, rfl, hx, hc⟩ := hJ.at_ hlt
      obtain ⟨x0, x1⟩ := HX.out x (List.mem_of_getElem? hx.out)
      obtain ⟨bd, v1, rfl, hy, hd⟩ := hI.at_ (show x.toNat < vs.length by omega)
      have hs := Lib.hid (combV_take_succ (s := true) hx.out hy.out)
      have hv1 := HV.out v1 (List.mem_of_getElem? hy.out)
      generalize combV true vs (xs.take k) = g at *
      go_wp2_with fail
      refine (plus_any _ _ _ hin hv1).mono ?_
      rintro e w' ⟨rfl, rfl⟩
      go_wp2
      go_round
      case rel => exact ⟨k + 1, by omega, by go_num, by rw [hs.out]; rfl⟩
      case measure => simp [intOf]; omega
    · have hall := combV_take_all (s := true) (vs := vs) hlt
      rw [hall]
      go_wp2
      go_ret
      exact ⟨rfl, rfl⟩
end Go.Proofs.Ytiaokmofoaeifaa
