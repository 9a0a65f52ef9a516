/-
  relaxplan: words, and how they are compared.
-/
import Derived.Test.YtihkgdlanfemcaaWd
import Derived.Lib.Tables
namespace Go.Proofs.Ytihkgdlanfemcaa
open Go.RowKit
set_option linter.unusedVariables false
set_option linter.unusedSimpArgs false

theorem pow_rng {n : Nat} {x : Int} (h : 0 ≤ x ∧ x < (n : Int)) (hn : n ≤ 24) : (0 : Int) ≤ 2 ^ x.toNat ∧ (2 : Int) ^ x.toNat < 4294967296 := by
  have h1 : (2 : Nat) ^ x.toNat ≤ 2 ^ 24 := Nat.pow_le_pow_right (by decide) (by omega)
  have h2 : (2 : Nat) ^ 24 = 16777216 := by decide
  have h3 : ((2 : Int) ^ x.toNat) = ((2 ^ x.toNat : Nat) : Int) := by simp
  generalize (2 : Nat) ^ x.toNat = y at h1 h3
  rw [h3]
  omega
set_option maxRecDepth 100000 in
set_option maxHeartbeats 400000 in
theorem rword_any (A : Option Addr) (c : Nat) (s : List Int) (w : World) (hI : Ints w A s) (n : Nat) (hs : SetP s (n : Int)) (hn : n ≤ 24) :
    Calls Try.prog 75 #[.slice A s.length c] w fun e w' => e = .returned (.int .u32 (wordV s)) ∧ w = w' := by
  have HX := Lib.hid hs.1
  have HS := Lib.hid hs
  have hl : s.length ≤ 9223372036854775807 := by have := SetP.length hs (by omega); omega
  clear hs
  go_enter Try.func75, Try.ntmps75
  go_wp2
  go_loop [3, 8] (fun a i => ∃ k : Nat, k ≤ s.length ∧ i = .int .i64 k ∧ a = .int .u32 (wordV (s.take k))) (fun _ i => s.length - (intOf i).toNat)
  case atStart => exact ⟨0, Nat.zero_le _, rfl, rfl⟩
  case round =>
    obtain ⟨k, hk, rfl, rfl⟩ := hrel
    by_cases hlt : k < s.length
    · obtain ⟨ad, x, rfl, hx, hc⟩ := hI.at_ hlt
      obtain ⟨x0, x1⟩ := HX.out x (List.mem_of_getElem? hx.out)
      have HP := Lib.hid (word_push HS.out hn hx.out)
      have x32 : x ≤ 32 := by omega
      have hp := pow_rng ⟨x0, x1⟩ hn
      have hmod : (2 : Int) ^ x.toNat % 4294967296 = 2 ^ x.toNat := Int.emod_eq_of_lt hp.1 hp.2
      go_wp2
      go_round
      case rel =>
        refine ⟨k + 1, by omega, by go_num, ?_⟩
        rw [← HP.out]
        try simp [IntKind.wrap_u32', hmod]
      case measure => simp [intOf]; omega
    · have hall := Lib.hid (show s.take k = s from List.take_of_length_le (by omega))
      rw [hall.out]
      go_wp2
      go_ret
      exact ⟨rfl, rfl⟩
theorem pop_of {a : Int} (h0 : 0 ≤ a) (h1 : a ≤ 255) : Lib.pop8 a = (Lib.onesCount a.toNat : Int) ∧ 0 ≤ Lib.pop8 a ∧ Lib.pop8 a ≤ 8 := by
  have e := Lib.pop8_eq ⟨a.toNat, by omega⟩
  have l := Lib.onesCount_le8 ⟨a.toNat, by omega⟩
  simp only at e l
  rw [Int.toNat_of_nonneg h0] at e
  omega
theorem pops_of {x : Int} (h0 : 0 ≤ x) (h1 : x < 4294967296) : Lib.pop8 (x / 16777216) + Lib.pop8 (x / 65536 % 256) + Lib.pop8 (x / 256 % 256) + Lib.pop8 (x % 256) = ones32 x ∧ (0 ≤ Lib.pop8 (x / 16777216) ∧ Lib.pop8 (x / 16777216) ≤ 8) ∧ (0 ≤ Lib.pop8 (x / 65536 % 256) ∧ Lib.pop8 (x / 65536 % 256) ≤ 8) ∧ (0 ≤ Lib.pop8 (x / 256 % 256) ∧ Lib.pop8 (x / 256 % 256) ≤ 8) ∧ (0 ≤ Lib.pop8 (x % 256) ∧ Lib.pop8 (x % 256) ≤ 8) := by
  have a1 := pop_of (a := x / 16777216) (by omega) (by omega)
  have a2 := pop_of (a := x / 65536 % 256) (by omega) (by omega)
  have a3 := pop_of (a := x / 256 % 256) (by omega) (by omega)
  have a4 := pop_of (a := x % 256) (by omega) (by omega)
  refine ⟨?_, a1.2, a2.2, a3.2, a4.2⟩
  unfold ones32
  rw [a1.1, a2.1, a3.1, a4.1, show (x / 16777216).toNat = x.toNat / 16777216 by omega, show (x / 65536 % 256).toNat = x.toNat / 65536 % 256 by omega, show (x / 256 % 256).toNat = x.toNat / 256 % 256 by omega, show (x % 256).toNat = x.toNat % 256 by omega]
theorem and255 {y : Int} (h0 : 0 ≤ y) (h1 : y < 4294967296) : bits .and .u32 y 255 = y % 256 := by
  rw [u32_and y 255 h0 h1 (by omega) (by omega)]
  have e : (255 : Int).toNat = 255 := rfl
  rw [e, nat_mask8]
  omega
set_option maxRecDepth 100000 in
set_option maxHeartbeats 1000000 in
theorem ones_any (x : Int) (h0 : 0 ≤ x) (h1 : x < 4294967296) (w : World) :
    Calls Try.prog 79 #[.int .u32 x] w fun e w' => e = .returned (.int .i64 (ones32 x)) ∧ ∃ q, w' = w.drewN q := by
  obtain ⟨hp, p1, p2, p3, p4⟩ := pops_of h0 h1
  have HP := Lib.hid hp
  clear hp
  have q1 : bits .and .u32 (x / 65536) 255 = x / 65536 % 256 := and255 (by omega) (by omega)
  have q2 : bits .and .u32 (x / 256) 255 = x / 256 % 256 := and255 (by omega) (by omega)
  have q3 : bits .and .u32 x 255 = x % 256 := and255 h0 h1
  have b1 : 0 ≤ x / 16777216 := by omega
  have b2 : x / 16777216 ≤ 255 := by omega
  go_enter Try.func79, Try.ntmps79
  go_wp2_with fail
  go_quiet (fail)
  go_wp2
  go_ret
  exact ⟨by rw [← HP.out]; rfl, nq, rfl⟩
set_option maxRecDepth 100000 in
set_option maxHeartbeats 400000 in
theorem cmpint_lt (x y : Int) (h : x < y) (w : World) :
    Calls Try.prog 78 #[.int .i64 x, .int .i64 y] w fun e w' => e = .returned (.int .i64 (-1)) ∧ w' = w := by
  have e1 : ¬ y < x := by omega
  go_enter Try.func78, Try.ntmps78
  go_wp2
  all_goals (go_ret; exact ⟨rfl, rfl⟩)
set_option maxRecDepth 100000 in
set_option maxHeartbeats 400000 in
theorem cmpint_eq (x y : Int) (h : x = y) (w : World) :
    Calls Try.prog 78 #[.int .i64 x, .int .i64 y] w fun e w' => e = .returned (.int .i64 (0)) ∧ w' = w := by
  subst h
  go_enter Try.func78, Try.ntmps78
  go_wp2
  all_goals (go_ret; exact ⟨rfl, rfl⟩)
set_option maxRecDepth 100000 in
set_option maxHeartbeats 400000 in
theorem cmpint_gt (x y : Int) (h : y < x) (w : World) :
    Calls Try.prog 78 #[.int .i64 x, .int .i64 y] w fun e w' => e = .returned (.int .i64 (1)) ∧ w' = w := by
  have e1 : ¬ x < y := by omega
  go_enter Try.func78, Try.ntmps78
  go_wp2
  all_goals (go_ret; exact ⟨rfl, rfl⟩)
/-- How two numbers compare. -/
def cmpV (x y : Int) : Int := if x < y then -1 else if x = y then 0 else 1
theorem cmpint_any (x y : Int) (w : World) : Calls Try.prog 78 #[.int .i64 x, .int .i64 y] w fun e w' => e = .returned (.int .i64 (cmpV x y)) ∧ w' = w := by
  unfold cmpV
  rcases Int.lt_trichotomy x y with h | h | h
  · rw [if_pos h]; exact cmpint_lt x y h w
  · rw [if_neg (by omega), if_pos h]; exact cmpint_eq x y h w
  · rw [if_neg (by omega), if_neg (by omega)]; exact cmpint_gt x y h w
theorem cmpV_neg {x y : Int} : cmpV x y < 0 ↔ x < y := by
  unfold cmpV
  split
  · exact ⟨fun _ => by assumption, fun _ => by decide⟩
  · split
    · exact ⟨fun h => by omega, fun h => by omega⟩
    · exact ⟨fun h => by omega, fun h => by omega⟩
/-- The word of a state, within 32 bits. -/
def wv (l : List Int) : Int := wordV l % 4294967296
theorem wv_rng (l : List Int) : 0 ≤ wv l ∧ wv l < 4294967296 := by unfold wv; omega
theorem SetP.wv {l : List Int} {n : Nat} (h : SetP l (n : Int)) (hn : n ≤ 24) : wv l = wordV l := by
  have := h.word_u32 hn
  unfold Go.Proofs.Ytihkgdlanfemcaa.wv
  exact Int.emod_eq_of_lt this.1 this.2
def encW (l : List Int) : Value := .int .u32 (wv l)
def cfW (x y : List Int) : Int := cmpV (ones32 (wv x)) (ones32 (wv y))
set_option maxRecDepth 100000 in
set_option maxHeartbeats 400000 in
theorem bestcmp_any (x y : List Int) (w : World) :
    Calls Try.prog 77 #[encW x, encW y] w fun e w' => e = .returned (.int .i64 (cfW x y)) ∧ ∃ q, w' = w.drewN q := by
  unfold encW cfW
  obtain ⟨x0, x1⟩ := wv_rng x
  obtain ⟨y0, y1⟩ := wv_rng y
  generalize wv x = a at x0 x1 ⊢
  generalize wv y = b at y0 y1 ⊢
  go_enter Try.func77, Try.ntmps77
  go_wp2_with fail
  refine (ones_any a x0 x1 _).mono ?_
  rintro e w1 ⟨rfl, q1, rfl⟩
  go_wp2_with fail
  refine (ones_any b y0 y1 _).mono ?_
  rintro e w2 ⟨rfl, q2, rfl⟩
  go_wp2_with fail
  refine (cmpint_any _ _ _).mono ?_
  rintro e w3 ⟨rfl, rfl⟩
  go_wp2
  go_ret
  exact ⟨rfl, q1 + q2, by simp⟩

end Go.Proofs.Ytihkgdlanfemcaa
