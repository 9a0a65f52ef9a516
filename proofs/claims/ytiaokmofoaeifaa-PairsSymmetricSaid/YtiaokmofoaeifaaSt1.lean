/-
  strips.Contains: whether a set lies in another one.
-/
import Derived.Test.YtiaokmofoaeifaaTlist
namespace Go.Proofs.Ytiaokmofoaeifaa
open Go.RowKit
set_option linter.unusedVariables false
set_option linter.unusedSimpArgs false

theorem sorted_lt {l : List Int} (h : l.Pairwise (· < ·)) {i j : Nat} {x y : Int} (hi : l[i]? = some x) (hj : l[j]? = some y) (hij : i < j) : x < y := by
  obtain ⟨a1, rfl⟩ := List.getElem?_eq_some_iff.1 hi
  obtain ⟨a2, rfl⟩ := List.getElem?_eq_some_iff.1 hj
  exact List.pairwise_iff_getElem.1 h i j a1 a2 hij
set_option maxRecDepth 100000 in
set_option maxHeartbeats 1000000 in
theorem scontains_any (A B : Option Addr) (c d : Nat) (s part : List Int) (w : World) (hI : Ints w A s) (hJ : Ints w B part) (hl : s.length ≤ 9223372036854775807) (hm : part.length ≤ 9223372036854775807) (hs : s.Pairwise (· < ·)) (hp : part.Pairwise (· < ·)) :
    Calls Try.prog 89 #[.slice A s.length c, .slice B part.length d] w fun e w' => e = .returned (.bool (decide (∀ q ∈ part, q ∈ s))) ∧ w = w' := by
  have HS := Lib.hid hs
  have HP := Lib.hid hp
  clear hs hp
  go_enter Try.func89, Try.ntmps89
  go_wp2
  go_loop [5, 10] (fun a b => ∃ j k : Nat, j ≤ s.length ∧ k ≤ part.length ∧ a = .int .i64 j ∧ b = .int .i64 k ∧ Hid (∀ q ∈ part.take k, q ∈ s) ∧ Hid (∀ i : Nat, ∀ y z : Int, i < j → s[i]? = some y → ∀ k' : Nat, k ≤ k' → part[k']? = some z → y < z)) (fun a b => part.length - (intOf b).toNat)
  case atStart => exact ⟨0, 0, by omega, by omega, rfl, rfl, Lib.hid (by simp), Lib.hid (fun i y z h => absurd h (by omega))⟩
  case round =>
    obtain ⟨j, k, hj, hk, rfl, rfl, H1, H2⟩ := hrel
    by_cases hlt : k < part.length
    · obtain ⟨bd, x, rfl, hx, hc⟩ := hJ.at_ hlt
      have HIN := Lib.hid (List.mem_of_getElem? hx.out)
      go_wp2
      go_loop [5] (fun a => ∃ i : Nat, i ≤ s.length ∧ a = .int .i64 i ∧ Hid (∀ i' : Nat, ∀ y : Int, i' < i → s[i']? = some y → y < x)) (fun a => s.length - (intOf a).toNat)
      case atStart => exact ⟨j, hj, rfl, Lib.hid (fun i' y h hy => H2.out i' y x h hy k (Nat.le_refl _) hx.out)⟩
      case round =>
        obtain ⟨i, hi, rfl, H3⟩ := hrel
        by_cases hil : i < s.length
        · obtain ⟨ad, y, rfl, hy, hcy⟩ := hI.at_ hil
          by_cases hyx : y < x
          · go_wp2
            go_round
            case rel => exact ⟨i + 1, by omega, by go_num, Lib.hid (fun i' z h hz => by
              by_cases e : i' = i
              · subst e; rw [hy.out] at hz; injection hz with hz; omega
              · exact H3.out i' z (by omega) hz)⟩
            case measure => simp [intOf]; omega
          · by_cases he : y = x
            · subst he
              have HY := Lib.hid (List.mem_of_getElem? hy.out)
              have HT : Hid (∀ q ∈ part.take (k + 1), q ∈ s) := Lib.hid (fun q hq => by
                rw [List.take_add_one, hx.out] at hq
                rcases List.mem_append.1 hq with h | h
                · exact H1.out q h
                · have h' : q = y := by simpa using h
                  rw [h']; exact HY.out)
              have HN : Hid (∀ i' : Nat, ∀ u z : Int, i' < i → s[i']? = some u → ∀ k' : Nat, k + 1 ≤ k' → part[k']? = some z → u < z) := Lib.hid (fun i' u z h hu k' hk' hz => by
                have h1 := H3.out i' u h hu
                have h2 := sorted_lt HP.out hx.out hz (by omega)
                omega)
              go_wp2
              go_round
              case rel => exact ⟨i, k + 1, by omega, by omega, rfl, by go_num, HT, HN⟩
              case measure => simp [intOf]; omega
            · have HN : Hid (¬ ∀ q ∈ part, q ∈ s) := Lib.hid (fun h => by
                obtain ⟨m, hm⟩ := List.mem_iff_getElem?.1 (h x HIN.out)
                rcases Nat.lt_or_ge m i with h1 | h1
                · have := H3.out m x h1 hm; omega
                · rcases Nat.lt_or_ge i m with h2 | h2
                  · have := sorted_lt HS.out hy.out hm h2; omega
                  · have e : m = i := by omega
                    subst e
                    rw [hy.out] at hm
                    injection hm with hm
                    exact he hm)
              have hne : (y != x) = true := by simpa using he
              go_wp2
              go_ret
              exact ⟨ret_bool (decide_eq_false HN.out).symm, rfl⟩
        · have HN : Hid (¬ ∀ q ∈ part, q ∈ s) := Lib.hid (fun h => by
            obtain ⟨m, hm⟩ := List.mem_iff_getElem?.1 (h x HIN.out)
            have := H3.out m x (by have := (List.getElem?_eq_some_iff.1 hm).1; omega) hm
            omega)
          obtain rfl : i = s.length := by omega
          go_wp2
          go_ret
          exact ⟨ret_bool (decide_eq_false HN.out).symm, rfl⟩
    · have HT : Hid (∀ q ∈ part, q ∈ s) := Lib.hid (by
        have := H1.out
        rwa [List.take_of_length_le (by omega)] at this)
      go_wp2
      go_ret
      exact ⟨ret_bool (decide_eq_true HT.out).symm, rfl⟩

end Go.Proofs.Ytiaokmofoaeifaa
