/-
  lmcut: hardest: what it returns.
-/
import Derived.Test.YtiaokmofoaeifaaTrel7
import Derived.Test.YtiaokmofoaeifaaTpure
namespace Go.Proofs.Ytiaokmofoaeifaa
open Go.RowKit
set_option linter.unusedVariables false
set_option linter.unusedSimpArgs false

/-- The fact with the greatest value. -/
def hardStep (vs : List Int) (n : Int) (b p : Int) : Int := if b = n ∨ valAt vs b < valAt vs p then p else b
def hardV (vs : List Int) (n : Int) (xs : List Int) : Int := xs.foldl (hardStep vs n) n
theorem hardV_succ {vs xs : List Int} {n x : Int} {k : Nat} (h : xs[k]? = some x) : hardV vs n (xs.take (k + 1)) = hardStep vs n (hardV vs n (xs.take k)) x := by
  unfold hardV
  rw [List.take_add_one, h]
  simp only [Option.toList, List.foldl_append, List.foldl_cons, List.foldl_nil]
theorem hardV_in {vs : List Int} {n : Int} (h0 : 0 ≤ n) : ∀ {xs : List Int}, (∀ x ∈ xs, 0 ≤ x ∧ x < n) → 0 ≤ hardV vs n xs ∧ hardV vs n xs ≤ n := by
  have key : ∀ (xs : List Int) (b : Int), 0 ≤ b ∧ b ≤ n → (∀ x ∈ xs, 0 ≤ x ∧ x < n) → 0 ≤ xs.foldl (hardStep vs n) b ∧ xs.foldl (hardStep vs n) b ≤ n := by
    intro xs
    induction xs with
    | nil => intro b hb _; exact hb
    | cons x xs ih =>
      intro b hb h
      refine ih _ ?_ (fun y hy => h y (List.mem_cons_of_mem _ hy))
      have := h x (List.mem_cons_self ..)
      unfold hardStep
      split <;> omega
  intro xs h
  exact key xs n ⟨h0, Int.le_refl _⟩ h
set_option maxRecDepth 100000 in
set_option maxHeartbeats 1000000 in
theorem hardest_any (w : World) (b n c d : Nat) (V X : Option Addr) (vs xs : List Int) (h0 : w.cell? ⟨b, 0, none⟩ = some (.int .i64 (n : Int))) (h6 : w.cell? ⟨b, 6, none⟩ = some (.slice V (n + 1) c)) (hI : Ints w V vs) (hvl : vs.length = n + 1) (hn : n ≤ 1000000000) (hJ : Ints w X xs) (hl : xs.length ≤ 9223372036854775807) (hxs : ∀ x ∈ xs, 0 ≤ x ∧ x < (n : Int)) :
    Calls Try.prog 109 #[.pointer (some ⟨b, 0, none⟩), .slice X xs.length d] w fun e w' => e = .returned (.int .i64 (hardV vs n xs)) ∧ Below w.heap.size w w' := by
  go_enter Try.func109, Try.ntmps109
  go_wp2_with fail
  go_loopw [5, 15] (fun v i wr => ∃ k : Nat, k ≤ xs.length ∧ i = .int .i64 k ∧ (∃ h : Int, Hid (h = hardV vs n (xs.take k)) ∧ v = .int .i64 h) ∧ Below w.heap.size w wr) (fun _ i _ => xs.length - (intOf i).toNat)
  case atStart => exact ⟨0, Nat.zero_le _, rfl, ⟨(n : Int), Lib.hid rfl, rfl⟩, Below.refl _ _⟩
  case round =>
    obtain ⟨k, hk, rfl, ⟨h, hh, rfl⟩, hBr⟩ := hrel
    have hc0 := (hBr.cell (World.block_lt_of_cell? w _ h0)).trans h0
    have hc6 := (hBr.cell (World.block_lt_of_cell? w _ h6)).trans h6
    by_cases hlt : k < xs.length
    · obtain ⟨ad, x, rfl, hx, hc⟩ := (hJ.below hBr).at_ hlt
      obtain ⟨x0, x1⟩ := hxs x (List.mem_of_getElem? hx.out)
      obtain ⟨b0, b1⟩ := hardV_in (vs := vs) (n := (n : Int)) (by omega) (xs := xs.take k) (fun y hy => hxs y (List.mem_of_mem_take hy))
      rw [← hh.out] at b0 b1
      have HS := Lib.hid (hardV_succ (vs := vs) (n := (n : Int)) hx.out)
      rw [← hh.out] at HS
      by_cases hb : h = (n : Int)
      · subst hb
        have HE := Lib.hid (show x = hardV vs n (xs.take (k + 1)) by rw [HS.out]; unfold hardStep; rw [if_pos (.inl rfl)])
        go_wp2_with fail
        go_quiet (fail)
        go_wp2
        go_roundw
        case rel => exact ⟨k + 1, by omega, by go_num, ⟨x, HE, rfl⟩, by repeat (first | with_reducible exact hBr | with_reducible apply bdrew | with_reducible apply bdrewN | with_reducible apply balloc | ((with_reducible refine bset ?_ ?_ _); rotate_left; (first | omega | (simp <;> omega))))⟩
        case measure => simp [intOf]; omega
      · have hbb : (h == (n : Int)) = false := by simpa using hb
        obtain ⟨vd, vx, rfl, hvx, hcx⟩ := (hI.below hBr).at_ (k := x.toNat) (by omega)
        obtain ⟨vd', vh, e, hvh, hch⟩ := (hI.below hBr).at_ (k := h.toNat) (by omega)
        injection e with e
        subst e
        have e1 := valAt_of hvx.out
        have e2 := valAt_of hvh.out
        have HB := Lib.hid hb
        by_cases hg : vh < vx
        · have HE := Lib.hid (show x = hardV vs n (xs.take (k + 1)) by rw [HS.out]; unfold hardStep; rw [e1, e2, if_pos (.inr hg)])
          have hgd : decide (vh < vx) = true := by simpa using hg
          clear e1 e2
          go_wp2_with fail
          go_quiet (fail)
          go_wp2
          go_roundw
          case rel => exact ⟨k + 1, by omega, by go_num, ⟨x, HE, rfl⟩, by repeat (first | with_reducible exact hBr | with_reducible apply bdrew | with_reducible apply bdrewN | with_reducible apply balloc | ((with_reducible refine bset ?_ ?_ _); rotate_left; (first | omega | (simp <;> omega))))⟩
          case measure => simp [intOf]; omega
        · have HE := Lib.hid (show h = hardV vs n (xs.take (k + 1)) by rw [HS.out]; unfold hardStep; rw [e1, e2, if_neg (by have := HB.out; omega)])
          have hgd : decide (vh < vx) = false := by simpa using hg
          clear e1 e2
          go_wp2_with fail
          go_quiet (fail)
          go_wp2
          go_roundw
          case rel => exact ⟨k + 1, by omega, by go_num, ⟨h, HE, rfl⟩, by repeat (first | with_reducible exact hBr | with_reducible apply bdrew | with_reducible apply bdrewN | with_reducible apply balloc | ((with_reducible refine bset ?_ ?_ _); rotate_left; (first | omega | (simp <;> omega))))⟩
          case measure => simp [intOf]; omega
    · rw [List.take_of_length_le (by omega)] at hh
      go_wp2
      go_ret
      exact ⟨ret_int hh.out, hBr⟩


end Go.Proofs.Ytiaokmofoaeifaa
