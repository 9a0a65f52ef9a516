/-
  Tables, the reference's: what it returns.
-/
import Derived.Test.YtihkgdlanfemcaaPv2
import Derived.Test.YtihkgdlanfemcaaME
import Derived.Test.YtihkgdlanfemcaaMQ
namespace Go.Proofs.Ytihkgdlanfemcaa
open Go.RowKit
set_option linter.unusedVariables false
set_option linter.unusedSimpArgs false

theorem tab_row {w : World} {A : Option Addr} {n p : Nat} {V : Int → Int → Int} (h : LLR w A (tabR n V)) (hp : p < n) :
    ∃ ad B c, A = some ad ∧ w.cell? (ad.add p) = some (.slice B n c) ∧ Ints w B (rowV n (V (p : Int))) := by
  obtain ⟨ad, B, c, hA, hc, hI⟩ := h p _ (tabR_get hp)
  rw [rowV_len] at hc
  exact ⟨ad, B, c, hA, hc, hI⟩
set_option maxRecDepth 100000 in
set_option maxHeartbeats 1000000 in
theorem tables_any (w : World) (A B : Option Addr) (n c d : Nat) (V : Int → Int → Int) (hA : LLR w A (tabR n V)) (hB : LLR w B (tabR n V)) (hn : n ≤ 1000) :
    Calls Try.prog 25 #[.slice A n c, .slice B n d] w fun e w' => e = .returned (.bool true) ∧ Below w.heap.size w w' := by
  go_enter Try.func25, Try.ntmps25
  go_wp2_with fail
  go_loopg [5] (n) (fun gk i wr => ∃ k : Nat, i = .int .i64 k ∧ Hid (k + gk = n) ∧ Below w.heap.size w wr)
  case atStart => exact ⟨0, rfl, Lib.hid (by omega), (by repeat (first | with_reducible exact Below.refl _ _ | with_reducible apply bdrew | with_reducible apply bdrewN | with_reducible apply balloc | ((with_reducible refine bset ?_ ?_ _); rotate_left; (first | omega | (simp <;> omega)))))⟩
  case round =>
    obtain ⟨k, rfl, hk, hBr⟩ := hrel
    obtain ⟨g1, rfl⟩ : ∃ g : Nat, g = gk := ⟨_, rfl⟩
    obtain ⟨w1, rfl⟩ : ∃ wo : World, wo = wr := ⟨_, rfl⟩
    by_cases hlt : k < n
    · have hk1 := Lib.hid (show k + 1 + (g1 - 1) = n ∧ g1 - 1 < g1 by have := hk.out; omega)
      obtain ⟨ad, A1, c1, rfl, hc1, hI1⟩ := tab_row (hA.below hBr) hlt
      obtain ⟨bd, A2, c2, rfl, hc2, hI2⟩ := tab_row (hB.below hBr) hlt
      have d1s := hBr.size
      have hl1 := rowV_len n (V (k : Int))
      have hb0 : (0 : Int) ≤ (k : Int) := by omega
      have hb1 : (k : Int) < (n : Int) := by omega
      go_wp2_with fail
      refine wp_region_held_drew (S := fun W => W.cell? (ad.add k) = some (.slice A1 n c1) ∧ W.cell? (bd.add k) = some (.slice A2 n c2)) (by kernel_rfl) (by exact ⟨hc1, hc2⟩) (fun hHeld => ?_)
      refine wpAnyH_take (i := 0) (v := ?vo10) rfl (by kernel_rfl) (by kernel_rfl) (by kernel_rfl) (fun _ _ _ h => h) (Or.inl ⟨by rfl, ?ho10⟩) (by assumption) ?ro10
      case ho10 => (intro w hSw; (try dsimp only at hSw); go_simp; (try with_reducible rfl))
      try simp only [Act.put, List.getElem_toArray, List.getElem_cons_succ, List.getElem_cons_zero, List.setIfInBounds_toArray, List.set_cons_zero, List.set_cons_succ]
      refine wpAnyH_take (i := 1) (v := ?vo11) rfl (by kernel_rfl) (by kernel_rfl) (by kernel_rfl) (fun _ _ _ h => h) (Or.inl ⟨by rfl, ?ho11⟩) (by assumption) ?ro11
      case ho11 => (intro w hSw; (try dsimp only at hSw); go_simp; (try with_reducible rfl))
      try simp only [Act.put, List.getElem_toArray, List.getElem_cons_succ, List.getElem_cons_zero, List.setIfInBounds_toArray, List.set_cons_zero, List.set_cons_succ]
      refine wpAnyH_take (i := 2) (v := ?vo12) rfl (by kernel_rfl) (by kernel_rfl) (by kernel_rfl) (fun _ _ _ h => h) (Or.inl ⟨by rfl, ?ho12⟩) (by assumption) ?ro12
      case ho12 => (intro w hSw; (try dsimp only at hSw); go_simp; (try with_reducible rfl))
      try simp only [Act.put, List.getElem_toArray, List.getElem_cons_succ, List.getElem_cons_zero, List.setIfInBounds_toArray, List.set_cons_zero, List.set_cons_succ]
      refine wpAnyH_take (i := 3) (v := ?vo13) rfl (by kernel_rfl) (by kernel_rfl) (by kernel_rfl) (fun _ _ _ h => h) (Or.inl ⟨by rfl, ?ho13⟩) (by assumption) ?ro13
      case ho13 => (intro w hSw; (try dsimp only at hSw); go_simp; (try with_reducible rfl))
      try simp only [Act.put, List.getElem_toArray, List.getElem_cons_succ, List.getElem_cons_zero, List.setIfInBounds_toArray, List.set_cons_zero, List.set_cons_succ]
      refine wpAnyH_take (i := 4) (v := ?vo14) rfl (by kernel_rfl) (by kernel_rfl) (by kernel_rfl) (fun _ _ _ h => h) (Or.inl ⟨by rfl, ?ho14⟩) (by assumption) ?ro14
      case ho14 => (intro w hSw; (try dsimp only at hSw); go_simp; (try with_reducible rfl))
      try simp only [Act.put, List.getElem_toArray, List.getElem_cons_succ, List.getElem_cons_zero, List.setIfInBounds_toArray, List.set_cons_zero, List.set_cons_succ]
      refine wpAnyH_take (i := 5) (v := ?vo15) rfl (by kernel_rfl) (by kernel_rfl) (by kernel_rfl) (fun _ _ _ h => h) (Or.inl ⟨by rfl, ?ho15⟩) (by assumption) ?ro15
      case ho15 => (intro w hSw; (try dsimp only at hSw); go_simp; (try with_reducible rfl))
      try simp only [Act.put, List.getElem_toArray, List.getElem_cons_succ, List.getElem_cons_zero, List.setIfInBounds_toArray, List.set_cons_zero, List.set_cons_succ]
      refine wpAnyH_take (i := 6) (v := ?vo16) rfl (by kernel_rfl) (by kernel_rfl) (by kernel_rfl) (fun _ _ _ h => h) (Or.inl ⟨by rfl, ?ho16⟩) (by assumption) ?ro16
      case ho16 => (intro w hSw; (try dsimp only at hSw); go_simp; (try with_reducible rfl))
      try simp only [Act.put, List.getElem_toArray, List.getElem_cons_succ, List.getElem_cons_zero, List.setIfInBounds_toArray, List.set_cons_zero, List.set_cons_succ]
      refine wpAnyH_take (i := 7) (v := ?vo17) rfl (by kernel_rfl) (by kernel_rfl) (by kernel_rfl) (fun _ _ _ h => h) (Or.inl ⟨by rfl, ?ho17⟩) (by assumption) ?ro17
      case ho17 => (intro w hSw; (try dsimp only at hSw); go_simp; (try with_reducible rfl))
      try simp only [Act.put, List.getElem_toArray, List.getElem_cons_succ, List.getElem_cons_zero, List.setIfInBounds_toArray, List.set_cons_zero, List.set_cons_succ]
      refine wpAnyH_ready (rs := [8]) (by kernel_rfl) (by simp) ?_
      refine (AllReadyH.cons rfl (fun K hK => ?bo11x8) AllReadyH.nil)
      case bo11x8 =>
        go_simp
        go_at_call 33
        refine (ints_at _ _ _ _ n _ _ _ (hI1.below (by repeat (first | with_reducible exact Below.refl _ _ | with_reducible apply bdrew | with_reducible apply bdrewN | with_reducible apply balloc | ((with_reducible refine bset ?_ ?_ _); rotate_left; (first | omega | (simp <;> omega)))))) (hI2.below (by repeat (first | with_reducible exact Below.refl _ _ | with_reducible apply bdrew | with_reducible apply bdrewN | with_reducible apply balloc | ((with_reducible refine bset ?_ ?_ _); rotate_left; (first | omega | (simp <;> omega)))))) hl1 hl1 (by omega) true (by simp)).mono ?_
        rintro e w2 ⟨rfl, hB2⟩
        have D2 := dstep w hB2 (by repeat (first | with_reducible exact hBr | with_reducible apply bdrew | with_reducible apply bdrewN | with_reducible apply balloc | ((with_reducible refine bset ?_ ?_ _); rotate_left; (first | omega | (simp <;> omega)))))
        have d2s := D2.size
        have Ew1_2 := dstep w1 hB2 (by repeat (first | with_reducible exact Below.refl _ _ | with_reducible apply bdrew | with_reducible apply bdrewN | with_reducible apply balloc | ((with_reducible refine bset ?_ ?_ _); rotate_left; (first | omega | (simp <;> omega)))))
        have hSS : w2.cell? (ad.add k) = some (.slice A1 n c1) ∧ w2.cell? (bd.add k) = some (.slice A2 n c2) := ⟨(Ew1_2.cell (World.block_lt_of_cell? w1 _ hc1)).trans hc1, (Ew1_2.cell (World.block_lt_of_cell? w1 _ hc2)).trans hc2⟩
        go_wp2_with fail
        refine hK.out _ _ hSS (fun hHeld => ?_)
        clear hK K
        try simp only [Act.put, List.getElem_toArray, List.getElem_cons_succ, List.getElem_cons_zero, List.setIfInBounds_toArray, List.set_cons_zero, List.set_cons_succ]
        refine wpAnyH_take (i := 9) (v := ?vo1l29) rfl (by kernel_rfl) (by kernel_rfl) (by kernel_rfl) (fun _ _ _ h => h) (Or.inl ⟨by rfl, ?ho1l29⟩) (by assumption) ?ro1l29
        case ho1l29 => (intro w hSw; (try dsimp only at hSw); go_simp; (try with_reducible rfl))
        try simp only [Act.put, List.getElem_toArray, List.getElem_cons_succ, List.getElem_cons_zero, List.setIfInBounds_toArray, List.set_cons_zero, List.set_cons_succ]
        refine wpAnyH_done (by kernel_rfl) ?_ _
        go_wp2
        go_roundg (g1 - 1)
        case measure => exact hk1.out.2
        case rel => exact ⟨k + 1, by go_num, Lib.hid hk1.out.1, (by repeat (first | with_reducible exact D2 | with_reducible apply bdrew | with_reducible apply bdrewN | with_reducible apply balloc | ((with_reducible refine bset ?_ ?_ _); rotate_left; (first | omega | (simp <;> omega)))))⟩
    · obtain rfl : n = k := by have := hk.out; omega
      go_wp2
      go_ret
      exact ⟨rfl, (by repeat (first | with_reducible exact hBr | with_reducible apply bdrew | with_reducible apply bdrewN | with_reducible apply balloc | ((with_reducible refine bset ?_ ?_ _); rotate_left; (first | omega | (simp <;> omega)))))⟩


end Go.Proofs.Ytihkgdlanfemcaa
