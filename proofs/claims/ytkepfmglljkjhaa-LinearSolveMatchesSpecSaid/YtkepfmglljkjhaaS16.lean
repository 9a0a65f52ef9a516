/-
  corners of a region: the walk (with the sum of 1).
-/
import Derived.Test.YtkepfmglljkjhaaS15
import Derived.Lib.RabinKarpLaws
namespace Go.Proofs.Ytkepfmglljkjhaa
open Go.RowKit
set_option linter.unusedVariables false
set_option linter.unusedSimpArgs false

set_option maxRecDepth 100000 in
set_option maxHeartbeats 8000000 in
theorem corners_1 (w : World) (AR AB : Option Addr) (cr cb : Nat) (rows : List (List Int)) (bounds : List Int) (m n : Nat) (hrl : Hid (rows.length = m)) (hbl : Hid (bounds.length = m)) (hm6 : m ≤ 6) (hn6 : n ≤ 6) (hR : RowsRead w AR rows) (hB : Ints w AB bounds) (hrow : ∀ (i : Nat) (r : List Int), rows[i]? = some r → r.length = n ∧ ∀ a ∈ r, -4 ≤ a ∧ a ≤ 4) (hbb : ∀ y ∈ bounds, -20 ≤ y ∧ y ≤ 20) :
    Calls Try.prog 41 #[.slice AR m cr, .slice AB m cb, .int .i64 n, .bool true] w fun e w' => CornSays w (allA rows bounds n) [onesR n] n e w' := by
  have HR := Lib.hid hR
  have HB := Lib.hid hB
  have HROW := Lib.hid hrow
  have HBB := Lib.hid hbb
  clear hR hB hrow hbb
  go_enter Try.func41, Try.ntmps41
  go_wp2_with fail
  go_loopw [9, 10] (fun z x wr => ∃ (i : Nat) (v : Value), i ≤ m ∧ x = .int .i64 i ∧ v = z ∧ OwnLA w.heap.size wr v (rowsA rows bounds i) ∧ Below w.heap.size w wr) (fun _ x _ => m - (intOf x).toNat)
  case atStart => exact ⟨0, _, Nat.zero_le _, rfl, rfl, OwnEs.nil _ _, by repeat (first | with_reducible exact Below.refl _ _ | with_reducible apply bdrew | with_reducible apply bdrewN | with_reducible apply balloc | ((with_reducible refine bset ?_ ?_ _); rotate_left; (first | omega | (simp <;> omega))))⟩
  case round =>
    obtain ⟨i, v, hi, rfl, rfl, hO, hB1⟩ := hrel
    obtain ⟨w1, rfl⟩ : ∃ wo : World, wo = wr := ⟨_, rfl⟩
    have d1s := hB1.size
    by_cases hlt : i < m
    · obtain ⟨r, hr⟩ : ∃ r, Hid (rows[i]? = some r) := ⟨_, Lib.hid (List.getElem?_eq_getElem (by rw [hrl.out]; exact hlt))⟩
      obtain ⟨ad, B, cc, rfl, hc0, hI, hN⟩ := HR.out i r hr.out
      have hrn := (HROW.out i r hr.out).1
      rw [hrn] at hc0
      have HRN := Lib.hid hrn
      obtain ⟨ad2, y, rfl, hy, hyc0⟩ := HB.out.at_ (k := i) (by rw [hbl.out]; exact hlt)
      have HI := Lib.hid hI
      have HN := Lib.hid hN
      have HL := Lib.hid (show (rowsA rows bounds i).length < 1000000000000 by rw [rowsA_len]; omega)
      have HS := Lib.hid (rowsA_succ hr.out hy.out)
      have HSL := Lib.hid (show (r ++ [y]).length = n + 1 by rw [List.length_append, hrn]; rfl)
      clear hI hN hrn
      go_wp2_with fail
      refine wp_region_held_drew (S := fun W => W.cell? (ad.add i) = some (.slice B n cc) ∧ W.cell? (ad2.add i) = some (.int .i64 y)) (by kernel_rfl) (by exact ⟨((by repeat (first | with_reducible exact hB1 | with_reducible apply bdrew | with_reducible apply bdrewN | with_reducible apply balloc | ((with_reducible refine bset ?_ ?_ _); rotate_left; (first | omega | (simp <;> omega)))) : Below w.heap.size w w1.drew).cell (blt hc0)).trans hc0, ((by repeat (first | with_reducible exact hB1 | with_reducible apply bdrew | with_reducible apply bdrewN | with_reducible apply balloc | ((with_reducible refine bset ?_ ?_ _); rotate_left; (first | omega | (simp <;> omega)))) : Below w.heap.size w w1.drew).cell (blt hyc0)).trans hyc0⟩) (fun hHeld => ?_)
      refine wpAnyH_take (i := 0) (v := ?vo40) rfl (by kernel_rfl) (by kernel_rfl) (by kernel_rfl) (fun _ _ _ h => h) (Or.inl ⟨by rfl, ?ho40⟩) (by assumption) ?ro40
      case ho40 => (intro w hSw; (try dsimp only at hSw); go_simp; (try with_reducible rfl))
      try simp only [Act.put, List.getElem_toArray, List.getElem_cons_succ, List.getElem_cons_zero, List.setIfInBounds_toArray, List.set_cons_zero, List.set_cons_succ]
      refine wpAnyH_take (i := 1) (v := ?vo41) rfl (by kernel_rfl) (by kernel_rfl) (by kernel_rfl) (fun _ _ _ h => h) (Or.inl ⟨by rfl, ?ho41⟩) (by assumption) ?ro41
      case ho41 => (intro w hSw; (try dsimp only at hSw); go_simp; (try with_reducible rfl))
      try simp only [Act.put, List.getElem_toArray, List.getElem_cons_succ, List.getElem_cons_zero, List.setIfInBounds_toArray, List.set_cons_zero, List.set_cons_succ]
      refine wpAnyH_take (i := 2) (v := ?vo42) rfl (by kernel_rfl) (by kernel_rfl) (by kernel_rfl) (fun _ _ _ h => h) (Or.inl ⟨by rfl, ?ho42⟩) (by assumption) ?ro42
      case ho42 => (intro w hSw; (try dsimp only at hSw); go_simp; (try with_reducible rfl))
      try simp only [Act.put, List.getElem_toArray, List.getElem_cons_succ, List.getElem_cons_zero, List.setIfInBounds_toArray, List.set_cons_zero, List.set_cons_succ]
      refine wpAnyH_take (i := 3) (v := ?vo43) rfl (by kernel_rfl) (by kernel_rfl) (by kernel_rfl) (fun _ _ _ h => h) (Or.inl ⟨by rfl, ?ho43⟩) (by assumption) ?ro43
      case ho43 => (intro w hSw; (try dsimp only at hSw); go_simp; (try with_reducible rfl))
      try simp only [Act.put, List.getElem_toArray, List.getElem_cons_succ, List.getElem_cons_zero, List.setIfInBounds_toArray, List.set_cons_zero, List.set_cons_succ]
      refine wpAnyH_take (i := 4) (v := ?vo44) rfl (by kernel_rfl) (by kernel_rfl) (by kernel_rfl) (fun _ _ _ h => h) (Or.inl ⟨by rfl, ?ho44⟩) (by assumption) ?ro44
      case ho44 => (intro w hSw; (try dsimp only at hSw); go_simp; (try with_reducible rfl))
      try simp only [Act.put, List.getElem_toArray, List.getElem_cons_succ, List.getElem_cons_zero, List.setIfInBounds_toArray, List.set_cons_zero, List.set_cons_succ]
      refine wpAnyH_take (i := 6) (v := ?vo46) rfl (by kernel_rfl) (by kernel_rfl) (by kernel_rfl) (fun _ _ _ h => h) (Or.inl ⟨by rfl, ?ho46⟩) (by assumption) ?ro46
      case ho46 => (intro w hSw; (try dsimp only at hSw); go_simp; (try with_reducible rfl))
      try simp only [Act.put, List.getElem_toArray, List.getElem_cons_succ, List.getElem_cons_zero, List.setIfInBounds_toArray, List.set_cons_zero, List.set_cons_succ]
      refine wpAnyH_take (i := 7) (v := ?vo47) rfl (by kernel_rfl) (by kernel_rfl) (by kernel_rfl) (fun _ _ _ h => h) (Or.inl ⟨by rfl, ?ho47⟩) (by assumption) ?ro47
      case ho47 => (intro w hSw; (try dsimp only at hSw); go_simp; (try with_reducible rfl))
      try simp only [Act.put, List.getElem_toArray, List.getElem_cons_succ, List.getElem_cons_zero, List.setIfInBounds_toArray, List.set_cons_zero, List.set_cons_succ]
      refine wpAnyH_take (i := 8) (v := ?vo48) rfl (by kernel_rfl) (by kernel_rfl) (by kernel_rfl) (fun _ _ _ h => h) (Or.inl ⟨by rfl, ?ho48⟩) (by assumption) ?ro48
      case ho48 => (intro w hSw; (try dsimp only at hSw); go_simp; (try with_reducible rfl))
      try simp only [Act.put, List.getElem_toArray, List.getElem_cons_succ, List.getElem_cons_zero, List.setIfInBounds_toArray, List.set_cons_zero, List.set_cons_succ]
      refine wpAnyH_take (i := 9) (v := ?vo49) rfl (by kernel_rfl) (by kernel_rfl) (by kernel_rfl) (fun _ _ _ h => h) (Or.inl ⟨by rfl, ?ho49⟩) (by assumption) ?ro49
      case ho49 => (intro w hSw; (try dsimp only at hSw); go_simp; (try with_reducible rfl))
      try simp only [Act.put, List.getElem_toArray, List.getElem_cons_succ, List.getElem_cons_zero, List.setIfInBounds_toArray, List.set_cons_zero, List.set_cons_succ]
      refine wpAnyH_ready (rs := [5, 10]) (by kernel_rfl) (by simp) ?_
      refine (AllReadyH.cons rfl (fun K hK => ?bo41x5) (AllReadyH.cons rfl (fun K hK => ?bo41x10) AllReadyH.nil))
      case bo41x5 =>
        refine step_catI2 rfl (.const (.slice none 0 0)) (.tmp 34) rfl (w1.drew.heap.size) (.slice none 0 0) [] rfl (OwnI.nil _ _) B cc n r rfl HRN.out (fun h => (HN.out.1 h).2) (HI.out.below (by repeat (first | with_reducible exact hB1 | with_reducible apply bdrew | with_reducible apply bdrewN | with_reducible apply balloc | ((with_reducible refine bset ?_ ?_ _); rotate_left; (first | omega | (simp <;> omega)))))) r (List.nil_append _) (by first | omega | (simp; omega)) (Nat.le_refl _) ?_
        intro v11 w11 o11 G11 q11
        have B11 : Below w1.drew.heap.size w1.drew w11 := Below.grown (Below.refl _ _) G11 (Nat.le_refl _) (fun k hk => by cases hk)
        have D11 := dstep w B11 (by repeat (first | with_reducible exact hB1 | with_reducible apply bdrew | with_reducible apply bdrewN | with_reducible apply balloc | ((with_reducible refine bset ?_ ?_ _); rotate_left; (first | omega | (simp <;> omega)))))
        have E11 := dstep w1 B11 (by repeat (first | with_reducible exact Below.refl _ _ | with_reducible apply bdrew | with_reducible apply bdrewN | with_reducible apply balloc | ((with_reducible refine bset ?_ ?_ _); rotate_left; (first | omega | (simp <;> omega)))))
        have d11s := E11.size
        have hSS : w11.cell? (ad.add i) = some (.slice B n cc) ∧ w11.cell? (ad2.add i) = some (.int .i64 y) := ⟨((by repeat (first | with_reducible exact D11 | with_reducible apply bdrew | with_reducible apply bdrewN | with_reducible apply balloc | ((with_reducible refine bset ?_ ?_ _); rotate_left; (first | omega | (simp <;> omega)))) : Below w.heap.size w w11).cell (blt hc0)).trans hc0, ((by repeat (first | with_reducible exact D11 | with_reducible apply bdrew | with_reducible apply bdrewN | with_reducible apply balloc | ((with_reducible refine bset ?_ ?_ _); rotate_left; (first | omega | (simp <;> omega)))) : Below w.heap.size w w11).cell (blt hyc0)).trans hyc0⟩
        go_wp2_with fail
        refine hK.out _ _ hSS (fun hHeld => ?_)
        clear hK K
        try simp only [Act.put, List.getElem_toArray, List.getElem_cons_succ, List.getElem_cons_zero, List.setIfInBounds_toArray, List.set_cons_zero, List.set_cons_succ]
        refine wpAnyH_ready (rs := [10]) (by kernel_rfl) (by simp) ?_
        refine (AllReadyH.cons rfl (fun K hK => ?bo42x10) AllReadyH.nil)
        case bo42x10 =>
          go_simp
          have hb10 : (w11.alloc (.cells #[.int .i64 y] 3)).cell? ⟨w11.heap.size, 0, none⟩ = some (.int .i64 y) := (by simp [go_sem])
          have hSS : (w11.alloc (.cells #[.int .i64 y] 3)).cell? (ad.add i) = some (.slice B n cc) ∧ (w11.alloc (.cells #[.int .i64 y] 3)).cell? (ad2.add i) = some (.int .i64 y) := ⟨((by repeat (first | with_reducible exact D11 | with_reducible apply bdrew | with_reducible apply bdrewN | with_reducible apply balloc | ((with_reducible refine bset ?_ ?_ _); rotate_left; (first | omega | (simp <;> omega)))) : Below w.heap.size w (w11.alloc (.cells #[.int .i64 y] 3))).cell (blt hc0)).trans hc0, ((by repeat (first | with_reducible exact D11 | with_reducible apply bdrew | with_reducible apply bdrewN | with_reducible apply balloc | ((with_reducible refine bset ?_ ?_ _); rotate_left; (first | omega | (simp <;> omega)))) : Below w.heap.size w (w11.alloc (.cells #[.int .i64 y] 3))).cell (blt hyc0)).trans hyc0⟩
          go_wp2_with fail
          refine hK.out _ _ hSS (fun hHeld => ?_)
          clear hK K
          try simp only [Act.put, List.getElem_toArray, List.getElem_cons_succ, List.getElem_cons_zero, List.setIfInBounds_toArray, List.set_cons_zero, List.set_cons_succ]
          refine wpAnyH_ready (rs := [11]) (by kernel_rfl) (by simp) ?_
          refine AllReadyH.cons rfl (fun K hK => ?_) AllReadyH.nil
          refine step_push_at rfl (.tmp 35) (.tmp 40) rfl w1 [] w1.heap.size v11 r y rfl ((OwnI.mono o11 (by simp)).below (by repeat (first | with_reducible exact Below.refl _ _ | with_reducible apply bdrew | with_reducible apply bdrewN | with_reducible apply balloc | ((with_reducible refine bset ?_ ?_ _); rotate_left; (first | omega | (simp <;> omega)))) : Below w11.heap.size w11 (w11.alloc (.cells #[.int .i64 y] 3)))) ⟨w11.heap.size, 0, none⟩ 1 rfl hb10 (by rw [HRN.out]; omega) (by first | omega | (simp; omega)) (Nat.le_refl _) (by repeat (first | with_reducible exact E11 | with_reducible apply bdrew | with_reducible apply bdrewN | with_reducible apply balloc | ((with_reducible refine bset ?_ ?_ _); rotate_left; (first | omega | (simp <;> omega))))) trivial (fun x hx => by cases hx) ?_
          intro g3 cap3 w3 o3 D3e C3 sz3 G3 q3
          rw [HRN.out] at o3 ⊢
          clear C3 G3 q3
          have D3 := dstep w D3e hB1
          have d3s := D3e.size
          have hg3 := (OwnI.blk_ o3 ⟨g3, 0, none⟩ rfl).1
          dsimp only at hg3
          have hSS : w3.cell? (ad.add i) = some (.slice B n cc) ∧ w3.cell? (ad2.add i) = some (.int .i64 y) := ⟨((by repeat (first | with_reducible exact D3 | with_reducible apply bdrew | with_reducible apply bdrewN | with_reducible apply balloc | ((with_reducible refine bset ?_ ?_ _); rotate_left; (first | omega | (simp <;> omega)))) : Below w.heap.size w w3).cell (blt hc0)).trans hc0, ((by repeat (first | with_reducible exact D3 | with_reducible apply bdrew | with_reducible apply bdrewN | with_reducible apply balloc | ((with_reducible refine bset ?_ ?_ _); rotate_left; (first | omega | (simp <;> omega)))) : Below w.heap.size w w3).cell (blt hyc0)).trans hyc0⟩
          go_wp2_with fail
          refine hK.out _ _ hSS (fun hHeld => ?_)
          clear hK K
          try simp only [Act.put, List.getElem_toArray, List.getElem_cons_succ, List.getElem_cons_zero, List.setIfInBounds_toArray, List.set_cons_zero, List.set_cons_succ]
          refine wpAnyH_ready (rs := [12]) (by kernel_rfl) (by simp) ?_
          refine AllReadyH.cons rfl (fun K hK => ?_) AllReadyH.nil
          go_simp
          have hSS : (w3.alloc (.cells #[.slice (some ⟨g3, 0, none⟩) (n + 1) cap3] 23)).cell? (ad.add i) = some (.slice B n cc) ∧ (w3.alloc (.cells #[.slice (some ⟨g3, 0, none⟩) (n + 1) cap3] 23)).cell? (ad2.add i) = some (.int .i64 y) := ⟨((by repeat (first | with_reducible exact D3 | with_reducible apply bdrew | with_reducible apply bdrewN | with_reducible apply balloc | ((with_reducible refine bset ?_ ?_ _); rotate_left; (first | omega | (simp <;> omega)))) : Below w.heap.size w (w3.alloc (.cells #[.slice (some ⟨g3, 0, none⟩) (n + 1) cap3] 23))).cell (blt hc0)).trans hc0, ((by repeat (first | with_reducible exact D3 | with_reducible apply bdrew | with_reducible apply bdrewN | with_reducible apply balloc | ((with_reducible refine bset ?_ ?_ _); rotate_left; (first | omega | (simp <;> omega)))) : Below w.heap.size w (w3.alloc (.cells #[.slice (some ⟨g3, 0, none⟩) (n + 1) cap3] 23))).cell (blt hyc0)).trans hyc0⟩
          go_wp2_with fail
          refine hK.out _ _ hSS (fun hHeld => ?_)
          clear hK K
          try simp only [Act.put, List.getElem_toArray, List.getElem_cons_succ, List.getElem_cons_zero, List.setIfInBounds_toArray, List.set_cons_zero, List.set_cons_succ]
          refine wpAnyH_ready (rs := [13]) (by kernel_rfl) (by simp) ?_
          refine AllReadyH.cons rfl (fun K hK => ?_) AllReadyH.nil
          refine step_els1 pany_stable 22 24 (.slice none 0 0) Try.underlying22 info_list rfl (by decide) (by decide) rfl (.tmp 30) (.tmp 42) rfl rfl (OwnLA.below hO (by repeat (first | with_reducible exact D3e | with_reducible apply bdrew | with_reducible apply bdrewN | with_reducible apply balloc | ((with_reducible refine bset ?_ ?_ _); rotate_left; (first | omega | (simp <;> omega)))) : Below w1.heap.size w1 (w3.alloc (.cells #[.slice (some ⟨g3, 0, none⟩) (n + 1) cap3] 23)))) ⟨w3.heap.size, 0, none⟩ 1 rfl [.slice (some ⟨g3, 0, none⟩) (n + 1) cap3] (r ++ [y]) rfl (cells_one (by simp [go_sem])) (by intro u hu; simp at hu; subst hu; rfl) ⟨some ⟨g3, 0, none⟩, cap3, by rw [HSL.out], (OwnI.ints_at o3).below (by repeat (first | with_reducible exact Below.refl _ _ | with_reducible apply bdrew | with_reducible apply bdrewN | with_reducible apply balloc | ((with_reducible refine bset ?_ ?_ _); rotate_left; (first | omega | (simp <;> omega))))), OwnI.nilok o3, fun _ ad e e2 => by injection e with e; subst e; have := (OwnEs.lt hO g3 e2.symm).2; omega⟩ HL.out (by first | omega | (simp; omega)) ?_
          intro v4 w4 o4 G4 at4
          have D4 : Below w.heap.size w w4 := Below.grown (by repeat (first | with_reducible exact D3 | with_reducible apply bdrew | with_reducible apply bdrewN | with_reducible apply balloc | ((with_reducible refine bset ?_ ?_ _); rotate_left; (first | omega | (simp <;> omega))))) G4 (by first | omega | (simp; omega)) (fun k hk => (OwnEs.lt hO k hk).1)
          clear G4 at4
          have hSS : w4.cell? (ad.add i) = some (.slice B n cc) ∧ w4.cell? (ad2.add i) = some (.int .i64 y) := ⟨((by repeat (first | with_reducible exact D4 | with_reducible apply bdrew | with_reducible apply bdrewN | with_reducible apply balloc | ((with_reducible refine bset ?_ ?_ _); rotate_left; (first | omega | (simp <;> omega)))) : Below w.heap.size w w4).cell (blt hc0)).trans hc0, ((by repeat (first | with_reducible exact D4 | with_reducible apply bdrew | with_reducible apply bdrewN | with_reducible apply balloc | ((with_reducible refine bset ?_ ?_ _); rotate_left; (first | omega | (simp <;> omega)))) : Below w.heap.size w w4).cell (blt hyc0)).trans hyc0⟩
          go_wp2_with fail
          refine hK.out _ _ hSS (fun hHeld => ?_)
          clear hK K
          try simp only [Act.put, List.getElem_toArray, List.getElem_cons_succ, List.getElem_cons_zero, List.setIfInBounds_toArray, List.set_cons_zero, List.set_cons_succ]
          refine wpAnyH_take (i := 14) (v := ?vo4l614) rfl (by kernel_rfl) (by kernel_rfl) (by kernel_rfl) (fun _ _ _ h => h) (Or.inl ⟨by rfl, ?ho4l614⟩) (by assumption) ?ro4l614
          case ho4l614 => (intro w hSw; (try dsimp only at hSw); go_simp; (try with_reducible rfl))
          try simp only [Act.put, List.getElem_toArray, List.getElem_cons_succ, List.getElem_cons_zero, List.setIfInBounds_toArray, List.set_cons_zero, List.set_cons_succ]
          refine wpAnyH_done (by kernel_rfl) ?_ _
          go_wp2
          go_roundw
          case rel => exact ⟨i + 1, _, by omega, by go_num, rfl, (by rw [HS.out]; exact OwnLA.below o4 (by repeat (first | with_reducible exact Below.refl _ _ | with_reducible apply bdrew | with_reducible apply bdrewN | with_reducible apply balloc | ((with_reducible refine bset ?_ ?_ _); rotate_left; (first | omega | (simp <;> omega)))))), by repeat (first | with_reducible exact D4 | with_reducible apply bdrew | with_reducible apply bdrewN | with_reducible apply balloc | ((with_reducible refine bset ?_ ?_ _); rotate_left; (first | omega | (simp <;> omega))))⟩
          case measure => simp [intOf]; omega
      case bo41x10 =>
        go_simp
        have hb10 : (w1.drew.alloc (.cells #[.int .i64 y] 3)).cell? ⟨w1.heap.size, 0, none⟩ = some (.int .i64 y) := (by simp [go_sem])
        have hSS : (w1.drew.alloc (.cells #[.int .i64 y] 3)).cell? (ad.add i) = some (.slice B n cc) ∧ (w1.drew.alloc (.cells #[.int .i64 y] 3)).cell? (ad2.add i) = some (.int .i64 y) := ⟨((by repeat (first | with_reducible exact hB1 | with_reducible apply bdrew | with_reducible apply bdrewN | with_reducible apply balloc | ((with_reducible refine bset ?_ ?_ _); rotate_left; (first | omega | (simp <;> omega)))) : Below w.heap.size w (w1.drew.alloc (.cells #[.int .i64 y] 3))).cell (blt hc0)).trans hc0, ((by repeat (first | with_reducible exact hB1 | with_reducible apply bdrew | with_reducible apply bdrewN | with_reducible apply balloc | ((with_reducible refine bset ?_ ?_ _); rotate_left; (first | omega | (simp <;> omega)))) : Below w.heap.size w (w1.drew.alloc (.cells #[.int .i64 y] 3))).cell (blt hyc0)).trans hyc0⟩
        go_wp2_with fail
        refine hK.out _ _ hSS (fun hHeld => ?_)
        clear hK K
        try simp only [Act.put, List.getElem_toArray, List.getElem_cons_succ, List.getElem_cons_zero, List.setIfInBounds_toArray, List.set_cons_zero, List.set_cons_succ]
        refine wpAnyH_ready (rs := [5]) (by kernel_rfl) (by simp) ?_
        refine (AllReadyH.cons rfl (fun K hK => ?bo47x5) AllReadyH.nil)
        case bo47x5 =>
          refine step_catI2 rfl (.const (.slice none 0 0)) (.tmp 34) rfl ((w1.drew.alloc (.cells #[.int .i64 y] 3)).heap.size) (.slice none 0 0) [] rfl (OwnI.nil _ _) B cc n r rfl HRN.out (fun h => (HN.out.1 h).2) (HI.out.below (by repeat (first | with_reducible exact hB1 | with_reducible apply bdrew | with_reducible apply bdrewN | with_reducible apply balloc | ((with_reducible refine bset ?_ ?_ _); rotate_left; (first | omega | (simp <;> omega)))))) r (List.nil_append _) (by first | omega | (simp; omega)) (Nat.le_refl _) ?_
          intro v11 w11 o11 G11 q11
          have B11 : Below (w1.drew.alloc (.cells #[.int .i64 y] 3)).heap.size (w1.drew.alloc (.cells #[.int .i64 y] 3)) w11 := Below.grown (Below.refl _ _) G11 (Nat.le_refl _) (fun k hk => by cases hk)
          have D11 := dstep w B11 (by repeat (first | with_reducible exact hB1 | with_reducible apply bdrew | with_reducible apply bdrewN | with_reducible apply balloc | ((with_reducible refine bset ?_ ?_ _); rotate_left; (first | omega | (simp <;> omega)))))
          have E11 := dstep w1 B11 (by repeat (first | with_reducible exact Below.refl _ _ | with_reducible apply bdrew | with_reducible apply bdrewN | with_reducible apply balloc | ((with_reducible refine bset ?_ ?_ _); rotate_left; (first | omega | (simp <;> omega)))))
          have d11s := E11.size
          have hb10 := (B11.cell (blt hb10)).trans hb10
          have hSS : w11.cell? (ad.add i) = some (.slice B n cc) ∧ w11.cell? (ad2.add i) = some (.int .i64 y) := ⟨((by repeat (first | with_reducible exact D11 | with_reducible apply bdrew | with_reducible apply bdrewN | with_reducible apply balloc | ((with_reducible refine bset ?_ ?_ _); rotate_left; (first | omega | (simp <;> omega)))) : Below w.heap.size w w11).cell (blt hc0)).trans hc0, ((by repeat (first | with_reducible exact D11 | with_reducible apply bdrew | with_reducible apply bdrewN | with_reducible apply balloc | ((with_reducible refine bset ?_ ?_ _); rotate_left; (first | omega | (simp <;> omega)))) : Below w.heap.size w w11).cell (blt hyc0)).trans hyc0⟩
          go_wp2_with fail
          refine hK.out _ _ hSS (fun hHeld => ?_)
          clear hK K
          try simp only [Act.put, List.getElem_toArray, List.getElem_cons_succ, List.getElem_cons_zero, List.setIfInBounds_toArray, List.set_cons_zero, List.set_cons_succ]
          refine wpAnyH_ready (rs := [11]) (by kernel_rfl) (by simp) ?_
          refine AllReadyH.cons rfl (fun K hK => ?_) AllReadyH.nil
          refine step_push_at rfl (.tmp 35) (.tmp 40) rfl w1 [] w1.heap.size v11 r y rfl ((OwnI.mono o11 (by simp)).below (by repeat (first | with_reducible exact Below.refl _ _ | with_reducible apply bdrew | with_reducible apply bdrewN | with_reducible apply balloc | ((with_reducible refine bset ?_ ?_ _); rotate_left; (first | omega | (simp <;> omega)))) : Below w11.heap.size w11 w11)) ⟨w1.heap.size, 0, none⟩ 1 rfl hb10 (by rw [HRN.out]; omega) (by first | omega | (simp; omega)) (Nat.le_refl _) (by repeat (first | with_reducible exact E11 | with_reducible apply bdrew | with_reducible apply bdrewN | with_reducible apply balloc | ((with_reducible refine bset ?_ ?_ _); rotate_left; (first | omega | (simp <;> omega))))) trivial (fun x hx => by cases hx) ?_
          intro g3 cap3 w3 o3 D3e C3 sz3 G3 q3
          rw [HRN.out] at o3 ⊢
          clear C3 G3 q3
          have D3 := dstep w D3e hB1
          have d3s := D3e.size
          have hg3 := (OwnI.blk_ o3 ⟨g3, 0, none⟩ rfl).1
          dsimp only at hg3
          have hSS : w3.cell? (ad.add i) = some (.slice B n cc) ∧ w3.cell? (ad2.add i) = some (.int .i64 y) := ⟨((by repeat (first | with_reducible exact D3 | with_reducible apply bdrew | with_reducible apply bdrewN | with_reducible apply balloc | ((with_reducible refine bset ?_ ?_ _); rotate_left; (first | omega | (simp <;> omega)))) : Below w.heap.size w w3).cell (blt hc0)).trans hc0, ((by repeat (first | with_reducible exact D3 | with_reducible apply bdrew | with_reducible apply bdrewN | with_reducible apply balloc | ((with_reducible refine bset ?_ ?_ _); rotate_left; (first | omega | (simp <;> omega)))) : Below w.heap.size w w3).cell (blt hyc0)).trans hyc0⟩
          go_wp2_with fail
          refine hK.out _ _ hSS (fun hHeld => ?_)
          clear hK K
          try simp only [Act.put, List.getElem_toArray, List.getElem_cons_succ, List.getElem_cons_zero, List.setIfInBounds_toArray, List.set_cons_zero, List.set_cons_succ]
          refine wpAnyH_ready (rs := [12]) (by kernel_rfl) (by simp) ?_
          refine AllReadyH.cons rfl (fun K hK => ?_) AllReadyH.nil
          go_simp
          have hSS : (w3.alloc (.cells #[.slice (some ⟨g3, 0, none⟩) (n + 1) cap3] 23)).cell? (ad.add i) = some (.slice B n cc) ∧ (w3.alloc (.cells #[.slice (some ⟨g3, 0, none⟩) (n + 1) cap3] 23)).cell? (ad2.add i) = some (.int .i64 y) := ⟨((by repeat (first | with_reducible exact D3 | with_reducible apply bdrew | with_reducible apply bdrewN | with_reducible apply balloc | ((with_reducible refine bset ?_ ?_ _); rotate_left; (first | omega | (simp <;> omega)))) : Below w.heap.size w (w3.alloc (.cells #[.slice (some ⟨g3, 0, none⟩) (n + 1) cap3] 23))).cell (blt hc0)).trans hc0, ((by repeat (first | with_reducible exact D3 | with_reducible apply bdrew | with_reducible apply bdrewN | with_reducible apply balloc | ((with_reducible refine bset ?_ ?_ _); rotate_left; (first | omega | (simp <;> omega)))) : Below w.heap.size w (w3.alloc (.cells #[.slice (some ⟨g3, 0, none⟩) (n + 1) cap3] 23))).cell (blt hyc0)).trans hyc0⟩
          go_wp2_with fail
          refine hK.out _ _ hSS (fun hHeld => ?_)
          clear hK K
          try simp only [Act.put, List.getElem_toArray, List.getElem_cons_succ, List.getElem_cons_zero, List.setIfInBounds_toArray, List.set_cons_zero, List.set_cons_succ]
          refine wpAnyH_ready (rs := [13]) (by kernel_rfl) (by simp) ?_
          refine AllReadyH.cons rfl (fun K hK => ?_) AllReadyH.nil
          refine step_els1 pany_stable 22 24 (.slice none 0 0) Try.underlying22 info_list rfl (by decide) (by decide) rfl (.tmp 30) (.tmp 42) rfl rfl (OwnLA.below hO (by repeat (first | with_reducible exact D3e | with_reducible apply bdrew | with_reducible apply bdrewN | with_reducible apply balloc | ((with_reducible refine bset ?_ ?_ _); rotate_left; (first | omega | (simp <;> omega)))) : Below w1.heap.size w1 (w3.alloc (.cells #[.slice (some ⟨g3, 0, none⟩) (n + 1) cap3] 23)))) ⟨w3.heap.size, 0, none⟩ 1 rfl [.slice (some ⟨g3, 0, none⟩) (n + 1) cap3] (r ++ [y]) rfl (cells_one (by simp [go_sem])) (by intro u hu; simp at hu; subst hu; rfl) ⟨some ⟨g3, 0, none⟩, cap3, by rw [HSL.out], (OwnI.ints_at o3).below (by repeat (first | with_reducible exact Below.refl _ _ | with_reducible apply bdrew | with_reducible apply bdrewN | with_reducible apply balloc | ((with_reducible refine bset ?_ ?_ _); rotate_left; (first | omega | (simp <;> omega))))), OwnI.nilok o3, fun _ ad e e2 => by injection e with e; subst e; have := (OwnEs.lt hO g3 e2.symm).2; omega⟩ HL.out (by first | omega | (simp; omega)) ?_
          intro v4 w4 o4 G4 at4
          have D4 : Below w.heap.size w w4 := Below.grown (by repeat (first | with_reducible exact D3 | with_reducible apply bdrew | with_reducible apply bdrewN | with_reducible apply balloc | ((with_reducible refine bset ?_ ?_ _); rotate_left; (first | omega | (simp <;> omega))))) G4 (by first | omega | (simp; omega)) (fun k hk => (OwnEs.lt hO k hk).1)
          clear G4 at4
          have hSS : w4.cell? (ad.add i) = some (.slice B n cc) ∧ w4.cell? (ad2.add i) = some (.int .i64 y) := ⟨((by repeat (first | with_reducible exact D4 | with_reducible apply bdrew | with_reducible apply bdrewN | with_reducible apply balloc | ((with_reducible refine bset ?_ ?_ _); rotate_left; (first | omega | (simp <;> omega)))) : Below w.heap.size w w4).cell (blt hc0)).trans hc0, ((by repeat (first | with_reducible exact D4 | with_reducible apply bdrew | with_reducible apply bdrewN | with_reducible apply balloc | ((with_reducible refine bset ?_ ?_ _); rotate_left; (first | omega | (simp <;> omega)))) : Below w.heap.size w w4).cell (blt hyc0)).trans hyc0⟩
          go_wp2_with fail
          refine hK.out _ _ hSS (fun hHeld => ?_)
          clear hK K
          try simp only [Act.put, List.getElem_toArray, List.getElem_cons_succ, List.getElem_cons_zero, List.setIfInBounds_toArray, List.set_cons_zero, List.set_cons_succ]
          refine wpAnyH_take (i := 14) (v := ?vo4l1114) rfl (by kernel_rfl) (by kernel_rfl) (by kernel_rfl) (fun _ _ _ h => h) (Or.inl ⟨by rfl, ?ho4l1114⟩) (by assumption) ?ro4l1114
          case ho4l1114 => (intro w hSw; (try dsimp only at hSw); go_simp; (try with_reducible rfl))
          try simp only [Act.put, List.getElem_toArray, List.getElem_cons_succ, List.getElem_cons_zero, List.setIfInBounds_toArray, List.set_cons_zero, List.set_cons_succ]
          refine wpAnyH_done (by kernel_rfl) ?_ _
          go_wp2
          go_roundw
          case rel => exact ⟨i + 1, _, by omega, by go_num, rfl, (by rw [HS.out]; exact OwnLA.below o4 (by repeat (first | with_reducible exact Below.refl _ _ | with_reducible apply bdrew | with_reducible apply bdrewN | with_reducible apply balloc | ((with_reducible refine bset ?_ ?_ _); rotate_left; (first | omega | (simp <;> omega)))))), by repeat (first | with_reducible exact D4 | with_reducible apply bdrew | with_reducible apply bdrewN | with_reducible apply balloc | ((with_reducible refine bset ?_ ?_ _); rotate_left; (first | omega | (simp <;> omega))))⟩
          case measure => simp [intOf]; omega
    · obtain rfl : m = i := by omega
      go_wp2_with fail
      go_loopw [9, 11] (fun z x wr => ∃ (j : Nat) (v : Value), j ≤ n ∧ x = .int .i64 j ∧ v = z ∧ OwnLA w.heap.size wr v (rowsA rows bounds m ++ unitsA n j) ∧ Below w.heap.size w wr) (fun _ x _ => n - (intOf x).toNat)
      case atStart => exact ⟨0, _, Nat.zero_le _, rfl, rfl, (by rw [show unitsA n 0 = [] from rfl, List.append_nil]; exact OwnLA.below hO (by repeat (first | with_reducible exact Below.refl _ _ | with_reducible apply bdrew | with_reducible apply bdrewN | with_reducible apply balloc | ((with_reducible refine bset ?_ ?_ _); rotate_left; (first | omega | (simp <;> omega)))))), by repeat (first | with_reducible exact hB1 | with_reducible apply bdrew | with_reducible apply bdrewN | with_reducible apply balloc | ((with_reducible refine bset ?_ ?_ _); rotate_left; (first | omega | (simp <;> omega))))⟩
      case round =>
        clear hO hB1 d1s
        obtain ⟨j, v, hj, rfl, rfl, hO, hB2⟩ := hrel
        obtain ⟨w2, rfl⟩ : ∃ wo : World, wo = wr := ⟨_, rfl⟩
        have d2s := hB2.size
        by_cases hlt2 : j < n
        · have hmk := make_at (n + 1) ((n : Int) + 1) (by omega) (by omega)
          have HA0 : IArr (w2.alloc (.cells (List.replicate (n + 1) (Value.int .i64 0)).toArray 3)) w2.heap.size (List.replicate (n + 1) 0) := by unfold IArr; rw [List.map_replicate]; exact Arr.new _ _ _
          obtain ⟨x0, -, hx0, hf0⟩ := HA0.cell (i := j) (by rw [List.length_replicate]; omega)
          have HA1 := Lib.hid (unit_new w2 n j)
          have HL := Lib.hid (show (rowsA rows bounds m ++ unitsA n j).length < 1000000000000 by rw [List.length_append, rowsA_len, unitsA_len]; omega)
          have HS := Lib.hid (show rowsA rows bounds m ++ unitsA n (j + 1) = (rowsA rows bounds m ++ unitsA n j) ++ [unitR n j] by rw [unitsA_succ, List.append_assoc])
          have hjI : (j : Int) < (n : Int) + 1 := by omega
          clear HA0
          go_wp2_with (refine wpList_el pany_stable 22 24 (.slice none 0 0) Try.underlying22 info_list rfl (by decide) (by decide) rfl (.tmp 55) (.tmp 57) rfl w [] rfl (OwnLA.below hO ?p1) ⟨w2.heap.size + 1, 0, none⟩ 1 rfl [.slice (some ⟨w2.heap.size, 0, none⟩) (n + 1) (n + 1)] (unitR n j) rfl (cells_one ?p2) ?p8 ⟨some ⟨w2.heap.size, 0, none⟩, n + 1, ?p9, (IArr.ints HA1.out).below ?p10, ⟨fun h => (by cases h), ?p11, ?p12⟩, ?p13⟩ HL.out ?p3 (Nat.le_refl _) ?p5 trivial ?p7 ?_; (case p1 => repeat (first | with_reducible exact Below.refl _ _ | with_reducible apply bdrew | with_reducible apply bdrewN | with_reducible apply balloc | ((with_reducible refine bset ?_ ?_ _); rotate_left; (first | omega | (simp <;> omega))))); (case p2 => simp [go_sem]); (case p3 => (simp <;> omega)); (case p5 => repeat (first | with_reducible exact hB2 | with_reducible apply bdrew | with_reducible apply bdrewN | with_reducible apply balloc | ((with_reducible refine bset ?_ ?_ _); rotate_left; (first | omega | (simp <;> omega))))); (case p7 => intro x hx; cases hx); (case p8 => intro u hu; simp at hu; subst hu; rfl); (case p9 => rw [show (unitR n j).length = n + 1 from tbRow_len _ _]); (case p10 => repeat (first | with_reducible exact Below.refl _ _ | with_reducible apply bdrew | with_reducible apply bdrewN | with_reducible apply balloc | ((with_reducible refine bset ?_ ?_ _); rotate_left; (first | omega | (simp <;> omega))))); (case p11 => rw [show (unitR n j).length = n + 1 from tbRow_len _ _]; exact Nat.le_refl _); (case p12 => omega); (case p13 => intro _ ad e e2; injection e with e; subst e; have := (OwnEs.lt hO _ e2.symm).2; dsimp only at this; omega); intro v5 w5 o5 D5 C5 sz5 G5 at5; clear C5 G5 at5)
          go_wp2
          go_roundw
          case rel => exact ⟨j + 1, _, by omega, by go_num, rfl, (by rw [HS.out]; exact OwnLA.below o5 (by repeat (first | with_reducible exact Below.refl _ _ | with_reducible apply bdrew | with_reducible apply bdrewN | with_reducible apply balloc | ((with_reducible refine bset ?_ ?_ _); rotate_left; (first | omega | (simp <;> omega)))))), by repeat (first | with_reducible exact D5 | with_reducible apply bdrew | with_reducible apply bdrewN | with_reducible apply balloc | ((with_reducible refine bset ?_ ?_ _); rotate_left; (first | omega | (simp <;> omega))))⟩
          case measure => simp [intOf]; omega
        · obtain rfl : n = j := by omega
          have HALL := Lib.hid (show rowsA rows bounds m ++ unitsA n n = allA rows bounds n by unfold allA; rw [hrl.out])
          rw [HALL.out] at hO
          have HAB := Lib.hid (allA_b HROW.out (by rw [hbl.out, hrl.out]) HBB.out)
          obtain ⟨L, hL⟩ : ∃ L, Hid ((allA rows bounds n).length = L) := ⟨_, Lib.hid rfl⟩
          have hL12 : L ≤ 12 := by have := hL.out; rw [allA_len, hrl.out] at this; omega
          obtain ⟨all, hall⟩ : ∃ all, Hid (allA rows bounds n = all) := ⟨_, Lib.hid rfl⟩
          rw [hall.out] at hO HAB hL
          obtain ⟨A, ca, rfl⟩ := OwnEs.form hO
          rw [hL.out] at hO ⊢
          have hpw : (2 : Nat) ^ L ≤ 4096 := by
            have h1 : (2 : Nat) ^ L ≤ 2 ^ 12 := Nat.pow_le_pow_right (by decide) hL12
            have h2 : (2 : Nat) ^ 12 = 4096 := by decide
            omega
          have hpi : (2 : Int) ^ L = ((2 ^ L : Nat) : Int) := by simp
          obtain ⟨N, hN⟩ : ∃ N : Nat, (2 : Nat) ^ L = N := ⟨_, rfl⟩
          rw [hN] at hpw hpi
          have HN2 := Lib.hid hN
          clear hN HROW HBB HR HB HALL

          have hmk := make_at (n + 1) ((n : Int) + 1) (by omega) (by omega)
          have HA0 := IArr.made w2 (n + 1) _ rfl
          rw [made_zero] at HA0
          go_wp2_with fail
          clear hmk
          go_loopw [15] (fun x wr => ∃ j : Nat, j ≤ n + 1 ∧ x = .int .i64 j ∧ IArr wr w2.heap.size (tbRow (n + 1) fun k => if k < j then 1 else 0) ∧ Below w2.heap.size w2 wr) (fun x _ => n + 1 - (intOf x).toNat)
          case atStart => exact ⟨0, Nat.zero_le _, rfl, HA0.below (by repeat (first | with_reducible exact Below.refl _ _ | with_reducible apply bdrew | with_reducible apply bdrewN | with_reducible apply balloc | ((with_reducible refine bset ?_ ?_ _); rotate_left; (first | omega | (simp <;> omega))))), by repeat (first | with_reducible exact Below.refl _ _ | with_reducible apply bdrew | with_reducible apply bdrewN | with_reducible apply balloc | ((with_reducible refine bset ?_ ?_ _); rotate_left; (first | omega | (simp <;> omega))))⟩
          case round =>
            clear HA0
            obtain ⟨j, hj, rfl, hA, hB3⟩ := hrel
            obtain ⟨w3, rfl⟩ : ∃ wo : World, wo = wr := ⟨_, rfl⟩
            have d3s := hB3.size
            by_cases hlt3 : j < n + 1
            · obtain ⟨x0, -, hx0, hf0⟩ := hA.cell (i := j) (by rw [tbRow_len]; exact hlt3)
              have HA1 := hA.set_ j 1
              rw [ones_next] at HA1
              have HA1 := Lib.hid HA1
              have hjI : (j : Int) < (n : Int) + 1 := by omega
              have hjI2 : (j : Int) ≤ (n : Int) := by omega
              go_wp2
              go_roundw
              case rel => exact ⟨j + 1, by omega, by go_num, HA1.out.below (by repeat (first | with_reducible exact Below.refl _ _ | with_reducible apply bdrew | with_reducible apply bdrewN | with_reducible apply balloc | ((with_reducible refine bset ?_ ?_ _); rotate_left; (first | omega | (simp <;> omega))))), by repeat (first | with_reducible exact hB3 | with_reducible apply bdrew | with_reducible apply bdrewN | with_reducible apply balloc | ((with_reducible refine bset ?_ ?_ _); rotate_left; (first | omega | (simp <;> omega))))⟩
              case measure => simp [intOf]; omega
            · obtain rfl : j = n + 1 := by omega
              have hones : IArr w3 w2.heap.size (onesR n) := by rw [← ones_all]; exact hA
              have HON := Lib.hid hones
              have hO3 := hO.below hB3
              have hw2 : w2.heap.size < w3.heap.size := hones.lt
              clear hA hones hO
              go_wp2_with (refine wpList_el pany_stable 22 24 (.slice none 0 0) Try.underlying22 info_list rfl (by decide) (by decide) rfl (.tmp 71) (.tmp 73) rfl w3 [] rfl (OwnEs.nil w3.heap.size _) ⟨w3.heap.size, 0, none⟩ 1 rfl [.slice (some ⟨w2.heap.size, 0, none⟩) (n + 1) (n + 1)] (onesR n) rfl (cells_one ?p2) ?p8 ⟨some ⟨w2.heap.size, 0, none⟩, n + 1, ?p9, (IArr.ints HON.out).below ?p10, ⟨fun h => (by cases h), ?p11, ?p12⟩, ?p13⟩ (by simp) ?p3 (Nat.le_refl _) ?p5 trivial ?p7 ?_; (case p2 => simp [go_sem]); (case p3 => (simp <;> omega)); (case p5 => repeat (first | with_reducible exact Below.refl _ _ | with_reducible apply bdrew | with_reducible apply bdrewN | with_reducible apply balloc | ((with_reducible refine bset ?_ ?_ _); rotate_left; (first | omega | (simp <;> omega))))); (case p7 => intro x hx; cases hx); (case p8 => intro u hu; simp at hu; subst hu; rfl); (case p9 => rw [show (onesR n).length = n + 1 from tbRow_len _ _]); (case p10 => repeat (first | with_reducible exact Below.refl _ _ | with_reducible apply bdrew | with_reducible apply bdrewN | with_reducible apply balloc | ((with_reducible refine bset ?_ ?_ _); rotate_left; (first | omega | (simp <;> omega))))); (case p11 => rw [show (onesR n).length = n + 1 from tbRow_len _ _]; exact Nat.le_refl _); (case p12 => omega); (case p13 => intro _ ad e e2; cases e2); intro v5 w5 o5 D5 C5 sz5 G5 at5; clear C5 G5 at5; obtain ⟨AF, cF, hvF⟩ := OwnEs.form o5; rw [show ([] ++ [onesR n] : List (List Int)).length = 1 from rfl] at hvF; subst hvF; have hFR := OwnLA.read o5; have hO5 := OwnLA.below hO3 D5; have hB5 := dstep w2 D5 hB3; have hBw5 := dstep w D5 (hB2.trans (hB3.mono hB2.size)); have HFN := Lib.hid (show AF = none → [onesR n] = [] ∧ cF = 0 from fun e => by obtain ⟨g', _, _, e', _⟩ := OwnEs.at_ o5 (i := 0) (by simp); rw [e] at e'; cases e'); clear o5 hO3 hB3)
              obtain ⟨w4, hw4⟩ : ∃ wo : World, wo = w5 := ⟨_, rfl⟩
              subst hw4
              have HFR := Lib.hid hFR
              have hO := hO5
              have hB2 := hBw5
              clear hFR hO5 hBw5 hB5 D5
              obtain ⟨w2, rfl⟩ : ∃ wo : World, wo = w4 := ⟨_, rfl⟩

              have HAR := Lib.hid (OwnLA.read hO)
              have HFB : Hid (∀ r ∈ [onesR n], RowB n r) := Lib.hid (by intro r hr; obtain rfl : r = onesR n := (by simpa using hr); exact onesR_b n)
              clear hO
              go_loopw [16, 17] (fun z x wr => ∃ (k : Nat) (cs : List (List Int × Int)) (v : Value), k ≤ N ∧ x = .int .i64 k ∧ v = z ∧ OwnCo w2.heap.size wr v cs ∧ Hid (CTo all [onesR n] n cs k) ∧ Hid (cs.length ≤ k) ∧ Below w2.heap.size w2 wr) (fun _ x _ => N - (intOf x).toNat)
              case atStart => exact ⟨0, [], _, Nat.zero_le _, rfl, rfl, OwnEs.nil _ _, Lib.hid CTo.start, Lib.hid (Nat.zero_le _), by repeat (first | with_reducible exact Below.refl _ _ | with_reducible apply bdrew | with_reducible apply bdrewN | with_reducible apply balloc | ((with_reducible refine bset ?_ ?_ _); rotate_left; (first | omega | (simp <;> omega))))⟩
              case round =>
                obtain ⟨k, cs, v, hk, rfl, rfl, hC, HCT, HCL, hB4⟩ := hrel
                obtain ⟨w4, rfl⟩ : ∃ wo : World, wo = wr := ⟨_, rfl⟩
                have d4s := hB4.size
                by_cases hltk : k < N
                · have hk4 : k < 4096 := by omega
                  go_wp2_with (refine wpList_catL rfl (.const (.slice none 0 0)) (.tmp 82) rfl w4 [] w4.heap.size (.slice none 0 0) [] rfl (OwnEs.nil _ _) AF cF 1 [onesR n] rfl rfl HFN.out (HFR.out.below hB4) [onesR n] (List.nil_append _) (fun _ _ _ _ _ _ _ e => by cases e) (by simp) (Nat.le_refl _) (Nat.le_refl _) (Below.refl _ _) trivial (fun x hx => by cases hx) ?_; intro v5 w5 o5 D5 C5 sz5; clear C5; obtain ⟨A5, c5, hv5⟩ := OwnEs.form o5; rw [show [onesR n].length = 1 from rfl] at hv5; subst hv5)
                  go_loopw [18, 19] (fun z x wr => ∃ (i q c : Nat) (A : Option Addr), i ≤ L ∧ x = .int .i64 i ∧ .slice A q c = z ∧ OwnLA w4.heap.size wr (.slice A q c) ([onesR n] ++ LA.pickN k.testBit all i) ∧ Hid (([onesR n] ++ LA.pickN k.testBit all i).length = q) ∧ q ≤ n + 1 ∧ Below w4.heap.size w4 wr) (fun _ x _ => L - (intOf x).toNat)
                  case atStart => exact ⟨0, 1, c5, A5, Nat.zero_le _, rfl, rfl, (by rw [show [onesR n] ++ LA.pickN k.testBit all 0 = [onesR n] from rfl]; exact OwnLA.below o5 (by repeat (first | with_reducible exact Below.refl _ _ | with_reducible apply bdrew | with_reducible apply bdrewN | with_reducible apply balloc | ((with_reducible refine bset ?_ ?_ _); rotate_left; (first | omega | (simp <;> omega)))))), Lib.hid rfl, by omega, by repeat (first | with_reducible exact D5 | with_reducible apply bdrew | with_reducible apply bdrewN | with_reducible apply balloc | ((with_reducible refine bset ?_ ?_ _); rotate_left; (first | omega | (simp <;> omega))))⟩
                  case round =>
                    clear o5 D5 sz5
                    obtain ⟨i, q, cM, AM, hi2, rfl, rfl, hM, HQ, hq, hB6⟩ := hrel
                    obtain ⟨w6, rfl⟩ : ∃ wo : World, wo = wr := ⟨_, rfl⟩
                    have d6s := hB6.size
                    have hB26 := hB4.trans (hB6.mono hB4.size)
                    by_cases hltL : i < L
                    · by_cases hqn : q ≤ n
                      · have hqd : decide ((q : Int) ≤ (n : Int)) = true := decide_eq_true (by omega)
                        obtain ⟨r6, hr6⟩ : ∃ r, Hid (all[i]? = some r) := ⟨_, Lib.hid (List.getElem?_eq_getElem (by rw [hL.out]; exact hltL))⟩
                        obtain ⟨ad6, B6, c6, rfl, hc60, hI6, hN6⟩ := HAR.out i r6 hr6.out
                        have hrb := HAB.out r6 (List.mem_of_getElem? hr6.out)
                        rw [hrb.1] at hc60
                        have HRB := Lib.hid hrb
                        have hc6 := (hB26.cell (blt hc60)).trans hc60
                        have HI6 := Lib.hid hI6
                        have HN6 := Lib.hid hN6
                        have HL6 := Lib.hid (show ([onesR n] ++ LA.pickN k.testBit all i).length < 1000000000000 by rw [HQ.out]; omega)
                        have hqq : (k : Int) / 2 ^ i = ((k / 2 ^ i : Nat) : Int) := by simp
                        have hand := Go.Proofs.and_one (k / 2 ^ i) (Nat.lt_of_le_of_lt (Nat.div_le_self _ _) (by omega))
                        rw [← hqq] at hand
                        clear hrb hI6 hN6 hc60
                        by_cases hbit : k.testBit i = true
                        · have HS := Lib.hid (show [onesR n] ++ LA.pickN k.testBit all (i + 1) = ([onesR n] ++ LA.pickN k.testBit all i) ++ [r6] by rw [pick_yes hr6.out hbit, List.append_assoc])
                          rw [Nat.testBit_eq_decide_div_mod_eq, decide_eq_true_iff] at hbit
                          have hb2 : bits .and .i64 ((k : Int) / 2 ^ i) 1 = 1 := by rw [hand, hbit]; rfl
                          clear hand hqq hbit
                          go_wp2_with (refine wpList_el pany_stable 22 24 (.slice none 0 0) Try.underlying22 info_list rfl (by decide) (by decide) rfl (.tmp 101) (.tmp 106) rfl w4 [] rfl (OwnLA.below hM ?p1) ⟨w6.heap.size, 0, none⟩ 1 rfl [.slice B6 (n + 1) c6] r6 rfl (cells_one ?p2) ?p8 ⟨B6, c6, ?p9, HI6.out.below ?p10, HN6.out, ?p13⟩ HL6.out ?p3 (Nat.le_refl _) ?p5 trivial ?p7 ?_; (case p1 => repeat (first | with_reducible exact Below.refl _ _ | with_reducible apply bdrew | with_reducible apply bdrewN | with_reducible apply balloc | ((with_reducible refine bset ?_ ?_ _); rotate_left; (first | omega | (simp <;> omega))))); (case p2 => simp [go_sem]); (case p3 => (simp <;> omega)); (case p5 => repeat (first | with_reducible exact hB6 | with_reducible apply bdrew | with_reducible apply bdrewN | with_reducible apply balloc | ((with_reducible refine bset ?_ ?_ _); rotate_left; (first | omega | (simp <;> omega))))); (case p7 => intro x hx; cases hx); (case p8 => intro u hu; simp at hu; subst hu; rfl); (case p9 => rw [HRB.out.1]); (case p10 => repeat (first | with_reducible exact hB26 | with_reducible apply bdrew | with_reducible apply bdrewN | with_reducible apply balloc | ((with_reducible refine bset ?_ ?_ _); rotate_left; (first | omega | (simp <;> omega))))); (case p13 => intro hne ad e e2; subst e; have h1 := ints_lt HI6.out hne; have := (OwnEs.lt hM _ e2.symm).1; omega); intro v7 w7 o7 D7 C7 sz7 G7 at7; clear C7 G7 at7; rw [← HS.out] at o7; have hl7 : ([onesR n] ++ LA.pickN k.testBit all (i + 1)).length = q + 1 := (by rw [HS.out, List.length_append, HQ.out]; rfl); have HL7 := Lib.hid hl7; obtain ⟨A7, c7, hv7⟩ := OwnEs.form o7; rw [hl7] at hv7; subst hv7; clear hl7)
                          go_wp2
                          go_roundw
                          case rel => exact ⟨i + 1, q + 1, c7, A7, by omega, by go_num, rfl, OwnLA.below o7 (by repeat (first | with_reducible exact Below.refl _ _ | with_reducible apply bdrew | with_reducible apply bdrewN | with_reducible apply balloc | ((with_reducible refine bset ?_ ?_ _); rotate_left; (first | omega | (simp <;> omega))))), HL7, by omega, by repeat (first | with_reducible exact D7 | with_reducible apply bdrew | with_reducible apply bdrewN | with_reducible apply balloc | ((with_reducible refine bset ?_ ?_ _); rotate_left; (first | omega | (simp <;> omega))))⟩
                          case measure => simp [intOf]; omega
                        · have HS := Lib.hid (show [onesR n] ++ LA.pickN k.testBit all (i + 1) = ([onesR n] ++ LA.pickN k.testBit all i) by rw [pick_no hbit])
                          have hbf : k / 2 ^ i % 2 = 0 := by
                            rw [Nat.testBit_eq_decide_div_mod_eq, decide_eq_true_iff] at hbit
                            omega
                          have hb2 : bits .and .i64 ((k : Int) / 2 ^ i) 1 = 0 := by rw [hand, hbf]; rfl
                          clear hand hqq hbit hbf
                          go_wp2_with fail
                          go_roundw
                          case rel => exact ⟨i + 1, q, cM, AM, by omega, by go_num, rfl, (by rw [HS.out]; exact OwnLA.below hM (by repeat (first | with_reducible exact Below.refl _ _ | with_reducible apply bdrew | with_reducible apply bdrewN | with_reducible apply balloc | ((with_reducible refine bset ?_ ?_ _); rotate_left; (first | omega | (simp <;> omega)))))), (by rw [HS.out]; exact HQ), hq, by repeat (first | with_reducible exact hB6 | with_reducible apply bdrew | with_reducible apply bdrewN | with_reducible apply balloc | ((with_reducible refine bset ?_ ?_ _); rotate_left; (first | omega | (simp <;> omega))))⟩
                          case measure => simp [intOf]; omega
                      · have hqd : decide ((q : Int) ≤ (n : Int)) = false := decide_eq_false (by omega)
                        have hqne : ((q : Int) == (n : Int)) = false := beq_eq_false_iff_ne.2 (by omega)
                        have hqne2 : ((q : Int) != (n : Int)) = true := by simp [bne, hqne]
                        go_wp2_with fail
                        go_roundw
                        case rel => exact ⟨k + 1, cs, v, by omega, by go_num, rfl, OwnCo.below hC (by repeat (first | with_reducible exact hB6 | with_reducible apply bdrew | with_reducible apply bdrewN | with_reducible apply balloc | ((with_reducible refine bset ?_ ?_ _); rotate_left; (first | omega | (simp <;> omega))))), Lib.hid (HCT.out.skip (fun h _ _ => by have h1 := pickN_mono k.testBit all (i := i) (k := all.length) (by rw [hL.out]; omega); have h2 := HQ.out; rw [List.length_append] at h2; omega)), Lib.hid (Nat.le_succ_of_le HCL.out), by repeat (first | with_reducible exact (hB4.trans (hB6.mono hB4.size)) | with_reducible apply bdrew | with_reducible apply bdrewN | with_reducible apply balloc | ((with_reducible refine bset ?_ ?_ _); rotate_left; (first | omega | (simp <;> omega))))⟩
                        case measure => simp [intOf]; omega
                    · obtain rfl : L = i := by omega
                      by_cases hqn : q = n
                      · subst hqn
                        have HSY := Lib.hid (show ∀ r ∈ [onesR q] ++ LA.pickN k.testBit all L, RowB q r from fun r hr => by
                          rcases List.mem_append.1 hr with h | h
                          · exact HFB.out r h
                          · obtain ⟨t, _, _, ht⟩ := LA.mem_pickN.1 h
                            exact HAB.out r (List.mem_of_getElem? ht))
                        have hqq0 : ((q : Int) != (q : Int)) = false := by simp
                        go_wp2_with fail
                        refine (eliminated_any _ AM cM _ q ((OwnLA.read hM).below (by repeat (first | with_reducible exact Below.refl _ _ | with_reducible apply bdrew | with_reducible apply bdrewN | with_reducible apply balloc | ((with_reducible refine bset ?_ ?_ _); rotate_left; (first | omega | (simp <;> omega)))))) HQ hn6 (fun r hr => (HSY.out r hr).1) (RowB.in_ HSY.out HQ.out hn6)).mono ?_
                        rintro e w7 ⟨hB7, hk7⟩
                        have D67 := dstep w6 hB7 (by repeat (first | with_reducible exact Below.refl _ _ | with_reducible apply bdrew | with_reducible apply bdrewN | with_reducible apply balloc | ((with_reducible refine bset ?_ ?_ _); rotate_left; (first | omega | (simp <;> omega)))))
                        have D47 := dstep w4 hB7 (by repeat (first | with_reducible exact hB6 | with_reducible apply bdrew | with_reducible apply bdrewN | with_reducible apply balloc | ((with_reducible refine bset ?_ ?_ _); rotate_left; (first | omega | (simp <;> omega)))))
                        rcases hk7 with ⟨rfl, hno⟩ | ⟨vV, out, den, rfl, hov, hol, hd0, hd1, hob, hsol⟩
                        · have HNO := Lib.hid hno
                          clear hno
                          go_wp2_with fail
                          go_roundw
                          case rel => exact ⟨k + 1, cs, v, by omega, by go_num, rfl, OwnCo.below hC (by repeat (first | with_reducible exact D47 | with_reducible apply bdrew | with_reducible apply bdrewN | with_reducible apply balloc | ((with_reducible refine bset ?_ ?_ _); rotate_left; (first | omega | (simp <;> omega))))), Lib.hid (HCT.out.skip (fun _ h2 _ => by rw [hL.out] at h2; exact HNO.out h2)), Lib.hid (Nat.le_succ_of_le HCL.out), by repeat (first | with_reducible exact (hB4.trans (D47.mono hB4.size)) | with_reducible apply bdrew | with_reducible apply bdrewN | with_reducible apply balloc | ((with_reducible refine bset ?_ ?_ _); rotate_left; (first | omega | (simp <;> omega))))⟩
                          case measure => simp [intOf]; omega
                        · obtain ⟨AV, cV, rfl, hVn, hVI⟩ := hov.form
                          rw [hol] at hov ⊢
                          have HOV := Lib.hid hov
                          have HOL := Lib.hid hol
                          have HOB := Lib.hid hob
                          have HSOL := Lib.hid hsol
                          have HVI := Lib.hid hVI
                          clear hov hol hob hsol hVn hVI
                          have d7s := D67.size
                          go_wp2_with fail
                          go_loopw [22, 23] (fun z x wr => ∃ (i : Nat) (ok : Bool), i ≤ L ∧ x = .int .i64 i ∧ .bool ok = z ∧ Hid (ok = true ↔ ∀ r ∈ all.take i, LA.dotL q r (LA.atI out) ≤ LA.atI r q * den) ∧ Below w7.heap.size w7 wr) (fun _ x _ => L - (intOf x).toNat)
                          case atStart => exact ⟨0, true, Nat.zero_le _, rfl, rfl, Lib.hid (by simp), by repeat (first | with_reducible exact Below.refl _ _ | with_reducible apply bdrew | with_reducible apply bdrewN | with_reducible apply balloc | ((with_reducible refine bset ?_ ?_ _); rotate_left; (first | omega | (simp <;> omega))))⟩
                          case round =>
                            obtain ⟨i, ok, hi3, rfl, rfl, HOK, D8⟩ := hrel
                            obtain ⟨w8, rfl⟩ : ∃ wo : World, wo = wr := ⟨_, rfl⟩
                            have d8s := D8.size
                            by_cases hlt8 : i < L
                            · obtain ⟨r8, hr8⟩ : ∃ r, Hid (all[i]? = some r) := ⟨_, Lib.hid (List.getElem?_eq_getElem (by rw [hL.out]; exact hlt8))⟩
                              obtain ⟨ad8, B8, c8, rfl, hc80, hI8, hN8⟩ := HAR.out i r8 hr8.out
                              have hrb := HAB.out r8 (List.mem_of_getElem? hr8.out)
                              rw [hrb.1] at hc80
                              have B27 := hB26.trans (D67.mono hB26.size)
                              obtain ⟨ad9, y8, rfl, hy8v, hy80⟩ := hI8.at_ (k := q) (by rw [hrb.1]; omega)
                              have hc8 := (B27.cell (blt hc80)).trans hc80
                              have hy8 := (B27.cell (blt hy80)).trans hy80
                              have hyb := hrb.2.2
                              have hye : LA.atI r8 q = y8 := by unfold LA.atI; rw [hy8v.out]; rfl
                              rw [hye] at hyb
                              have HYE := Lib.hid hye
                              have hcut := fun w => cut_upto (some ad9) (q + 1) c8 q (by omega) (by have := hN8.2.1; rw [hrb.1] at this; exact this) hN8.2.2 (q : Int) rfl w
                              have hmul := LA.abs_mul hyb (show -1179648 ≤ den ∧ den ≤ 1179648 by omega)
                              obtain ⟨hmul1, hmul2⟩ := hmul
                              obtain ⟨u, hu⟩ : ∃ u, Hid (y8 * den = u) := ⟨_, Lib.hid rfl⟩
                              have hwu : IntKind.i64.wrap (y8 * den) = u := by rw [hu.out] at hmul1 hmul2 ⊢; exact Go.IntWalk.i64_in _ (by omega)
                              obtain ⟨s, hs⟩ : ∃ s, Hid (LA.dotL q r8 (LA.atI out) = s) := ⟨_, Lib.hid rfl⟩
                              have HTK := Lib.hid (show all.take (i + 1) = all.take i ++ [r8] by rw [List.take_add_one, hr8.out]; rfl)
                              have HP : Hid (∀ W : World, Below w7.heap.size w7 W → Calls Try.prog 28 #[.slice (some ad9) q c8, .slice AV q cV] W fun e w' => e = .returned (.int .i64 s) ∧ Below W.heap.size W w') := Lib.hid (fun W hW => by
                                have h := sprod_any W (some ad9) AV c8 cV (r8.take q) out q (Lib.hid (by rw [List.length_take, hrb.1]; omega)) HOL hn6 ((hI8.take_ q).below (B27.trans (hW.mono B27.size))) (HVI.out.below hW) (fun x hx => by
                                  obtain ⟨t, ht⟩ := List.getElem?_of_mem hx
                                  rw [List.getElem?_take] at ht
                                  split at ht
                                  · next htq =>
                                    have h3 := hrb.2.1 t htq
                                    unfold LA.atI at h3
                                    rw [ht] at h3
                                    simp only [Option.getD_some] at h3
                                    omega
                                  · cases ht) (fun x hx => by have := HOB.out x hx; omega)
                                rw [dot_take, hs.out] at h; exact h)
                              have hqI : (q : Int) < (q : Int) + 1 := by omega
                              clear hrb hI8 hN8 hc80 hy80 hyb hye hy8v B27
                              by_cases hgt : s > u
                              · have hd : decide (s > u) = true := decide_eq_true hgt
                                have HG := Lib.hid hgt
                                go_wp2_with fail
                                refine wp_region_held_drew (S := fun W => W.cell? (ad8.add i) = some (.slice (some ad9) (q + 1) c8) ∧ W.cell? (ad9.add q) = some (.int .i64 y8)) (by kernel_rfl) (by exact ⟨(D8.cell (blt hc8)).trans hc8, (D8.cell (blt hy8)).trans hy8⟩) (fun hHeld => ?_)
                                refine wpAnyH_take (i := 0) (v := ?vo50) rfl (by kernel_rfl) (by kernel_rfl) (by kernel_rfl) (fun _ _ _ h => h) (Or.inl ⟨by rfl, ?ho50⟩) (by assumption) ?ro50
                                case ho50 => (intro w hSw; (try dsimp only at hSw); go_simp; (try with_reducible rfl))
                                try simp only [Act.put, List.getElem_toArray, List.getElem_cons_succ, List.getElem_cons_zero, List.setIfInBounds_toArray, List.set_cons_zero, List.set_cons_succ]
                                refine wpAnyH_take (i := 1) (v := ?vo51) rfl (by kernel_rfl) (by kernel_rfl) (by kernel_rfl) (fun _ _ _ h => h) (Or.inl ⟨by rfl, ?ho51⟩) (by assumption) ?ro51
                                case ho51 => (intro w hSw; (try dsimp only at hSw); go_simp; (try with_reducible rfl))
                                try simp only [Act.put, List.getElem_toArray, List.getElem_cons_succ, List.getElem_cons_zero, List.setIfInBounds_toArray, List.set_cons_zero, List.set_cons_succ]
                                refine wpAnyH_take (i := 2) (v := ?vo52) rfl (by kernel_rfl) (by kernel_rfl) (by kernel_rfl) (fun _ _ _ h => h) (Or.inl ⟨by rfl, ?ho52⟩) (by assumption) ?ro52
                                case ho52 => (intro w hSw; (try dsimp only at hSw); go_simp; (try with_reducible rfl))
                                try simp only [Act.put, List.getElem_toArray, List.getElem_cons_succ, List.getElem_cons_zero, List.setIfInBounds_toArray, List.set_cons_zero, List.set_cons_succ]
                                refine wpAnyH_take (i := 3) (v := ?vo53) rfl (by kernel_rfl) (by kernel_rfl) (by kernel_rfl) (fun _ _ _ h => h) (Or.inl ⟨by rfl, ?ho53⟩) (by assumption) ?ro53
                                case ho53 => (intro w hSw; (try dsimp only at hSw); go_simp; (try with_reducible rfl))
                                try simp only [Act.put, List.getElem_toArray, List.getElem_cons_succ, List.getElem_cons_zero, List.setIfInBounds_toArray, List.set_cons_zero, List.set_cons_succ]
                                refine wpAnyH_take (i := 4) (v := ?vo54) rfl (by kernel_rfl) (by kernel_rfl) (by kernel_rfl) (fun _ _ _ h => h) (Or.inl ⟨by rfl, ?ho54⟩) (by assumption) ?ro54
                                case ho54 => (intro w hSw; (try dsimp only at hSw); go_simp; (try with_reducible rfl))
                                try simp only [Act.put, List.getElem_toArray, List.getElem_cons_succ, List.getElem_cons_zero, List.setIfInBounds_toArray, List.set_cons_zero, List.set_cons_succ]
                                refine wpAnyH_take (i := 5) (v := ?vo55) rfl (by kernel_rfl) (by kernel_rfl) (by kernel_rfl) (fun _ _ _ h => h) (Or.inl ⟨by rfl, ?ho55⟩) (by assumption) ?ro55
                                case ho55 => (intro w hSw; (try dsimp only at hSw); go_simp; (try with_reducible rfl))
                                try simp only [Act.put, List.getElem_toArray, List.getElem_cons_succ, List.getElem_cons_zero, List.setIfInBounds_toArray, List.set_cons_zero, List.set_cons_succ]
                                refine wpAnyH_take (i := 6) (v := ?vo56) rfl (by kernel_rfl) (by kernel_rfl) (by kernel_rfl) (fun _ _ _ h => h) (Or.inl ⟨by rfl, ?ho56⟩) (by assumption) ?ro56
                                case ho56 => (intro w hSw; (try dsimp only at hSw); go_simp; (try with_reducible rfl))
                                try simp only [Act.put, List.getElem_toArray, List.getElem_cons_succ, List.getElem_cons_zero, List.setIfInBounds_toArray, List.set_cons_zero, List.set_cons_succ]
                                refine wpAnyH_take (i := 8) (v := ?vo58) rfl (by kernel_rfl) (by kernel_rfl) (by kernel_rfl) (fun _ _ _ h => h) (Or.inl ⟨by rfl, ?ho58⟩) (by assumption) ?ro58
                                case ho58 => (intro w hSw; (try dsimp only at hSw); go_simp; (try with_reducible rfl))
                                try simp only [Act.put, List.getElem_toArray, List.getElem_cons_succ, List.getElem_cons_zero, List.setIfInBounds_toArray, List.set_cons_zero, List.set_cons_succ]
                                refine wpAnyH_take (i := 9) (v := ?vo59) rfl (by kernel_rfl) (by kernel_rfl) (by kernel_rfl) (fun _ _ _ h => h) (Or.inl ⟨by rfl, ?ho59⟩) (by assumption) ?ro59
                                case ho59 => (intro w hSw; (try dsimp only at hSw); go_simp; (try with_reducible rfl))
                                try simp only [Act.put, List.getElem_toArray, List.getElem_cons_succ, List.getElem_cons_zero, List.setIfInBounds_toArray, List.set_cons_zero, List.set_cons_succ]
                                refine wpAnyH_take (i := 10) (v := ?vo510) rfl (by kernel_rfl) (by kernel_rfl) (by kernel_rfl) (fun _ _ _ h => h) (Or.inl ⟨by rfl, ?ho510⟩) (by assumption) ?ro510
                                case ho510 => (intro w hSw; (try dsimp only at hSw); go_simp; (try with_reducible rfl))
                                try simp only [Act.put, List.getElem_toArray, List.getElem_cons_succ, List.getElem_cons_zero, List.setIfInBounds_toArray, List.set_cons_zero, List.set_cons_succ]
                                refine wpAnyH_take (i := 11) (v := ?vo511) rfl (by kernel_rfl) (by kernel_rfl) (by kernel_rfl) (fun _ _ _ h => h) (Or.inl ⟨by rfl, ?ho511⟩) (by assumption) ?ro511
                                case ho511 => (intro w hSw; (try dsimp only at hSw); go_simp; (try with_reducible rfl))
                                try simp only [Act.put, List.getElem_toArray, List.getElem_cons_succ, List.getElem_cons_zero, List.setIfInBounds_toArray, List.set_cons_zero, List.set_cons_succ]
                                refine wpAnyH_take (i := 12) (v := ?vo512) rfl (by kernel_rfl) (by kernel_rfl) (by kernel_rfl) (fun _ _ _ h => h) (Or.inl ⟨by rfl, ?ho512⟩) (by assumption) ?ro512
                                case ho512 => (intro w hSw; (try dsimp only at hSw); go_simp; (try with_reducible rfl))
                                try simp only [Act.put, List.getElem_toArray, List.getElem_cons_succ, List.getElem_cons_zero, List.setIfInBounds_toArray, List.set_cons_zero, List.set_cons_succ]
                                refine wpAnyH_take (i := 13) (v := ?vo513) rfl (by kernel_rfl) (by kernel_rfl) (by kernel_rfl) (fun _ _ _ h => h) (Or.inl ⟨by rfl, ?ho513⟩) (by assumption) ?ro513
                                case ho513 => (intro w hSw; (try dsimp only at hSw); go_simp; (try with_reducible rfl))
                                try simp only [Act.put, List.getElem_toArray, List.getElem_cons_succ, List.getElem_cons_zero, List.setIfInBounds_toArray, List.set_cons_zero, List.set_cons_succ]
                                refine wpAnyH_take (i := 14) (v := ?vo514) rfl (by kernel_rfl) (by kernel_rfl) (by kernel_rfl) (fun _ _ _ h => h) (Or.inl ⟨by rfl, ?ho514⟩) (by assumption) ?ro514
                                case ho514 => (intro w hSw; (try dsimp only at hSw); go_simp; (try with_reducible rfl))
                                try simp only [Act.put, List.getElem_toArray, List.getElem_cons_succ, List.getElem_cons_zero, List.setIfInBounds_toArray, List.set_cons_zero, List.set_cons_succ]
                                refine wpAnyH_take (i := 15) (v := ?vo515) rfl (by kernel_rfl) (by kernel_rfl) (by kernel_rfl) (fun _ _ _ h => h) (Or.inl ⟨by rfl, ?ho515⟩) (by assumption) ?ro515
                                case ho515 => (intro w hSw; (try dsimp only at hSw); go_simp; (try with_reducible rfl))
                                try simp only [Act.put, List.getElem_toArray, List.getElem_cons_succ, List.getElem_cons_zero, List.setIfInBounds_toArray, List.set_cons_zero, List.set_cons_succ]
                                refine wpAnyH_take (i := 16) (v := ?vo516) rfl (by kernel_rfl) (by kernel_rfl) (by kernel_rfl) (fun _ _ _ h => h) (Or.inl ⟨by rfl, ?ho516⟩) (by assumption) ?ro516
                                case ho516 => (intro w hSw; (try dsimp only at hSw); go_simp; (try with_reducible rfl))
                                try simp only [Act.put, List.getElem_toArray, List.getElem_cons_succ, List.getElem_cons_zero, List.setIfInBounds_toArray, List.set_cons_zero, List.set_cons_succ]
                                refine wpAnyH_ready (rs := [7]) (by kernel_rfl) (by simp) ?_
                                refine (AllReadyH.cons rfl (fun K hK => ?bo51x7) AllReadyH.nil)
                                case bo51x7 =>
                                  go_simp
                                  go_at_call 28
                                  refine (HP.out _ (by repeat (first | with_reducible exact D8 | with_reducible apply bdrew | with_reducible apply bdrewN | with_reducible apply balloc | ((with_reducible refine bset ?_ ?_ _); rotate_left; (first | omega | (simp <;> omega)))))).mono ?_
                                  rintro e w9 ⟨rfl, hB9⟩
                                  have D9 := dstep w7 hB9 (by repeat (first | with_reducible exact D8 | with_reducible apply bdrew | with_reducible apply bdrewN | with_reducible apply balloc | ((with_reducible refine bset ?_ ?_ _); rotate_left; (first | omega | (simp <;> omega)))))
                                  have hSS : w9.cell? (ad8.add i) = some (.slice (some ad9) (q + 1) c8) ∧ w9.cell? (ad9.add q) = some (.int .i64 y8) := ⟨(D9.cell (blt hc8)).trans hc8, (D9.cell (blt hy8)).trans hy8⟩
                                  go_wp2_with fail
                                  refine hK.out _ _ hSS (fun hHeld => ?_)
                                  clear hK K
                                  try simp only [Act.put, List.getElem_toArray, List.getElem_cons_succ, List.getElem_cons_zero, List.setIfInBounds_toArray, List.set_cons_zero, List.set_cons_succ]
                                  refine wpAnyH_take (i := 17) (v := ?vo5l217) rfl (by kernel_rfl) (by kernel_rfl) (by kernel_rfl) (fun _ _ _ h => h) (Or.inl ⟨by rfl, ?ho5l217⟩) (by assumption) ?ro5l217
                                  case ho5l217 => (intro w hSw; (try dsimp only at hSw); go_simp; (try with_reducible rfl))
                                  try simp only [Act.put, List.getElem_toArray, List.getElem_cons_succ, List.getElem_cons_zero, List.setIfInBounds_toArray, List.set_cons_zero, List.set_cons_succ]
                                  refine wpAnyH_done (by kernel_rfl) ?_ _
                                  go_wp2
                                  go_roundw
                                  case rel => exact ⟨i + 1, false, by omega, by go_num, rfl, Lib.hid (iff_of_false (by simp) (fun h => by
                                    have h1 := h r8 (by rw [HTK.out]; simp)
                                    rw [hs.out, HYE.out, hu.out] at h1
                                    have := HG.out
                                    omega)), by repeat (first | with_reducible exact D9 | with_reducible apply bdrew | with_reducible apply bdrewN | with_reducible apply balloc | ((with_reducible refine bset ?_ ?_ _); rotate_left; (first | omega | (simp <;> omega))))⟩
                                  case measure => simp [intOf]; omega
                              · have hd : decide (s > u) = false := decide_eq_false hgt
                                have HG := Lib.hid (show s ≤ u by omega)
                                go_wp2_with fail
                                refine wp_region_held_drew (S := fun W => W.cell? (ad8.add i) = some (.slice (some ad9) (q + 1) c8) ∧ W.cell? (ad9.add q) = some (.int .i64 y8)) (by kernel_rfl) (by exact ⟨(D8.cell (blt hc8)).trans hc8, (D8.cell (blt hy8)).trans hy8⟩) (fun hHeld => ?_)
                                refine wpAnyH_take (i := 0) (v := ?vo60) rfl (by kernel_rfl) (by kernel_rfl) (by kernel_rfl) (fun _ _ _ h => h) (Or.inl ⟨by rfl, ?ho60⟩) (by assumption) ?ro60
                                case ho60 => (intro w hSw; (try dsimp only at hSw); go_simp; (try with_reducible rfl))
                                try simp only [Act.put, List.getElem_toArray, List.getElem_cons_succ, List.getElem_cons_zero, List.setIfInBounds_toArray, List.set_cons_zero, List.set_cons_succ]
                                refine wpAnyH_take (i := 1) (v := ?vo61) rfl (by kernel_rfl) (by kernel_rfl) (by kernel_rfl) (fun _ _ _ h => h) (Or.inl ⟨by rfl, ?ho61⟩) (by assumption) ?ro61
                                case ho61 => (intro w hSw; (try dsimp only at hSw); go_simp; (try with_reducible rfl))
                                try simp only [Act.put, List.getElem_toArray, List.getElem_cons_succ, List.getElem_cons_zero, List.setIfInBounds_toArray, List.set_cons_zero, List.set_cons_succ]
                                refine wpAnyH_take (i := 2) (v := ?vo62) rfl (by kernel_rfl) (by kernel_rfl) (by kernel_rfl) (fun _ _ _ h => h) (Or.inl ⟨by rfl, ?ho62⟩) (by assumption) ?ro62
                                case ho62 => (intro w hSw; (try dsimp only at hSw); go_simp; (try with_reducible rfl))
                                try simp only [Act.put, List.getElem_toArray, List.getElem_cons_succ, List.getElem_cons_zero, List.setIfInBounds_toArray, List.set_cons_zero, List.set_cons_succ]
                                refine wpAnyH_take (i := 3) (v := ?vo63) rfl (by kernel_rfl) (by kernel_rfl) (by kernel_rfl) (fun _ _ _ h => h) (Or.inl ⟨by rfl, ?ho63⟩) (by assumption) ?ro63
                                case ho63 => (intro w hSw; (try dsimp only at hSw); go_simp; (try with_reducible rfl))
                                try simp only [Act.put, List.getElem_toArray, List.getElem_cons_succ, List.getElem_cons_zero, List.setIfInBounds_toArray, List.set_cons_zero, List.set_cons_succ]
                                refine wpAnyH_take (i := 4) (v := ?vo64) rfl (by kernel_rfl) (by kernel_rfl) (by kernel_rfl) (fun _ _ _ h => h) (Or.inl ⟨by rfl, ?ho64⟩) (by assumption) ?ro64
                                case ho64 => (intro w hSw; (try dsimp only at hSw); go_simp; (try with_reducible rfl))
                                try simp only [Act.put, List.getElem_toArray, List.getElem_cons_succ, List.getElem_cons_zero, List.setIfInBounds_toArray, List.set_cons_zero, List.set_cons_succ]
                                refine wpAnyH_take (i := 5) (v := ?vo65) rfl (by kernel_rfl) (by kernel_rfl) (by kernel_rfl) (fun _ _ _ h => h) (Or.inl ⟨by rfl, ?ho65⟩) (by assumption) ?ro65
                                case ho65 => (intro w hSw; (try dsimp only at hSw); go_simp; (try with_reducible rfl))
                                try simp only [Act.put, List.getElem_toArray, List.getElem_cons_succ, List.getElem_cons_zero, List.setIfInBounds_toArray, List.set_cons_zero, List.set_cons_succ]
                                refine wpAnyH_take (i := 6) (v := ?vo66) rfl (by kernel_rfl) (by kernel_rfl) (by kernel_rfl) (fun _ _ _ h => h) (Or.inl ⟨by rfl, ?ho66⟩) (by assumption) ?ro66
                                case ho66 => (intro w hSw; (try dsimp only at hSw); go_simp; (try with_reducible rfl))
                                try simp only [Act.put, List.getElem_toArray, List.getElem_cons_succ, List.getElem_cons_zero, List.setIfInBounds_toArray, List.set_cons_zero, List.set_cons_succ]
                                refine wpAnyH_take (i := 8) (v := ?vo68) rfl (by kernel_rfl) (by kernel_rfl) (by kernel_rfl) (fun _ _ _ h => h) (Or.inl ⟨by rfl, ?ho68⟩) (by assumption) ?ro68
                                case ho68 => (intro w hSw; (try dsimp only at hSw); go_simp; (try with_reducible rfl))
                                try simp only [Act.put, List.getElem_toArray, List.getElem_cons_succ, List.getElem_cons_zero, List.setIfInBounds_toArray, List.set_cons_zero, List.set_cons_succ]
                                refine wpAnyH_take (i := 9) (v := ?vo69) rfl (by kernel_rfl) (by kernel_rfl) (by kernel_rfl) (fun _ _ _ h => h) (Or.inl ⟨by rfl, ?ho69⟩) (by assumption) ?ro69
                                case ho69 => (intro w hSw; (try dsimp only at hSw); go_simp; (try with_reducible rfl))
                                try simp only [Act.put, List.getElem_toArray, List.getElem_cons_succ, List.getElem_cons_zero, List.setIfInBounds_toArray, List.set_cons_zero, List.set_cons_succ]
                                refine wpAnyH_take (i := 10) (v := ?vo610) rfl (by kernel_rfl) (by kernel_rfl) (by kernel_rfl) (fun _ _ _ h => h) (Or.inl ⟨by rfl, ?ho610⟩) (by assumption) ?ro610
                                case ho610 => (intro w hSw; (try dsimp only at hSw); go_simp; (try with_reducible rfl))
                                try simp only [Act.put, List.getElem_toArray, List.getElem_cons_succ, List.getElem_cons_zero, List.setIfInBounds_toArray, List.set_cons_zero, List.set_cons_succ]
                                refine wpAnyH_take (i := 11) (v := ?vo611) rfl (by kernel_rfl) (by kernel_rfl) (by kernel_rfl) (fun _ _ _ h => h) (Or.inl ⟨by rfl, ?ho611⟩) (by assumption) ?ro611
                                case ho611 => (intro w hSw; (try dsimp only at hSw); go_simp; (try with_reducible rfl))
                                try simp only [Act.put, List.getElem_toArray, List.getElem_cons_succ, List.getElem_cons_zero, List.setIfInBounds_toArray, List.set_cons_zero, List.set_cons_succ]
                                refine wpAnyH_take (i := 12) (v := ?vo612) rfl (by kernel_rfl) (by kernel_rfl) (by kernel_rfl) (fun _ _ _ h => h) (Or.inl ⟨by rfl, ?ho612⟩) (by assumption) ?ro612
                                case ho612 => (intro w hSw; (try dsimp only at hSw); go_simp; (try with_reducible rfl))
                                try simp only [Act.put, List.getElem_toArray, List.getElem_cons_succ, List.getElem_cons_zero, List.setIfInBounds_toArray, List.set_cons_zero, List.set_cons_succ]
                                refine wpAnyH_take (i := 13) (v := ?vo613) rfl (by kernel_rfl) (by kernel_rfl) (by kernel_rfl) (fun _ _ _ h => h) (Or.inl ⟨by rfl, ?ho613⟩) (by assumption) ?ro613
                                case ho613 => (intro w hSw; (try dsimp only at hSw); go_simp; (try with_reducible rfl))
                                try simp only [Act.put, List.getElem_toArray, List.getElem_cons_succ, List.getElem_cons_zero, List.setIfInBounds_toArray, List.set_cons_zero, List.set_cons_succ]
                                refine wpAnyH_take (i := 14) (v := ?vo614) rfl (by kernel_rfl) (by kernel_rfl) (by kernel_rfl) (fun _ _ _ h => h) (Or.inl ⟨by rfl, ?ho614⟩) (by assumption) ?ro614
                                case ho614 => (intro w hSw; (try dsimp only at hSw); go_simp; (try with_reducible rfl))
                                try simp only [Act.put, List.getElem_toArray, List.getElem_cons_succ, List.getElem_cons_zero, List.setIfInBounds_toArray, List.set_cons_zero, List.set_cons_succ]
                                refine wpAnyH_take (i := 15) (v := ?vo615) rfl (by kernel_rfl) (by kernel_rfl) (by kernel_rfl) (fun _ _ _ h => h) (Or.inl ⟨by rfl, ?ho615⟩) (by assumption) ?ro615
                                case ho615 => (intro w hSw; (try dsimp only at hSw); go_simp; (try with_reducible rfl))
                                try simp only [Act.put, List.getElem_toArray, List.getElem_cons_succ, List.getElem_cons_zero, List.setIfInBounds_toArray, List.set_cons_zero, List.set_cons_succ]
                                refine wpAnyH_take (i := 16) (v := ?vo616) rfl (by kernel_rfl) (by kernel_rfl) (by kernel_rfl) (fun _ _ _ h => h) (Or.inl ⟨by rfl, ?ho616⟩) (by assumption) ?ro616
                                case ho616 => (intro w hSw; (try dsimp only at hSw); go_simp; (try with_reducible rfl))
                                try simp only [Act.put, List.getElem_toArray, List.getElem_cons_succ, List.getElem_cons_zero, List.setIfInBounds_toArray, List.set_cons_zero, List.set_cons_succ]
                                refine wpAnyH_ready (rs := [7]) (by kernel_rfl) (by simp) ?_
                                refine (AllReadyH.cons rfl (fun K hK => ?bo61x7) AllReadyH.nil)
                                case bo61x7 =>
                                  go_simp
                                  go_at_call 28
                                  refine (HP.out _ (by repeat (first | with_reducible exact D8 | with_reducible apply bdrew | with_reducible apply bdrewN | with_reducible apply balloc | ((with_reducible refine bset ?_ ?_ _); rotate_left; (first | omega | (simp <;> omega)))))).mono ?_
                                  rintro e w9 ⟨rfl, hB9⟩
                                  have D9 := dstep w7 hB9 (by repeat (first | with_reducible exact D8 | with_reducible apply bdrew | with_reducible apply bdrewN | with_reducible apply balloc | ((with_reducible refine bset ?_ ?_ _); rotate_left; (first | omega | (simp <;> omega)))))
                                  have hSS : w9.cell? (ad8.add i) = some (.slice (some ad9) (q + 1) c8) ∧ w9.cell? (ad9.add q) = some (.int .i64 y8) := ⟨(D9.cell (blt hc8)).trans hc8, (D9.cell (blt hy8)).trans hy8⟩
                                  go_wp2_with fail
                                  refine hK.out _ _ hSS (fun hHeld => ?_)
                                  clear hK K
                                  try simp only [Act.put, List.getElem_toArray, List.getElem_cons_succ, List.getElem_cons_zero, List.setIfInBounds_toArray, List.set_cons_zero, List.set_cons_succ]
                                  refine wpAnyH_take (i := 17) (v := ?vo6l217) rfl (by kernel_rfl) (by kernel_rfl) (by kernel_rfl) (fun _ _ _ h => h) (Or.inl ⟨by rfl, ?ho6l217⟩) (by assumption) ?ro6l217
                                  case ho6l217 => (intro w hSw; (try dsimp only at hSw); go_simp; (try with_reducible rfl))
                                  try simp only [Act.put, List.getElem_toArray, List.getElem_cons_succ, List.getElem_cons_zero, List.setIfInBounds_toArray, List.set_cons_zero, List.set_cons_succ]
                                  refine wpAnyH_done (by kernel_rfl) ?_ _
                                  go_wp2
                                  go_roundw
                                  case rel => exact ⟨i + 1, ok, by omega, by go_num, rfl, Lib.hid (HOK.out.trans ⟨fun h r hr => by
                                    rw [HTK.out] at hr
                                    rcases List.mem_append.1 hr with h1 | h1
                                    · exact h r h1
                                    · obtain rfl : r = r8 := by simpa using h1
                                      rw [hs.out, HYE.out, hu.out]; exact HG.out, fun h r hr => h r (by rw [HTK.out]; exact List.mem_append_left _ hr)⟩), by repeat (first | with_reducible exact D9 | with_reducible apply bdrew | with_reducible apply bdrewN | with_reducible apply balloc | ((with_reducible refine bset ?_ ?_ _); rotate_left; (first | omega | (simp <;> omega))))⟩
                                  case measure => simp [intOf]; omega
                            · obtain rfl : L = i := by omega
                              have HTA := Lib.hid (show all.take L = all from List.take_of_length_le (by rw [hL.out]; exact Nat.le_refl _))
                              cases ok with
                              | false =>
                                have hBx := D47.trans (D8.mono D47.size)
                                go_wp2_with fail
                                go_roundw
                                case rel => exact ⟨k + 1, cs, v, by omega, by go_num, rfl, OwnCo.below hC (by repeat (first | with_reducible exact hBx | with_reducible apply bdrew | with_reducible apply bdrewN | with_reducible apply balloc | ((with_reducible refine bset ?_ ?_ _); rotate_left; (first | omega | (simp <;> omega))))), Lib.hid (HCT.out.skip (fun _ _ h3 => by have h4 := HOK.out.2 (by rw [HTA.out]; exact h3 _ _ hd0 (by rw [hL.out]; exact HSOL.out)); cases h4)), Lib.hid (Nat.le_succ_of_le HCL.out), by repeat (first | with_reducible exact (hB4.trans (hBx.mono hB4.size)) | with_reducible apply bdrew | with_reducible apply bdrewN | with_reducible apply balloc | ((with_reducible refine bset ?_ ?_ _); rotate_left; (first | omega | (simp <;> omega))))⟩
                                case measure => simp [intOf]; omega
                              | true =>
                                have HFE := Lib.hid (HOK.out.1 rfl)
                                rw [HTA.out] at HFE
                                have HLC := Lib.hid (show cs.length < 1000000000000 by have := HCL.out; omega)
                                have hBx := D47.trans (D8.mono D47.size)
                                have hB48 := hB4.trans (hBx.mono hB4.size)
                                go_wp2_with (refine wpList_el pcor_stable 68 32 (.agg #[.slice none 0 0, .int .i64 0]) Try.underlying68 info_corner rfl (by decide) (by decide) rfl (.tmp 145) (.tmp 149) rfl w2 [] rfl (OwnCo.below hC ?p1) ⟨w8.heap.size, 0, none⟩ 1 rfl [.slice AV q cV, .int .i64 den] (out, den) rfl (cells_two ?p2 ?p4) ?p8 ⟨AV, cV, ?p9, HVI.out.below ?p10, OwnI.nilok HOV.out, ?p13⟩ HLC.out ?p3 (Nat.le_refl _) ?p5 trivial ?p7 ?_; (case p1 => repeat (first | with_reducible exact hBx | with_reducible apply bdrew | with_reducible apply bdrewN | with_reducible apply balloc | ((with_reducible refine bset ?_ ?_ _); rotate_left; (first | omega | (simp <;> omega))))); (case p2 => simp [go_sem]); (case p4 => simp [go_sem]); (case p3 => (simp <;> omega)); (case p5 => repeat (first | with_reducible exact hB48 | with_reducible apply bdrew | with_reducible apply bdrewN | with_reducible apply balloc | ((with_reducible refine bset ?_ ?_ _); rotate_left; (first | omega | (simp <;> omega))))); (case p7 => intro x hx; cases hx); (case p8 => intro u hu; simp at hu; rcases hu with rfl | rfl <;> rfl); (case p9 => rw [HOL.out]); (case p10 => repeat (first | with_reducible exact D8 | with_reducible apply bdrew | with_reducible apply bdrewN | with_reducible apply balloc | ((with_reducible refine bset ?_ ?_ _); rotate_left; (first | omega | (simp <;> omega))))); (case p13 => intro _ ad e e2; subst e; have h1 := (OwnI.blk_ HOV.out ad rfl).1; have := (OwnEs.lt hC _ e2.symm).2; omega); intro v9 w9 o9 D9 C9 sz9 G9 at9; clear C9 G9 at9)
                                go_wp2
                                go_roundw
                                case rel => exact ⟨k + 1, cs ++ [(out, den)], _, by omega, by go_num, rfl, OwnCo.below o9 (by repeat (first | with_reducible exact Below.refl _ _ | with_reducible apply bdrew | with_reducible apply bdrewN | with_reducible apply balloc | ((with_reducible refine bset ?_ ?_ _); rotate_left; (first | omega | (simp <;> omega))))), Lib.hid (HCT.out.add (c := (out, den)) ⟨HOL.out, hd0, hd1, HOB.out, HFE.out⟩ (by rw [hL.out]; exact HSOL.out)), Lib.hid (by rw [List.length_append]; exact Nat.succ_le_succ HCL.out), by repeat (first | with_reducible exact D9 | with_reducible apply bdrew | with_reducible apply bdrewN | with_reducible apply balloc | ((with_reducible refine bset ?_ ?_ _); rotate_left; (first | omega | (simp <;> omega))))⟩
                                case measure => simp [intOf]; omega
                      · have hqne : ((q : Int) == (n : Int)) = false := beq_eq_false_iff_ne.2 (by omega)
                        have hqne2 : ((q : Int) != (n : Int)) = true := by simp [bne, hqne]
                        go_wp2_with fail
                        go_roundw
                        case rel => exact ⟨k + 1, cs, v, by omega, by go_num, rfl, OwnCo.below hC (by repeat (first | with_reducible exact hB6 | with_reducible apply bdrew | with_reducible apply bdrewN | with_reducible apply balloc | ((with_reducible refine bset ?_ ?_ _); rotate_left; (first | omega | (simp <;> omega))))), Lib.hid (HCT.out.skip (fun h _ _ => by have h2 := HQ.out; rw [List.length_append] at h2; rw [hL.out] at h; exact hqn (by omega))), Lib.hid (Nat.le_succ_of_le HCL.out), by repeat (first | with_reducible exact (hB4.trans (hB6.mono hB4.size)) | with_reducible apply bdrew | with_reducible apply bdrewN | with_reducible apply balloc | ((with_reducible refine bset ?_ ?_ _); rotate_left; (first | omega | (simp <;> omega))))⟩
                        case measure => simp [intOf]; omega
                · obtain rfl : k = N := by omega
                  go_wp2
                  refine bodyPost_ret (v := v) ?_ rfl ⟨v, cs, rfl, (OwnEs.mono hC hB2.size).below pcor_stable (by repeat (first | with_reducible exact Below.refl _ _ | with_reducible apply bdrew | with_reducible apply bdrewN | with_reducible apply balloc | ((with_reducible refine bset ?_ ?_ _); rotate_left; (first | omega | (simp <;> omega))))), (by rw [hall.out]; exact HCT.out.done (by rw [hL.out, HN2.out]; exact Nat.le_refl _)), by repeat (first | with_reducible exact (hB2.trans (hB4.mono hB2.size)) | with_reducible apply bdrew | with_reducible apply bdrewN | with_reducible apply balloc | ((with_reducible refine bset ?_ ?_ _); rotate_left; (first | omega | (simp <;> omega))))⟩
                  simp [results, Try.results41]


end Go.Proofs.Ytkepfmglljkjhaa
