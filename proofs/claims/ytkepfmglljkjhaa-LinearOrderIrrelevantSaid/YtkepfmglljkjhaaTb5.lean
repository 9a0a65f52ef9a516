/-
  linear.vector: a vector without common divisors.
-/
import Derived.Test.YtkepfmglljkjhaaVg
import Derived.Test.YtkepfmglljkjhaaLg
import Derived.Test.YtkepfmglljkjhaaMA
import Derived.Test.YtkepfmglljkjhaaTm
namespace Go.Proofs.Ytkepfmglljkjhaa
open Go.RowKit
set_option linter.unusedVariables false
set_option linter.unusedSimpArgs false

theorem tbRow_zero (n : Nat) : List.replicate n (0 : Int) = tbRow n fun _ => 0 := by
  unfold tbRow
  apply List.ext_getElem?
  intro i
  rw [List.getElem?_map]
  rcases Nat.lt_or_ge i n with h | h
  · rw [List.getElem?_range h, List.getElem?_replicate, if_pos h]; rfl
  · rw [List.getElem?_eq_none (by rw [List.length_replicate]; exact h), List.getElem?_eq_none (by rw [List.length_range]; exact h)]; rfl
theorem tbRow_list (xs : List Int) : tbRow xs.length (fun j => (xs[j]?).getD 0) = xs := by
  unfold tbRow
  apply List.ext_getElem?
  intro i
  rw [List.getElem?_map]
  rcases Nat.lt_or_ge i xs.length with h | h
  · rw [List.getElem?_range h, List.getElem?_eq_getElem h]; simp [h]
  · rw [List.getElem?_eq_none h, List.getElem?_eq_none (by rw [List.length_range]; exact h)]; rfl
set_option maxRecDepth 100000 in
set_option maxHeartbeats 2000000 in
theorem vector_any (w : World) (A : Option Addr) (cA : Nat) (xs : List Int) (d : Int) (hI : Ints w A xs) (hn : xs.length ≤ 100) (hx : ∀ x ∈ xs, -1000000000 ≤ x ∧ x ≤ 1000000000) (hd0 : 0 < d) (hd1 : d ≤ 1000000000) :
    Calls Try.prog 35 #[.slice A xs.length cA, .int .i64 d] w fun e w' => ∃ g : Nat, e = .returned (.agg #[.slice (some ⟨g, 0, none⟩) xs.length xs.length, .int .i64 (d.tdiv (vgcd d xs))]) ∧ w.heap.size ≤ g ∧ IArr w' g (vdiv d xs) ∧ Below w.heap.size w w' := by
  have HX := Lib.hid hx
  have HLE := Lib.hid (fun k => vgcd_le (xs := xs.take k) hd0)
  have HPO := Lib.hid (fun k => vgcd_pos (xs := xs.take k) hd0)
  have hmk := make_ints xs.length (by omega)
  clear hx
  go_enter Try.func35, Try.ntmps35
  go_wp2_with fail
  go_loopw [5, 14] (fun g x wr => ∃ k : Nat, k ≤ xs.length ∧ x = .int .i64 k ∧ g = .int .i64 (vgcd d (xs.take k)) ∧ Below w.heap.size w wr ∧ Cls wr [(w.heap.size, 0, .slice none 0 0), (w.heap.size, 1, .int .i64 0)]) (fun _ x _ => xs.length - (intOf x).toNat)
  case atStart => exact ⟨0, Nat.zero_le _, rfl, rfl, by repeat (first | with_reducible exact Below.refl _ _ | with_reducible apply bdrew | with_reducible apply bdrewN | with_reducible apply balloc | ((with_reducible refine bset ?_ ?_ _); rotate_left; (first | omega | (simp <;> omega)))), by simp [Cls, go_sem]⟩
  case round =>
    obtain ⟨k, hk, rfl, rfl, hB1, hC1⟩ := hrel
    obtain ⟨w1, rfl⟩ : ∃ wo : World, wo = wr := ⟨_, rfl⟩
    have F1 := hC1
    simp only [Cls, and_true] at F1
    have y1 : w.heap.size < w1.heap.size := hC1.blk (b := w.heap.size) (k := 0) (v := .slice none 0 0) (by simp)
    have hg1 := HLE.out k
    have hg0 := HPO.out k
    by_cases hlt : k < xs.length
    · obtain ⟨ad, x, rfl, hx, hxc⟩ := (hI.below hB1).at_ hlt
      have hxb := HX.out x (List.mem_of_getElem? hx.out)
      have HT := Lib.hid (vgcd_take (d := d) hx.out)
      obtain ⟨g, hg⟩ : ∃ g, Hid (vgcd d (xs.take k) = g) := ⟨_, Lib.hid rfl⟩
      rw [hg.out] at HT hg0 hg1 ⊢
      go_wp2_with fail
      refine (lgcd_any _ _ _ (by omega) (by omega)).mono ?_
      rintro e w2 ⟨rfl, hB2⟩
      have D2 := dstep w hB2 (by repeat (first | with_reducible exact hB1 | with_reducible apply bdrew | with_reducible apply bdrewN | with_reducible apply balloc | ((with_reducible refine bset ?_ ?_ _); rotate_left; (first | omega | (simp <;> omega)))))
      have C2 := Cls.below (l := [(w.heap.size, 0, .slice none 0 0), (w.heap.size, 1, .int .i64 0)]) hB2 (by simp [Cls, go_sem, F1, y1])
      go_wp2
      go_roundw
      case rel => exact ⟨k + 1, by omega, by go_num, by rw [HT.out], by repeat (first | with_reducible exact D2 | with_reducible apply bdrew | with_reducible apply bdrewN | with_reducible apply balloc | ((with_reducible refine bset ?_ ?_ _); rotate_left; (first | omega | (simp <;> omega)))), Cls.below (w := w2) (by repeat (first | with_reducible exact Below.refl _ _ | with_reducible apply bdrew | with_reducible apply bdrewN | with_reducible apply balloc | ((with_reducible refine bset ?_ ?_ _); rotate_left; (first | omega | (simp <;> omega))))) C2⟩
      case measure => simp [intOf]; omega
    · obtain rfl : k = xs.length := by omega
      have HG := Lib.hid (show vgcd d (xs.take xs.length) = vgcd d xs by rw [List.take_length])
      rw [HG.out] at hg0 hg1 ⊢
      obtain ⟨g, hg⟩ : ∃ g, Hid (vgcd d xs = g) := ⟨_, Lib.hid rfl⟩
      rw [hg.out] at hg0 hg1 ⊢
      have hgn : ¬ g = 0 := by omega
      have hq : -9223372036854775808 ≤ d.tdiv g ∧ d.tdiv g ≤ 9223372036854775807 := by
        have e1 : g * d.tdiv g = d := by rw [← hg.out]; exact tdiv_mul_of_dvd (vgcd_dvd xs d).1
        have := abs_of_mul (B := 1000000000) hg0 e1 (by omega)
        omega
      obtain ⟨q, hqe⟩ : ∃ q, d.tdiv g = q := ⟨_, rfl⟩
      rw [hqe] at hq
      have HQ := Lib.hid hqe
      obtain ⟨hq1, hq2⟩ := hq
      have HLN := Lib.hid (vdiv_len d xs)
      have HMP := Lib.hid (tbRow_zero xs.length)
      go_upto_region 7 with fail
      go_cut [8] (fun p wx => ∃ gb gm : Nat, p = .pointer (some ⟨gb, 0, none⟩) ∧ w.heap.size < gb ∧ w.heap.size < gm ∧ gm ≠ gb ∧ IArr wx gm (tbRow xs.length fun _ => 0) ∧ Below w.heap.size w wx ∧ Cls wx [(w.heap.size, 0, .slice none 0 0), (w.heap.size, 1, .int .i64 0), (gb, 0, .slice (some ⟨gm, 0, none⟩) xs.length xs.length), (gb, 1, .int .i64 q)])
      case first =>
        go_region
        all_goals
          go_wp2_with fail
          go_meet
          first
            | exact ⟨w1.heap.size, w1.heap.size + 1, rfl, y1, by omega, by omega, by rw [← HMP.out]; have h := IArr.made (w1.alloc (.cells #[.slice (some ⟨w1.heap.size + 1, 0, none⟩) xs.length xs.length, .int .i64 q] 30)) xs.length (w1.heap.size + 1) (by simp); exact h, by repeat (first | with_reducible exact hB1 | with_reducible apply bdrew | with_reducible apply bdrewN | with_reducible apply balloc | ((with_reducible refine bset ?_ ?_ _); rotate_left; (first | omega | (simp <;> omega)))), by simp [Cls, go_sem, F1, y1]⟩
            | exact ⟨w1.heap.size + 1, w1.heap.size, rfl, by omega, y1, by omega, by rw [← HMP.out]; have h := (IArr.made w1 xs.length w1.heap.size rfl).alloc (.cells #[.slice (some ⟨w1.heap.size, 0, none⟩) xs.length xs.length, .int .i64 q] 30); exact h, by repeat (first | with_reducible exact hB1 | with_reducible apply bdrew | with_reducible apply bdrewN | with_reducible apply balloc | ((with_reducible refine bset ?_ ?_ _); rotate_left; (first | omega | (simp <;> omega)))), by simp [Cls, go_sem, F1, y1]⟩
      case rest =>
        obtain ⟨w3, rfl⟩ : ∃ wo : World, wo = wc := ⟨_, rfl⟩
        obtain ⟨gb, gm, rfl, hgb, hgm, hne, hA3, hB3, hC3⟩ := hcut
        go_wp2_with fail
        go_loopw [31] (fun x wr => ∃ k : Nat, k ≤ xs.length ∧ x = .int .i64 k ∧ IArr wr gm (tbRow xs.length fun j => if j < k then ((vdiv d xs)[j]?).getD 0 else 0) ∧ Below w.heap.size w wr ∧ Cls wr [(w.heap.size, 0, .slice none 0 0), (w.heap.size, 1, .int .i64 0), (gb, 0, .slice (some ⟨gm, 0, none⟩) xs.length xs.length), (gb, 1, .int .i64 q)]) (fun x _ => xs.length - (intOf x).toNat)
        case atStart => exact ⟨0, Nat.zero_le _, rfl, by rw [tbRow_congr (g := fun _ => 0) fun j _ => if_neg (by omega)]; exact hA3.below (by repeat (first | with_reducible exact Below.refl _ _ | with_reducible apply bdrew | with_reducible apply bdrewN | with_reducible apply balloc | ((with_reducible refine bset ?_ ?_ _); rotate_left; (first | omega | (simp <;> omega))))), by repeat (first | with_reducible exact hB3 | with_reducible apply bdrew | with_reducible apply bdrewN | with_reducible apply balloc | ((with_reducible refine bset ?_ ?_ _); rotate_left; (first | omega | (simp <;> omega)))), Cls.below (w := w3) (by repeat (first | with_reducible exact Below.refl _ _ | with_reducible apply bdrew | with_reducible apply bdrewN | with_reducible apply balloc | ((with_reducible refine bset ?_ ?_ _); rotate_left; (first | omega | (simp <;> omega))))) hC3⟩
        case round =>
          obtain ⟨k, hk, rfl, hA4, hB4, hC4⟩ := hrel
          obtain ⟨w4, rfl⟩ : ∃ wo : World, wo = wr := ⟨_, rfl⟩
          have F4 := hC4
          simp only [Cls, and_true] at F4
          have y4 : gb < w4.heap.size := hC4.blk (b := gb) (k := 0) (v := .slice (some ⟨gm, 0, none⟩) xs.length xs.length) (by simp)
          by_cases hlt : k < xs.length
          · obtain ⟨ad, x, rfl, hx, hxc⟩ := (hI.below hB4).at_ hlt
            have hxb := HX.out x (List.mem_of_getElem? hx.out)
            obtain ⟨y, hy, hye⟩ := vdiv_at (d := d) hx.out
            have HY := Lib.hid hy
            rw [hg.out] at hye
            have hyb := abs_of_mul (B := 1000000000) hg0 hye hxb
            have hyt : x.tdiv g = y := by rw [← hye]; exact Int.mul_tdiv_cancel_left _ hgn
            obtain ⟨hyb1, hyb2⟩ := hyb
            obtain ⟨z, hz, hzc, hzf⟩ := hA4.cell (i := k) (by rw [tbRow_len]; exact hlt)
            have hn1 : ¬ w.heap.size = gm := by omega
            have hn2 : ¬ gm = w.heap.size := by omega
            have hn3 : ¬ gb = gm := fun e => hne e.symm
            have hn4 : ¬ gm = gb := hne
            clear hx hy hye hz
            go_wp2_with fail
            refine region_still_tail 7 (by kernel_rfl) (by kernel_rfl) ?_
            simp only [List.take_succ_cons, List.take_zero, List.drop_succ_cons, List.drop_zero]
            repeat still_step
            refine wpStill_nil ?_
            go_wp2
            go_roundw
            case rel => exact ⟨k + 1, by omega, by go_num, (by
              have h := hA4.set_ k y
              rw [tbRow_set] at h
              rw [tbRow_congr (g := fun j => if j = k then y else if j < k then ((vdiv d xs)[j]?).getD 0 else 0) fun j _ => by
                by_cases e : j = k
                · subst e; rw [if_pos (by omega), if_pos rfl, HY.out]; rfl
                · rw [if_neg e]
                  by_cases e2 : j < k
                  · rw [if_pos e2, if_pos (by omega)]
                  · rw [if_neg e2, if_neg (by omega)]]
              exact h.below (by repeat (first | with_reducible exact Below.refl _ _ | with_reducible apply bdrew | with_reducible apply bdrewN | with_reducible apply balloc | ((with_reducible refine bset ?_ ?_ _); rotate_left; (first | omega | (simp <;> omega)))))), by repeat (first | with_reducible exact hB4 | with_reducible apply bdrew | with_reducible apply bdrewN | with_reducible apply balloc | ((with_reducible refine bset ?_ ?_ _); rotate_left; (first | omega | (simp <;> omega)))), by simp [Cls, go_sem, F4, y4, hn1, hn2, hn3, hn4]⟩
            case measure => simp [intOf]; omega
          · obtain rfl : k = xs.length := by omega
            have hA5 : IArr w4 gm (vdiv d xs) := by
              have e : tbRow xs.length (fun j => if j < xs.length then ((vdiv d xs)[j]?).getD 0 else 0) = vdiv d xs := by
                rw [tbRow_congr (g := fun j => ((vdiv d xs)[j]?).getD 0) fun j hj => if_pos hj, ← HLN.out, tbRow_list]
              rw [← e]; exact hA4
            have HA5 := Lib.hid hA5
            have hn1 : ¬ gm = w.heap.size := by omega
            have hn2 : ¬ gb = w.heap.size := by omega
            have hn3 : ¬ w.heap.size = gb := by omega
            clear hA5 hA4
            go_wp2_with fail
            refine bodyPost_ret (v := .agg #[.slice (some ⟨gm, 0, none⟩) xs.length xs.length, .int .i64 q]) ?_ rfl ⟨gm, by rw [hg.out, HQ.out], by omega, ?_, by repeat (first | with_reducible exact hB4 | with_reducible apply bdrew | with_reducible apply bdrewN | with_reducible apply balloc | ((with_reducible refine bset ?_ ?_ _); rotate_left; (first | omega | (simp <;> omega))))⟩
            · simp [results, Try.results35, go_sem, F4, y4, hn2, hn3]
            · have h := HA5.out
              repeat (first | exact h | refine IArr.far ?_ (by dsimp only; omega) _)


end Go.Proofs.Ytkepfmglljkjhaa
