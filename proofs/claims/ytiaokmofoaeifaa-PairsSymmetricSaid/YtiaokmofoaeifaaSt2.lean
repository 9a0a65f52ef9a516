/-
  strips.Update: what it returns.
-/
import Derived.Test.YtiaokmofoaeifaaUsort
import Derived.Test.YtiaokmofoaeifaaUlay
import Derived.Test.YtiaokmofoaeifaaRrun
import Derived.Test.YtiaokmofoaeifaaTrel9
import Derived.Test.YtiaokmofoaeifaaTbin
import Derived.Test.YtiaokmofoaeifaaMem2
namespace Go.Proofs.Ytiaokmofoaeifaa
open Go.RowKit
set_option linter.unusedVariables false
set_option linter.unusedSimpArgs false

/-- What Update returns. -/
def updV (s add del : List Int) : List Int := Go.Lib.compact (sortV (s.filter (fun x => !decide (x ∈ del)) ++ add))
theorem updV_mem {s add del : List Int} {x : Int} : x ∈ updV s add del ↔ x ∈ add ∨ (x ∈ s ∧ x ∉ del) := by
  unfold updV
  rw [(compact_of (sortV_le _)).2, sortV_mem, List.mem_append, List.mem_filter]
  simp only [Bool.not_eq_true', decide_eq_false_iff_not]
  exact or_comm
theorem updV_lt (s add del : List Int) : (updV s add del).Pairwise (· < ·) := (compact_of (sortV_le _)).1
theorem updV_next {n : Nat} {s : List Int} {o : OpV} (hs : ∀ x ∈ s, 0 ≤ x ∧ x < (n : Int)) (ha : ∀ x ∈ o.add, 0 ≤ x ∧ x < (n : Int)) : updV s o.add o.del = nextV n s o := nextV_eq hs ha (updV_lt _ _ _) (fun x => updV_mem)
theorem filterNot_yes {del l : List Int} {k : Nat} {x : Int} (hx : l[k]? = some x) (h : decide (x ∈ del) = true) : (l.take (k + 1)).filter (fun x => !decide (x ∈ del)) = (l.take k).filter (fun x => !decide (x ∈ del)) := by
  rw [List.take_add_one, hx, List.filter_append]
  simp [of_decide_eq_true h]
theorem filterNot_no {del l : List Int} {k : Nat} {x : Int} (hx : l[k]? = some x) (h : decide (x ∈ del) = false) : (l.take k).filter (fun x => !decide (x ∈ del)) ++ [x] = (l.take (k + 1)).filter (fun x => !decide (x ∈ del)) := by
  rw [List.take_add_one, hx, List.filter_append]
  simp [of_decide_eq_false h]
theorem bin_v (B : Option Addr) (d : Nat) (ys : List Int) (x : Int) (w : World) (v : Bool) (hv : decide (x ∈ ys) = v) (hJ : Ints w B ys) (hl : ys.length ≤ 1000000000000) (hs : ys.Pairwise (· < ·)) :
    Calls Try.prog 104 #[.slice B ys.length d, .int .i64 x] w fun e w' => ∃ k : Nat, e = .returned (.tuple #[.int .i64 k, .bool v]) ∧ Below w.heap.size w w' :=
  (bin_any B d ys x w hJ hl hs).mono fun e w' h => by
    obtain ⟨k, h1, _, _, _, h2⟩ := h
    exact ⟨k, by rw [← hv]; exact h1, h2⟩
set_option maxRecDepth 100000 in
set_option maxHeartbeats 1000000 in
theorem update_any (w : World) (S A1 A2 : Option Addr) (c c1 c2 : Nat) (s add del : List Int) (hS : Ints w S s) (hA : Ints w A1 add) (hD : Ints w A2 del) (hls : s.length ≤ 100000000000) (hla : add.length ≤ 100000000000) (hld : del.length ≤ 100000000000) (hsd : del.Pairwise (· < ·)) (hnil : A1 = none → c1 = 0) :
    Calls Try.prog 91 #[.slice S s.length c, .slice A1 add.length c1, .slice A2 del.length c2] w fun e w' => ∃ v, e = .returned v ∧ OwnI w.heap.size w' v (updV s add del) ∧ Below w.heap.size w w' := by
  have HS := Lib.hid hsd
  clear hsd
  go_enter Try.func91, Try.ntmps91
  go_wp2_with fail
  go_loopw [7, 14] (fun v i wr => ∃ k : Nat, k ≤ s.length ∧ i = .int .i64 k ∧ OwnI (w.heap.size) wr v ((s.take k).filter (fun x => !decide (x ∈ del))) ∧ Below w.heap.size w wr) (fun _ i _ => s.length - (intOf i).toNat)
  case atStart => exact ⟨0, Nat.zero_le _, rfl, OwnI.nil _ _, Below.refl _ _⟩
  case round =>
    obtain ⟨k, hk, rfl, hown, hBr⟩ := hrel
    obtain ⟨w2, rfl⟩ : ∃ wo : World, wo = wr := ⟨_, rfl⟩
    have dRs := hBr.size
    have hlf : ((s.take k).filter (fun x => !decide (x ∈ del))).length ≤ s.length := by
      have h1 := List.length_filter_le (fun x => !decide (x ∈ del)) (s.take k)
      rw [List.length_take] at h1; omega
    have HLF := Lib.hid hlf
    clear hlf
    have hlen : ((s.take k).filter (fun x => !decide (x ∈ del))).length < 1000000000000 := by have := HLF.out; omega
    by_cases hlt : k < s.length
    · obtain ⟨ad, x, rfl, hx, hcx⟩ := (hS.below hBr).at_ hlt
      cases hd : decide (x ∈ del) with
      | true =>
        have HD := Lib.hid hd
        have HF := Lib.hid (filterNot_yes hx.out hd)
        clear hd
        go_wp2_with fail
        refine (bin_v _ _ _ _ _ true HD.out (hD.below (by repeat (first | with_reducible exact hBr | with_reducible apply bdrew | with_reducible apply bdrewN | with_reducible apply balloc | ((with_reducible refine bset ?_ ?_ _); rotate_left; (first | omega | (simp <;> omega)))))) (by omega) HS.out).mono ?_
        rintro e w1 ⟨kf, rfl, hB1⟩
        have D1 := dstep w hB1 (by repeat (first | with_reducible exact hBr | with_reducible apply bdrew | with_reducible apply bdrewN | with_reducible apply balloc | ((with_reducible refine bset ?_ ?_ _); rotate_left; (first | omega | (simp <;> omega)))))
        have d1s := D1.size
        have Ew2_1 := dstep w2 hB1 (by repeat (first | with_reducible exact Below.refl _ _ | with_reducible apply bdrew | with_reducible apply bdrewN | with_reducible apply balloc | ((with_reducible refine bset ?_ ?_ _); rotate_left; (first | omega | (simp <;> omega)))))
        go_wp2
        go_roundw
        case rel => exact ⟨k + 1, by omega, by go_num, by rw [HF.out]; exact hown.below (by repeat (first | with_reducible exact Ew2_1 | with_reducible apply bdrew | with_reducible apply bdrewN | with_reducible apply balloc | ((with_reducible refine bset ?_ ?_ _); rotate_left; (first | omega | (simp <;> omega))))), by repeat (first | with_reducible exact D1 | with_reducible apply bdrew | with_reducible apply bdrewN | with_reducible apply balloc | ((with_reducible refine bset ?_ ?_ _); rotate_left; (first | omega | (simp <;> omega))))⟩
        case measure => simp [intOf]; omega
      | false =>
        have HD := Lib.hid hd
        have HF := Lib.hid (filterNot_no hx.out hd)
        clear hd
        go_wp2_with fail
        refine (bin_v _ _ _ _ _ false HD.out (hD.below (by repeat (first | with_reducible exact hBr | with_reducible apply bdrew | with_reducible apply bdrewN | with_reducible apply balloc | ((with_reducible refine bset ?_ ?_ _); rotate_left; (first | omega | (simp <;> omega)))))) (by omega) HS.out).mono ?_
        rintro e w1 ⟨kf, rfl, hB1⟩
        have D1 := dstep w hB1 (by repeat (first | with_reducible exact hBr | with_reducible apply bdrew | with_reducible apply bdrewN | with_reducible apply balloc | ((with_reducible refine bset ?_ ?_ _); rotate_left; (first | omega | (simp <;> omega)))))
        have d1s := D1.size
        have Ew2_1 := dstep w2 hB1 (by repeat (first | with_reducible exact Below.refl _ _ | with_reducible apply bdrew | with_reducible apply bdrewN | with_reducible apply balloc | ((with_reducible refine bset ?_ ?_ _); rotate_left; (first | omega | (simp <;> omega)))))
        have hown1 := hown.below (by repeat (first | with_reducible exact Ew2_1 | with_reducible apply bdrew | with_reducible apply bdrewN | with_reducible apply balloc | ((with_reducible refine bset ?_ ?_ _); rotate_left; (first | omega | (simp <;> omega)))))
        go_wp2_with (at_builtin; go_must (refine wpList_push rfl (.tmp 26) (.tmp 28) rfl w [] (w.heap.size) u7 _ (x) rfl (OwnI.below hown1 ?p1) ⟨w1.heap.size, 0, none⟩ 1 rfl ?p2 hlen ?p3 ?p4 ?p5 ?p6 ?p7 ?_; (case p1 => repeat (first | with_reducible exact Below.refl _ _ | with_reducible apply bdrew | with_reducible apply bdrewN | with_reducible apply balloc | ((with_reducible refine bset ?_ ?_ _); rotate_left; (first | omega | (simp <;> omega))))); (case p2 => simp [Cls, go_sem]); (case p3 => (first | omega | (simp <;> omega))); (case p4 => (first | omega | (simp <;> omega))); (case p5 => repeat (first | with_reducible exact D1 | with_reducible apply bdrew | with_reducible apply bdrewN | with_reducible apply balloc | ((with_reducible refine bset ?_ ?_ _); rotate_left; (first | omega | (simp <;> omega))))); (case p6 => simp [Cls, go_sem]); (case p7 => (simp <;> omega)); intro v2 w2 o2 D2 C2 sz2; have d2s := D2.size))
        go_roundw
        case rel => exact ⟨k + 1, by omega, by go_num, by rw [← HF.out]; exact o2, by repeat (first | with_reducible exact D2 | with_reducible apply bdrew | with_reducible apply bdrewN | with_reducible apply balloc | ((with_reducible refine bset ?_ ?_ _); rotate_left; (first | omega | (simp <;> omega))))⟩
        case measure => simp [intOf]; omega
    · obtain rfl : k = s.length := by omega
      have HTK := Lib.hid (List.take_length (l := s))
      have hlen2 : ((s.take s.length).filter (fun x => !decide (x ∈ del))).length + add.length ≤ 1000000000000 := by have := HLF.out; omega
      go_wp2_with (at_builtin; go_must (refine wpList_cat rfl (.tmp 31) (.tmp 32) rfl w [] (w.heap.size) u7 _ rfl (hown.below ?p0) A1 c1 _ add rfl rfl hnil ?p1 hlen2 ?p3 ?p4 ?p5 trivial ?p6 ?_; (case p0 => repeat (first | with_reducible exact Below.refl _ _ | with_reducible apply bdrew | with_reducible apply bdrewN | with_reducible apply balloc | ((with_reducible refine bset ?_ ?_ _); rotate_left; (first | omega | (simp <;> omega))))); (case p1 => exact hA.below (by repeat (first | with_reducible exact hBr | with_reducible apply bdrew | with_reducible apply bdrewN | with_reducible apply balloc | ((with_reducible refine bset ?_ ?_ _); rotate_left; (first | omega | (simp <;> omega)))))); (case p3 => (first | omega | (simp <;> omega))); (case p4 => (first | omega | (simp <;> omega))); (case p5 => repeat (first | with_reducible exact hBr | with_reducible apply bdrew | with_reducible apply bdrewN | with_reducible apply balloc | ((with_reducible refine bset ?_ ?_ _); rotate_left; (first | omega | (simp <;> omega))))); (case p6 => simp); intro v4 w4 o4 D4 C4 sz4; have d4s := D4.size))
      have hl4 : ((s.take s.length).filter (fun x => !decide (x ∈ del)) ++ add).length ≤ 1000000000000 := by rw [List.length_append]; exact hlen2
      go_wp2_with fail
      refine (sort_own lays_sort (w0 := w) (base := w.heap.size) (o4.below (by repeat (first | with_reducible exact Below.refl _ _ | with_reducible apply bdrew | with_reducible apply bdrewN | with_reducible apply balloc | ((with_reducible refine bset ?_ ?_ _); rotate_left; (first | omega | (simp <;> omega)))))) (Nat.le_refl _) (by repeat (first | with_reducible exact D4 | with_reducible apply bdrew | with_reducible apply bdrewN | with_reducible apply balloc | ((with_reducible refine bset ?_ ?_ _); rotate_left; (first | omega | (simp <;> omega))))) hl4).mono ?_
      rintro e w5 ⟨rfl, o5, D5⟩
      have d5s := D5.size
      go_wp2_with fail
      refine (compact_own lays_compact (w0 := w) (base := w.heap.size) (o5.below (by repeat (first | with_reducible exact Below.refl _ _ | with_reducible apply bdrew | with_reducible apply bdrewN | with_reducible apply balloc | ((with_reducible refine bset ?_ ?_ _); rotate_left; (first | omega | (simp <;> omega)))))) (Nat.le_refl _) (by repeat (first | with_reducible exact D5 | with_reducible apply bdrew | with_reducible apply bdrewN | with_reducible apply balloc | ((with_reducible refine bset ?_ ?_ _); rotate_left; (first | omega | (simp <;> omega))))) (by rw [sortV_len]; exact hl4)).mono ?_
      rintro e w6 ⟨v6, rfl, o6, D6⟩
      go_wp2
      go_ret
      exact ⟨_, rfl, by unfold updV; rw [HTK.out] at o6; exact o6, D6⟩


end Go.Proofs.Ytiaokmofoaeifaa
