/-
  FractionCancels returns true: multiplying both numbers of a quotient by the same number does not change it.
-/
import Derived.Test.YtmlgaofbifejaaaFex
import Derived.Test.YtmlgaofbifejaaaBlaw
import Derived.ProofKit
import Derived.OpenShut
namespace Go.Proofs.Ytmlgaofbifejaaa
open Go.RowKit
set_option linter.unusedVariables false
set_option linter.unusedSimpArgs false

theorem cancels_q (n d k : Int) (hk : k ≠ 0) (hd : d ≠ 0) : qn (n * k) (d * k) = qn n d ∧ qd (n * k) (d * k) = qd n d :=
  q_congr (Int.mul_ne_zero hd hk) hd (by rw [Int.mul_assoc, Int.mul_comm k])
theorem mul30 {a b : Int} (h1 : -1073741824 ≤ a) (h2 : a ≤ 1073741824) (h3 : -1073741824 ≤ b) (h4 : b ≤ 1073741824) : -4611686018427387904 ≤ a * b ∧ a * b ≤ 4611686018427387904 := by
  have h : (a * b).natAbs ≤ 1073741824 * 1073741824 := by
    rw [Int.natAbs_mul]; exact Nat.mul_le_mul (by omega) (by omega)
  omega

set_option maxHeartbeats 400000 in
theorem walk_cancels_bad (n d k : Int) (w : World) (h : ¬ mc n d = 0) (e1 : mn n d = 0) (e2 : md n d = 0) :
    Calls Try.prog 3 #[.int .i64 n, .int .i64 d, .int .i64 k] w fun e w' => e = .returned (.bool true) ∧ Below w.heap.size w w' := by
  have N := bb_no h
  have N' : (mc n d != 0) = true := by simpa using h
  have E1 := Lib.hid e1
  have E2 := Lib.hid e2
  clear e1 e2
  go_enter Try.func3, Try.ntmps3
  go_wp2_with fail
  refine (example_any _).mono ?_
  rintro e w1 ⟨rfl, hB⟩
  have D1 := dstep w hB (by repeat (first | with_reducible exact Below.refl _ _ | with_reducible apply bdrew | with_reducible apply bdrewN | with_reducible apply balloc | ((with_reducible refine bset ?_ ?_ _); rotate_left; (first | omega | (simp <;> omega)))))
  have d1s := D1.size
  have B1 := hB
  clear hB
  go_wp2_with fail
  refine (make_any _ _ _).mono ?_
  rintro e w2 ⟨he, hB⟩
  rw [E1.out, E2.out] at he
  subst he
  have D2 := dstep w hB (by repeat (first | with_reducible exact D1 | with_reducible apply bdrew | with_reducible apply bdrewN | with_reducible apply balloc | ((with_reducible refine bset ?_ ?_ _); rotate_left; (first | omega | (simp <;> omega)))))
  have d2s := D2.size
  have B2 := bstep B1 hB (by repeat (first | with_reducible exact B1 | with_reducible apply bdrew | with_reducible apply bdrewN | with_reducible apply balloc | ((with_reducible refine bset ?_ ?_ _); rotate_left; (first | omega | (simp <;> omega)))))
  clear hB
  go_wp2
  go_ret
  exact ⟨rfl, by repeat (first | with_reducible exact D2 | with_reducible apply bdrew | with_reducible apply bdrewN | with_reducible apply balloc | ((with_reducible refine bset ?_ ?_ _); rotate_left; (first | omega | (simp <;> omega))))⟩

set_option maxHeartbeats 400000 in
theorem walk_cancels_zero (n d k : Int) (w : World) (h : mc n d = 0) (hk : k = 0) :
    Calls Try.prog 3 #[.int .i64 n, .int .i64 d, .int .i64 k] w fun e w' => e = .returned (.bool true) ∧ Below w.heap.size w w' := by
  have H := Lib.hid h
  clear h
  subst hk
  go_enter Try.func3, Try.ntmps3
  go_wp2_with fail
  refine (example_any _).mono ?_
  rintro e w1 ⟨rfl, hB⟩
  have D1 := dstep w hB (by repeat (first | with_reducible exact Below.refl _ _ | with_reducible apply bdrew | with_reducible apply bdrewN | with_reducible apply balloc | ((with_reducible refine bset ?_ ?_ _); rotate_left; (first | omega | (simp <;> omega)))))
  have d1s := D1.size
  have B1 := hB
  clear hB
  go_wp2_with fail
  refine (make_any _ _ _).mono ?_
  rintro e w2 ⟨he, hB⟩
  rw [H.out] at he
  subst he
  have D2 := dstep w hB (by repeat (first | with_reducible exact D1 | with_reducible apply bdrew | with_reducible apply bdrewN | with_reducible apply balloc | ((with_reducible refine bset ?_ ?_ _); rotate_left; (first | omega | (simp <;> omega)))))
  have d2s := D2.size
  have B2 := bstep B1 hB (by repeat (first | with_reducible exact B1 | with_reducible apply bdrew | with_reducible apply bdrewN | with_reducible apply balloc | ((with_reducible refine bset ?_ ?_ _); rotate_left; (first | omega | (simp <;> omega)))))
  clear hB
  go_wp2
  go_ret
  exact ⟨rfl, by repeat (first | with_reducible exact D2 | with_reducible apply bdrew | with_reducible apply bdrewN | with_reducible apply balloc | ((with_reducible refine bset ?_ ?_ _); rotate_left; (first | omega | (simp <;> omega))))⟩

set_option maxHeartbeats 400000 in
theorem walk_cancels_n (n d k : Int) (w : World) (h : mc n d = 0) (hk : ¬ k = 0) (hn : n < -1073741824 ∨ 1073741824 < n) :
    Calls Try.prog 3 #[.int .i64 n, .int .i64 d, .int .i64 k] w fun e w' => e = .returned (.bool true) ∧ Below w.heap.size w w' := by
  have H := Lib.hid h
  clear h
  have K := bb_no hk
  go_enter Try.func3, Try.ntmps3
  go_wp2_with fail
  refine (example_any _).mono ?_
  rintro e w1 ⟨rfl, hB⟩
  have D1 := dstep w hB (by repeat (first | with_reducible exact Below.refl _ _ | with_reducible apply bdrew | with_reducible apply bdrewN | with_reducible apply balloc | ((with_reducible refine bset ?_ ?_ _); rotate_left; (first | omega | (simp <;> omega)))))
  have d1s := D1.size
  have B1 := hB
  clear hB
  go_wp2_with fail
  refine (make_any _ _ _).mono ?_
  rintro e w2 ⟨he, hB⟩
  rw [H.out] at he
  subst he
  have D2 := dstep w hB (by repeat (first | with_reducible exact D1 | with_reducible apply bdrew | with_reducible apply bdrewN | with_reducible apply balloc | ((with_reducible refine bset ?_ ?_ _); rotate_left; (first | omega | (simp <;> omega)))))
  have d2s := D2.size
  have B2 := bstep B1 hB (by repeat (first | with_reducible exact B1 | with_reducible apply bdrew | with_reducible apply bdrewN | with_reducible apply balloc | ((with_reducible refine bset ?_ ?_ _); rotate_left; (first | omega | (simp <;> omega)))))
  clear hB
  go_wp2_with fail
  refine (in_no _ _ _ _ (by omega) (by omega)).mono ?_
  rintro e w' ⟨rfl, rfl⟩
  go_wp2
  go_ret
  exact ⟨rfl, by repeat (first | with_reducible exact D2 | with_reducible apply bdrew | with_reducible apply bdrewN | with_reducible apply balloc | ((with_reducible refine bset ?_ ?_ _); rotate_left; (first | omega | (simp <;> omega))))⟩

set_option maxHeartbeats 400000 in
theorem walk_cancels_d (n d k : Int) (w : World) (h : mc n d = 0) (hk : ¬ k = 0) (n1 : -1073741824 ≤ n) (n2 : n ≤ 1073741824) (hd : d < -1073741824 ∨ 1073741824 < d) :
    Calls Try.prog 3 #[.int .i64 n, .int .i64 d, .int .i64 k] w fun e w' => e = .returned (.bool true) ∧ Below w.heap.size w w' := by
  have H := Lib.hid h
  clear h
  have K := bb_no hk
  go_enter Try.func3, Try.ntmps3
  go_wp2_with fail
  refine (example_any _).mono ?_
  rintro e w1 ⟨rfl, hB⟩
  have D1 := dstep w hB (by repeat (first | with_reducible exact Below.refl _ _ | with_reducible apply bdrew | with_reducible apply bdrewN | with_reducible apply balloc | ((with_reducible refine bset ?_ ?_ _); rotate_left; (first | omega | (simp <;> omega)))))
  have d1s := D1.size
  have B1 := hB
  clear hB
  go_wp2_with fail
  refine (make_any _ _ _).mono ?_
  rintro e w2 ⟨he, hB⟩
  rw [H.out] at he
  subst he
  have D2 := dstep w hB (by repeat (first | with_reducible exact D1 | with_reducible apply bdrew | with_reducible apply bdrewN | with_reducible apply balloc | ((with_reducible refine bset ?_ ?_ _); rotate_left; (first | omega | (simp <;> omega)))))
  have d2s := D2.size
  have B2 := bstep B1 hB (by repeat (first | with_reducible exact B1 | with_reducible apply bdrew | with_reducible apply bdrewN | with_reducible apply balloc | ((with_reducible refine bset ?_ ?_ _); rotate_left; (first | omega | (simp <;> omega)))))
  clear hB
  go_wp2_with fail
  refine (in_yes _ _ _ _ (by omega) (by omega)).mono ?_
  rintro e w' ⟨rfl, rfl⟩
  go_wp2_with fail
  refine (in_no _ _ _ _ (by omega) (by omega)).mono ?_
  rintro e w' ⟨rfl, rfl⟩
  go_wp2
  go_ret
  exact ⟨rfl, by repeat (first | with_reducible exact D2 | with_reducible apply bdrew | with_reducible apply bdrewN | with_reducible apply balloc | ((with_reducible refine bset ?_ ?_ _); rotate_left; (first | omega | (simp <;> omega))))⟩

set_option maxHeartbeats 400000 in
theorem walk_cancels_k (n d k : Int) (w : World) (h : mc n d = 0) (hk : ¬ k = 0) (n1 : -1073741824 ≤ n) (n2 : n ≤ 1073741824) (d1 : -1073741824 ≤ d) (d2 : d ≤ 1073741824) (hj : k < -1073741824 ∨ 1073741824 < k) :
    Calls Try.prog 3 #[.int .i64 n, .int .i64 d, .int .i64 k] w fun e w' => e = .returned (.bool true) ∧ Below w.heap.size w w' := by
  have H := Lib.hid h
  clear h
  have K := bb_no hk
  go_enter Try.func3, Try.ntmps3
  go_wp2_with fail
  refine (example_any _).mono ?_
  rintro e w1 ⟨rfl, hB⟩
  have D1 := dstep w hB (by repeat (first | with_reducible exact Below.refl _ _ | with_reducible apply bdrew | with_reducible apply bdrewN | with_reducible apply balloc | ((with_reducible refine bset ?_ ?_ _); rotate_left; (first | omega | (simp <;> omega)))))
  have d1s := D1.size
  have B1 := hB
  clear hB
  go_wp2_with fail
  refine (make_any _ _ _).mono ?_
  rintro e w2 ⟨he, hB⟩
  rw [H.out] at he
  subst he
  have D2 := dstep w hB (by repeat (first | with_reducible exact D1 | with_reducible apply bdrew | with_reducible apply bdrewN | with_reducible apply balloc | ((with_reducible refine bset ?_ ?_ _); rotate_left; (first | omega | (simp <;> omega)))))
  have d2s := D2.size
  have B2 := bstep B1 hB (by repeat (first | with_reducible exact B1 | with_reducible apply bdrew | with_reducible apply bdrewN | with_reducible apply balloc | ((with_reducible refine bset ?_ ?_ _); rotate_left; (first | omega | (simp <;> omega)))))
  clear hB
  go_wp2_with fail
  refine (in_yes _ _ _ _ (by omega) (by omega)).mono ?_
  rintro e w' ⟨rfl, rfl⟩
  go_wp2_with fail
  refine (in_yes _ _ _ _ (by omega) (by omega)).mono ?_
  rintro e w' ⟨rfl, rfl⟩
  go_wp2_with fail
  refine (in_no _ _ _ _ (by omega) (by omega)).mono ?_
  rintro e w' ⟨rfl, rfl⟩
  go_wp2
  go_ret
  exact ⟨rfl, by repeat (first | with_reducible exact D2 | with_reducible apply bdrew | with_reducible apply bdrewN | with_reducible apply balloc | ((with_reducible refine bset ?_ ?_ _); rotate_left; (first | omega | (simp <;> omega))))⟩

set_option maxHeartbeats 400000 in
theorem walk_cancels_in (n d k : Int) (w : World) (h : mc n d = 0) (hk : ¬ k = 0) (n1 : -1073741824 ≤ n) (n2 : n ≤ 1073741824) (d1 : -1073741824 ≤ d) (d2 : d ≤ 1073741824) (k1 : -1073741824 ≤ k) (k2 : k ≤ 1073741824) (e1 : mc (n * k) (d * k) = 0) (e2 : mn (n * k) (d * k) = mn n d) (e3 : md (n * k) (d * k) = md n d) :
    Calls Try.prog 3 #[.int .i64 n, .int .i64 d, .int .i64 k] w fun e w' => e = .returned (.bool true) ∧ Below w.heap.size w w' := by
  have H := Lib.hid h
  clear h
  have K := bb_no hk
  obtain ⟨m1, m2⟩ := mul30 n1 n2 k1 k2
  obtain ⟨m3, m4⟩ := mul30 d1 d2 k1 k2
  have E1 := Lib.hid e1
  have E2 := Lib.hid e2
  have E3 := Lib.hid e3
  clear e1 e2 e3
  go_enter Try.func3, Try.ntmps3
  go_wp2_with fail
  refine (example_any _).mono ?_
  rintro e w1 ⟨rfl, hB⟩
  have D1 := dstep w hB (by repeat (first | with_reducible exact Below.refl _ _ | with_reducible apply bdrew | with_reducible apply bdrewN | with_reducible apply balloc | ((with_reducible refine bset ?_ ?_ _); rotate_left; (first | omega | (simp <;> omega)))))
  have d1s := D1.size
  have B1 := hB
  clear hB
  go_wp2_with fail
  refine (make_any _ _ _).mono ?_
  rintro e w2 ⟨he, hB⟩
  rw [H.out] at he
  subst he
  have D2 := dstep w hB (by repeat (first | with_reducible exact D1 | with_reducible apply bdrew | with_reducible apply bdrewN | with_reducible apply balloc | ((with_reducible refine bset ?_ ?_ _); rotate_left; (first | omega | (simp <;> omega)))))
  have d2s := D2.size
  have B2 := bstep B1 hB (by repeat (first | with_reducible exact B1 | with_reducible apply bdrew | with_reducible apply bdrewN | with_reducible apply balloc | ((with_reducible refine bset ?_ ?_ _); rotate_left; (first | omega | (simp <;> omega)))))
  clear hB
  go_wp2_with fail
  refine (in_yes _ _ _ _ (by omega) (by omega)).mono ?_
  rintro e w' ⟨rfl, rfl⟩
  go_wp2_with fail
  refine (in_yes _ _ _ _ (by omega) (by omega)).mono ?_
  rintro e w' ⟨rfl, rfl⟩
  go_wp2_with fail
  refine (in_yes _ _ _ _ (by omega) (by omega)).mono ?_
  rintro e w' ⟨rfl, rfl⟩
  go_wp2_with fail
  refine (make_any _ _ _).mono ?_
  rintro e w3 ⟨he, hB⟩
  rw [E1.out, E2.out, E3.out] at he
  subst he
  have D3 := dstep w hB (by repeat (first | with_reducible exact D2 | with_reducible apply bdrew | with_reducible apply bdrewN | with_reducible apply balloc | ((with_reducible refine bset ?_ ?_ _); rotate_left; (first | omega | (simp <;> omega)))))
  have d3s := D3.size
  have B3 := bstep B1 hB (by repeat (first | with_reducible exact B2 | with_reducible apply bdrew | with_reducible apply bdrewN | with_reducible apply balloc | ((with_reducible refine bset ?_ ?_ _); rotate_left; (first | omega | (simp <;> omega)))))
  have G3 := Cls.below (l := [(w2.heap.size, 0, .int .i64 (mn n d)), (w2.heap.size, 1, .int .i64 (md n d))]) hB (by simp [Cls, go_sem])
  simp only [Cls, and_true] at G3
  have hs3 := hB.size
  try simp at hs3
  have y3_2_0 : w2.heap.size < w3.heap.size := (by omega)
  have y3_2_p1 : w2.heap.size < w3.heap.size + 1 := (by omega)
  have y3_2_p2 : w2.heap.size < w3.heap.size + 1 + 1 := (by omega)
  clear hB
  go_wp2
  go_ret
  exact ⟨rfl, by repeat (first | with_reducible exact D3 | with_reducible apply bdrew | with_reducible apply bdrewN | with_reducible apply balloc | ((with_reducible refine bset ?_ ?_ _); rotate_left; (first | omega | (simp <;> omega))))⟩

theorem walk_cancels (n d k : Int) (w : World) :
    Calls Try.prog 3 #[.int .i64 n, .int .i64 d, .int .i64 k] w fun e w' => e = .returned (.bool true) ∧ Below w.heap.size w w' := by
  rcases mc_zero n d with ⟨h, _, h1, h2, h3, h4, h5⟩ | ⟨h, h1, h2⟩
  · by_cases hk : k = 0
    · exact walk_cancels_zero n d k w h hk
    · by_cases hn : n < -1073741824 ∨ 1073741824 < n
      · exact walk_cancels_n n d k w h hk hn
      · by_cases hd : d < -1073741824 ∨ 1073741824 < d
        · exact walk_cancels_d n d k w h hk (by omega) (by omega) hd
        · by_cases hj : k < -1073741824 ∨ 1073741824 < k
          · exact walk_cancels_k n d k w h hk (by omega) (by omega) (by omega) (by omega) hj
          · have hd0 : d ≠ 0 := fun e => h2 (by unfold mo2; omega)
            obtain ⟨m1, m2⟩ := mul30 (a := n) (b := k) (by omega) (by omega) (by omega) (by omega)
            obtain ⟨m3, m4⟩ := mul30 (a := d) (b := k) (by omega) (by omega) (by omega) (by omega)
            obtain ⟨q1, q2⟩ := cancels_q n d k hk hd0
            have hp : d * k ≠ 0 := Int.mul_ne_zero hd0 hk
            obtain ⟨e1, _, e3, e4⟩ := mc_ok (n := n * k) (d := d * k) (by unfold mo1; omega) (by unfold mo2; omega) (by unfold qfit; rw [q1, q2]; exact h3)
            exact walk_cancels_in n d k w h hk (by omega) (by omega) (by omega) (by omega) (by omega) (by omega) e1 (by rw [e3, q1, h4]) (by rw [e4, q2, h5])
  · exact walk_cancels_bad n d k w h h1 h2

namespace fractionCancels
open Go.ChangeShapes Go.WideShapes Go.ChangeAt Go.RowKit

set_option maxRecDepth 100000 in
theorem lifted (os : Os) (started : os.Started) (H : Type) (enc : TypeId × Value → H) :
    ReturnsInHanded {} Try.checked os 3 .any (Rows.fractionCancelsSpec.pre6 enc Try.prog Try.f3 Rows.fractionCancelsRow.domain false) (Rows.fractionCancelsSpec.post enc Try.prog Try.f3 false true false false) := by
  refine returnsInHanded_of_change (C := Try.checked) own_knob started (by kernel_rfl) Try.func3
    (ChangeSpec.witness6 (enc := enc) (C := Try.checked) false ⟨#[], #[.int .i64 0, .int .i64 0, .int .i64 0], []⟩ 8 (by kernel_rfl) (by kernel_rfl) (by kernel_rfl) (by kernel_rfl)) ?_
  intro W base args ds gs before hval0 hW _ hsz
  have hval : ∀ (j : Nat) t v, Try.f3.params[j]? = some t → args[j]? = some v → Value.okWide Try.prog W .any base t v := hval0
  have hpost := fun (W' : World) (hfn : gs = [] → Rows.fractionCancelsSpec.fn H (ds ++ gs) = { results := [.lit (.bool true)], args := ds }) (hb : Below W.heap.size W W') => law_post (f := Try.f3) (tb := 4) laid_out_B Try.underlying4 rfl (by kernel_rfl) rfl hfn hW hb
  obtain ⟨p, q, hA0, hV, hpq, hfz, hnd⟩ := hW
  have hA : DataW.TrodAll enc Try.prog W 0 (fun _ => true) true Try.f3.params.toList args.toList ds p := hA0
  rw [Try.params3] at hA hval
  obtain ⟨v0, vs0, d0, ds0, p0, q0, hargs, rfl, hp0, h0, r0⟩ := trodAll_cons hA
  obtain ⟨v1, vs1, d1, ds1, p1, q1, rfl, rfl, hp1, h1, r1⟩ := trodAll_cons r0
  obtain ⟨v2, vs2, d2, ds2, p2, q2, rfl, rfl, hp2, h2, r2⟩ := trodAll_cons r1
  obtain ⟨rfl, rfl, hpn⟩ := trodAll_nil r2
  obtain rfl : args = #[v0, v1, v2] := by cases args; simp_all
  obtain ⟨a0, rfl, rfl, rfl, w0⟩ := open_int Try.underlying3 (hval 0 3 v0 rfl rfl) h0
  obtain ⟨a1, rfl, rfl, rfl, w1⟩ := open_int Try.underlying3 (hval 1 3 v1 rfl rfl) h1
  obtain ⟨a2, rfl, rfl, rfl, w2⟩ := open_int Try.underlying3 (hval 2 3 v2 rfl rfl) h2
  refine (walk_cancels a0 a1 a2 W).mono fun e W' ⟨he, hb⟩ => ?_
  subst he
  exact ⟨_, rfl, hpost W' (fun hg => by subst hg; rfl) hb⟩

theorem proved : Rows.FractionCancelsSaid :=
  OpenClaim.holds_of_wide 3 Try.f3 rfl rfl rfl rfl rfl rfl rfl ⟨rfl, rfl, rfl, rfl, rfl⟩ rfl rfl rfl rfl rfl (by kernel_rfl) Try.func3 (by kernel_rfl)
    (of_decide_eq_true (by kernel_rfl)) (by unfold Func.isWrapper; first | (rw [if_pos (by decide +kernel)]; kernel_rfl) | (rw [if_neg (by decide +kernel)]; exact ⟨rfl, rfl⟩))
    (fun os started H enc _ => lifted os started H enc)
#print axioms proved
end fractionCancels

end Go.Proofs.Ytmlgaofbifejaaa
