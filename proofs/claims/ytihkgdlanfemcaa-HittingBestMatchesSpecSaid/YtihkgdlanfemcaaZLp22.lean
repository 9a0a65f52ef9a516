/-
  hitting.Best returns the least hitting set for all sets and costs.
-/
import Derived.Test.YtihkgdlanfemcaaZ22
import Derived.Test.YtihkgdlanfemcaaZ15
import Derived.Test.YtihkgdlanfemcaaZ10
import Derived.Test.YtihkgdlanfemcaaZ2
import Derived.Test.YtihkgdlanfemcaaZ13
import Derived.Test.YtihkgdlanfemcaaZ23
import Derived.Test.YtihkgdlanfemcaaZ1
import Derived.Test.YtihkgdlanfemcaaZ24
namespace Go.Proofs.Ytihkgdlanfemcaa
open Go.RowKit
set_option linter.unusedVariables false
set_option linter.unusedSimpArgs false

set_option maxRecDepth 100000 in
set_option maxHeartbeats 2000000 in
theorem walk_hbm_1 (w : World) (A : Option Addr) (ca : Nat) (sets : List (List Int)) (hL : LLR w A sets) (hsl : ∀ s ∈ sets, s.length ≤ 9223372036854775807) (hl : sets.length ≤ 9223372036854775807) (C : Option Addr) (cc : Nat) (cs : List Int) (hC : Ints w C cs) (hcl : cs.length ≤ 9223372036854775807) (c j : Int) (hf : hfault sets cs = (c, j)) (hc0 : ¬ c = 0) :
    Calls Try.prog 10 #[.slice A sets.length ca, .slice C cs.length cc] w fun e w' => e = .returned (.bool true) ∧ Below w.heap.size w w' := by
  have HSL := Lib.hid hsl
  have HF := Lib.hid hf
  have hf1 : (hfault sets cs).1 = c := by rw [hf]
  have hf2 : (hfault sets cs).2 = j := by rw [hf]
  have N := bb_no hc0
  have N' := bn_yes hc0
  clear hf hsl
  go_enter Try.func10, Try.ntmps10
  go_wp2_with fail
  refine (hexample_any _).mono ?_
  rintro e w1 ⟨rfl, hB1⟩
  have D1 := dstep w hB1 (by repeat (first | with_reducible exact Below.refl _ _ | with_reducible apply bdrew | with_reducible apply bdrewN | with_reducible apply balloc | ((with_reducible refine bset ?_ ?_ _); rotate_left; (first | omega | (simp <;> omega)))))
  have d1s := D1.size
  go_wp2_with fail
  refine (hBest_1 _ A ca sets (hL.below (by repeat (first | with_reducible exact D1 | with_reducible apply bdrew | with_reducible apply bdrewN | with_reducible apply balloc | ((with_reducible refine bset ?_ ?_ _); rotate_left; (first | omega | (simp <;> omega)))))) HSL.out hl C cc cs (hC.below (by repeat (first | with_reducible exact D1 | with_reducible apply bdrew | with_reducible apply bdrewN | with_reducible apply balloc | ((with_reducible refine bset ?_ ?_ _); rotate_left; (first | omega | (simp <;> omega)))))) hcl c j HF.out hc0).mono ?_
  rintro e w2 ⟨rfl, hB2⟩
  have D2 := dstep w hB2 (by repeat (first | with_reducible exact D1 | with_reducible apply bdrew | with_reducible apply bdrewN | with_reducible apply balloc | ((with_reducible refine bset ?_ ?_ _); rotate_left; (first | omega | (simp <;> omega)))))
  have d2s := D2.size
  go_wp2_with fail
  refine (hittingfault_any _ A ca sets (hL.below (by repeat (first | with_reducible exact D2 | with_reducible apply bdrew | with_reducible apply bdrewN | with_reducible apply balloc | ((with_reducible refine bset ?_ ?_ _); rotate_left; (first | omega | (simp <;> omega)))))) HSL.out hl C cc cs (hC.below (by repeat (first | with_reducible exact D2 | with_reducible apply bdrew | with_reducible apply bdrewN | with_reducible apply balloc | ((with_reducible refine bset ?_ ?_ _); rotate_left; (first | omega | (simp <;> omega)))))) hcl).mono ?_
  rintro e w3 ⟨he, hB3⟩
  rw [hf1, hf2] at he
  subst he
  have D3 := dstep w hB3 (by repeat (first | with_reducible exact D2 | with_reducible apply bdrew | with_reducible apply bdrewN | with_reducible apply balloc | ((with_reducible refine bset ?_ ?_ _); rotate_left; (first | omega | (simp <;> omega)))))
  have d3s := D3.size
  have C3 := Cls.below (l := [(w2.heap.size, 0, .int .i64 c), (w2.heap.size, 1, .int .i64 j)]) hB3 (by simp [Cls, go_sem])
  have F3 := C3
  simp only [Cls, and_true] at F3
  have y3w20 : w2.heap.size < w3.heap.size := C3.blk (b := w2.heap.size) (k := 0) (v := .int .i64 c) (by simp)
  have y3w2p1 : w2.heap.size < w3.heap.size + 1 := (by omega)
  have y3w2p2 : w2.heap.size < w3.heap.size + 1 + 1 := (by omega)
  go_wp2
  go_ret
  exact ⟨by simp, by repeat (first | with_reducible exact D3 | with_reducible apply bdrew | with_reducible apply bdrewN | with_reducible apply balloc | ((with_reducible refine bset ?_ ?_ _); rotate_left; (first | omega | (simp <;> omega))))⟩

set_option maxRecDepth 100000 in
set_option maxHeartbeats 2000000 in
theorem walk_hbm_2 (w : World) (A : Option Addr) (ca : Nat) (sets : List (List Int)) (hL : LLR w A sets) (hsl : ∀ s ∈ sets, s.length ≤ 9223372036854775807) (hl : sets.length ≤ 9223372036854775807) (C : Option Addr) (cc : Nat) (cs : List Int) (hC : Ints w C cs) (hcl : cs.length ≤ 9223372036854775807) (hok : HOk sets cs) :
    Calls Try.prog 10 #[.slice A sets.length ca, .slice C cs.length cc] w fun e w' => e = .returned (.bool true) ∧ Below w.heap.size w w' := by
  have HSL := Lib.hid hsl
  have HOK := Lib.hid hok
  have hf1 : (hfault sets cs).1 = 0 := by rw [hfault_ok hok]
  have hf2 : (hfault sets cs).2 = 0 := by rw [hfault_ok hok]
  have hc16 := hok.ncosts
  clear hok hsl
  go_enter Try.func10, Try.ntmps10
  go_wp2_with fail
  refine (hexample_any _).mono ?_
  rintro e w1 ⟨rfl, hB1⟩
  have D1 := dstep w hB1 (by repeat (first | with_reducible exact Below.refl _ _ | with_reducible apply bdrew | with_reducible apply bdrewN | with_reducible apply balloc | ((with_reducible refine bset ?_ ?_ _); rotate_left; (first | omega | (simp <;> omega)))))
  have d1s := D1.size
  go_wp2_with fail
  refine (hBest_2 _ A ca sets (hL.below (by repeat (first | with_reducible exact D1 | with_reducible apply bdrew | with_reducible apply bdrewN | with_reducible apply balloc | ((with_reducible refine bset ?_ ?_ _); rotate_left; (first | omega | (simp <;> omega)))))) HSL.out hl C cc cs (hC.below (by repeat (first | with_reducible exact D1 | with_reducible apply bdrew | with_reducible apply bdrewN | with_reducible apply balloc | ((with_reducible refine bset ?_ ?_ _); rotate_left; (first | omega | (simp <;> omega)))))) hcl HOK.out).mono ?_
  rintro e w2 ⟨A', c', n, v, rfl, hlst, ho, hB2⟩
  have D2 := dstep w hB2 (by repeat (first | with_reducible exact D1 | with_reducible apply bdrew | with_reducible apply bdrewN | with_reducible apply balloc | ((with_reducible refine bset ?_ ?_ _); rotate_left; (first | omega | (simp <;> omega)))))
  have d2s := D2.size
  have HLST := Lib.hid hlst
  clear hlst
  go_wp2_with fail
  refine (hittingfault_any _ A ca sets (hL.below (by repeat (first | with_reducible exact D2 | with_reducible apply bdrew | with_reducible apply bdrewN | with_reducible apply balloc | ((with_reducible refine bset ?_ ?_ _); rotate_left; (first | omega | (simp <;> omega)))))) HSL.out hl C cc cs (hC.below (by repeat (first | with_reducible exact D2 | with_reducible apply bdrew | with_reducible apply bdrewN | with_reducible apply balloc | ((with_reducible refine bset ?_ ?_ _); rotate_left; (first | omega | (simp <;> omega)))))) hcl).mono ?_
  rintro e w3 ⟨he, hB3⟩
  rw [hf1, hf2] at he
  subst he
  have D3 := dstep w hB3 (by repeat (first | with_reducible exact D2 | with_reducible apply bdrew | with_reducible apply bdrewN | with_reducible apply balloc | ((with_reducible refine bset ?_ ?_ _); rotate_left; (first | omega | (simp <;> omega)))))
  have d3s := D3.size
  have Ew2_3 := dstep w2 hB3 (by repeat (first | with_reducible exact Below.refl _ _ | with_reducible apply bdrew | with_reducible apply bdrewN | with_reducible apply balloc | ((with_reducible refine bset ?_ ?_ _); rotate_left; (first | omega | (simp <;> omega)))))
  have C3 := Cls.below (l := [(w2.heap.size, 0, .int .i64 0), (w2.heap.size, 1, .int .i64 0)]) hB3 (by simp [Cls, go_sem])
  have F3 := C3
  simp only [Cls, and_true] at F3
  have y3w20 : w2.heap.size < w3.heap.size := C3.blk (b := w2.heap.size) (k := 0) (v := .int .i64 0) (by simp)
  have y3w2p1 : w2.heap.size < w3.heap.size + 1 := (by omega)
  have y3w2p2 : w2.heap.size < w3.heap.size + 1 + 1 := (by omega)
  go_wp2_with fail
  refine (leasthit_any _ A ca sets (hL.below (by repeat (first | with_reducible exact D3 | with_reducible apply bdrew | with_reducible apply bdrewN | with_reducible apply balloc | ((with_reducible refine bset ?_ ?_ _); rotate_left; (first | omega | (simp <;> omega)))))) C cc cs (hC.below (by repeat (first | with_reducible exact D3 | with_reducible apply bdrew | with_reducible apply bdrewN | with_reducible apply balloc | ((with_reducible refine bset ?_ ?_ _); rotate_left; (first | omega | (simp <;> omega)))))) HOK.out).mono ?_
  rintro e w4 ⟨b4, l4, rfl, hch, hB4⟩
  have D4 := dstep w hB4 (by repeat (first | with_reducible exact D3 | with_reducible apply bdrew | with_reducible apply bdrewN | with_reducible apply balloc | ((with_reducible refine bset ?_ ?_ _); rotate_left; (first | omega | (simp <;> omega)))))
  have d4s := D4.size
  have Ew2_4 := dstep w2 hB4 (by repeat (first | with_reducible exact Ew2_3 | with_reducible apply bdrew | with_reducible apply bdrewN | with_reducible apply balloc | ((with_reducible refine bset ?_ ?_ _); rotate_left; (first | omega | (simp <;> omega)))))
  have C4 := Cls.below (l := [(w2.heap.size, 0, .int .i64 0), (w2.heap.size, 1, .int .i64 0), (w3.heap.size, 0, .int .i64 0), (w3.heap.size, 1, .int .i64 0)]) hB4 (by simp [Cls, go_sem, F3, y3w20, y3w2p1, y3w2p2])
  have F4 := C4
  simp only [Cls, and_true] at F4
  have y4w20 : w2.heap.size < w4.heap.size := C4.blk (b := w2.heap.size) (k := 0) (v := .int .i64 0) (by simp)
  have y4w2p1 : w2.heap.size < w4.heap.size + 1 := (by omega)
  have y4w2p2 : w2.heap.size < w4.heap.size + 1 + 1 := (by omega)
  have y4w30 : w3.heap.size < w4.heap.size := C4.blk (b := w3.heap.size) (k := 0) (v := .int .i64 0) (by simp)
  have y4w3p1 : w3.heap.size < w4.heap.size + 1 := (by omega)
  have y4w3p2 : w3.heap.size < w4.heap.size + 1 + 1 := (by omega)
  obtain ⟨hle1, hle2⟩ := (cho_least HOK.out hch).uniq HLST.out
  have hle3 := hle1.symm
  have hle4 := hle2.symm
  subst hle3
  subst hle4
  clear hle1 hle2
  clear hch
  have HWB := Lib.hid (word_bits HLST.out.is.1)
  have HBS := Lib.hid (bits_set cs.length v)
  obtain ⟨bl, hbl⟩ : ∃ l, Hid (bitsL cs.length v = l) := ⟨_, Lib.hid rfl⟩
  have hbl16 := bitsL_len cs.length v
  rw [hbl.out] at HWB HBS ho hbl16 ⊢
  obtain ⟨A2, c2, e2, -, hI2⟩ := ho.form
  injection e2 with e2 e3 e4
  subst e2
  subst e4
  clear e3 ho
  go_wp2_with fail
  refine (risset_t A' c' bl (cs.length : Int) _ (hI2.below (by repeat (first | with_reducible exact Ew2_4 | with_reducible apply bdrew | with_reducible apply bdrewN | with_reducible apply balloc | ((with_reducible refine bset ?_ ?_ _); rotate_left; (first | omega | (simp <;> omega)))))) (by omega) (by omega) (by omega) HBS.out).mono ?_
  rintro e w5 ⟨rfl, hB5⟩
  have D5 := dstep w hB5 (by repeat (first | with_reducible exact D4 | with_reducible apply bdrew | with_reducible apply bdrewN | with_reducible apply balloc | ((with_reducible refine bset ?_ ?_ _); rotate_left; (first | omega | (simp <;> omega)))))
  have d5s := D5.size
  have Ew2_5 := dstep w2 hB5 (by repeat (first | with_reducible exact Ew2_4 | with_reducible apply bdrew | with_reducible apply bdrewN | with_reducible apply balloc | ((with_reducible refine bset ?_ ?_ _); rotate_left; (first | omega | (simp <;> omega)))))
  have C5 := Cls.below (l := [(w2.heap.size, 0, .int .i64 0), (w2.heap.size, 1, .int .i64 0), (w3.heap.size, 0, .int .i64 0), (w3.heap.size, 1, .int .i64 0)]) hB5 (by simp [Cls, go_sem, F4, y4w20, y4w2p1, y4w2p2, y4w30, y4w3p1, y4w3p2])
  have F5 := C5
  simp only [Cls, and_true] at F5
  have y5w20 : w2.heap.size < w5.heap.size := C5.blk (b := w2.heap.size) (k := 0) (v := .int .i64 0) (by simp)
  have y5w2p1 : w2.heap.size < w5.heap.size + 1 := (by omega)
  have y5w2p2 : w2.heap.size < w5.heap.size + 1 + 1 := (by omega)
  have y5w30 : w3.heap.size < w5.heap.size := C5.blk (b := w3.heap.size) (k := 0) (v := .int .i64 0) (by simp)
  have y5w3p1 : w3.heap.size < w5.heap.size + 1 := (by omega)
  have y5w3p2 : w3.heap.size < w5.heap.size + 1 + 1 := (by omega)
  go_wp2_with fail
  refine (word_any A' c' bl _ (hI2.below (by repeat (first | with_reducible exact Ew2_5 | with_reducible apply bdrew | with_reducible apply bdrewN | with_reducible apply balloc | ((with_reducible refine bset ?_ ?_ _); rotate_left; (first | omega | (simp <;> omega)))))) cs.length HBS.out (by omega)).mono ?_
  rintro e w' ⟨he, rfl⟩
  rw [HWB.out] at he
  subst he
  go_wp2
  go_ret
  exact ⟨by simp, by repeat (first | with_reducible exact D5 | with_reducible apply bdrew | with_reducible apply bdrewN | with_reducible apply balloc | ((with_reducible refine bset ?_ ?_ _); rotate_left; (first | omega | (simp <;> omega))))⟩

theorem walk_hbm (w : World) (A : Option Addr) (ca : Nat) (sets : List (List Int)) (hL : LLR w A sets) (hsl : ∀ s ∈ sets, s.length ≤ 9223372036854775807) (hl : sets.length ≤ 9223372036854775807) (C : Option Addr) (cc : Nat) (cs : List Int) (hC : Ints w C cs) (hcl : cs.length ≤ 9223372036854775807) :
    Calls Try.prog 10 #[.slice A sets.length ca, .slice C cs.length cc] w fun e w' => e = .returned (.bool true) ∧ Below w.heap.size w w' := by
  by_cases h : (hfault sets cs).1 = 0
  · exact walk_hbm_2 w A ca sets hL hsl hl C cc cs hC hcl (hfault_zero.1 h)
  · exact walk_hbm_1 w A ca sets hL hsl hl C cc cs hC hcl _ _ rfl h

namespace hittingBestMatchesSpec
open Go.ChangeShapes Go.WideShapes Go.ChangeAt Go.RowKit

set_option maxRecDepth 100000 in
theorem lifted (os : Os) (started : os.Started) (H : Type) (enc : TypeId × Value → H) :
    ReturnsInHanded {} Try.checked os 10 .any (Rows.hittingBestMatchesSpecSpec.pre6 enc Try.prog Try.f10 Rows.hittingBestMatchesSpecRow.domain false) (Rows.hittingBestMatchesSpecSpec.post enc Try.prog Try.f10 false true false false) := by
  refine returnsInHanded_of_change (C := Try.checked) own_knob started (by kernel_rfl) Try.func10
    (ChangeSpec.witness6 (enc := enc) (C := Try.checked) false ⟨#[], #[.slice none 0 0, .slice none 0 0], []⟩ 8 (by kernel_rfl) (by kernel_rfl) (by kernel_rfl) (by kernel_rfl)) ?_
  intro W base args ds gs before hval0 hW _ hsz
  have hval : ∀ (j : Nat) t v, Try.f10.params[j]? = some t → args[j]? = some v → Value.okWide Try.prog W .any base t v := hval0
  have hpost := fun (W' : World) (hfn : gs = [] → Rows.hittingBestMatchesSpecSpec.fn H (ds ++ gs) = { results := [.lit (.bool true)], args := ds }) (hb : Below W.heap.size W W') => law_post (f := Try.f10) (tb := 4) laid_out_B Try.underlying4 rfl (by kernel_rfl) rfl hfn hW hb
  obtain ⟨p, q, hA0, hV, hpq, hfz, hnd⟩ := hW
  have hA : DataW.TrodAll enc Try.prog W 0 (fun _ => true) true Try.f10.params.toList args.toList ds p := hA0
  rw [Try.params10] at hA hval
  obtain ⟨v0, vs0, d0, ds0, p0, q0, hargs, rfl, hp0, h0, r0⟩ := trodAll_cons hA
  obtain ⟨v1, vs1, d1, ds1, p1, q1, rfl, rfl, hp1, h1, r1⟩ := trodAll_cons r0
  obtain ⟨rfl, rfl, hpn⟩ := trodAll_nil r1
  obtain rfl : args = #[v0, v1] := by cases args; simp_all
  obtain ⟨A, ca, sets, rfl, hLc, hLl, hLn, hL⟩ := open_rowsW (hval 0 27 v0 rfl rfl) h0
  obtain ⟨S, cs, st, rfl, hSc, hSl, hSnn, hS, hSi⟩ := open_intsW (hval 1 22 v1 rfl rfl) h1
  refine (walk_hbm W A ca sets hL.llr hL.lens (Nat.le_trans hLc hLl) S cs st hS (Nat.le_trans hSc hSl)).mono fun e W' ⟨he, hb⟩ => ?_
  subst he
  exact ⟨_, rfl, hpost W' (fun hg => by subst hg; rfl) hb⟩

theorem closed : joinedFacts Try.checked.prog 10 Try.f10 Rows.hittingBestMatchesSpecSpec Rows.hittingBestMatchesSpecRow = true := by
  unfold joinedFacts
  rw [pf_enter, pf_lifts, pf_make]
  kernel_rfl
theorem proved : Rows.HittingBestMatchesSpecSaid :=
  OpenClaim.holds_of_wide 10 Try.f10 rfl rfl rfl rfl rfl rfl rfl ⟨rfl, rfl, rfl, rfl, rfl⟩ rfl rfl rfl rfl rfl (by kernel_rfl) Try.func10 closed
    (of_decide_eq_true (by kernel_rfl)) (by unfold Func.isWrapper; first | (rw [if_pos (by decide +kernel)]; kernel_rfl) | (rw [if_neg (by decide +kernel)]; exact ⟨rfl, rfl⟩))
    (fun os started H enc _ => lifted os started H enc)
#print axioms proved
end hittingBestMatchesSpec

end Go.Proofs.Ytihkgdlanfemcaa
