/-
  The result has an element in common with each set, and its cost is the sum of the costs of its elements.
-/
import Derived.Test.YtihkgdlanfemcaaZ22
import Derived.Test.YtihkgdlanfemcaaZ15
import Derived.Test.YtihkgdlanfemcaaZ23
import Derived.Test.YtihkgdlanfemcaaZ1
import Derived.Test.YtihkgdlanfemcaaZ24
namespace Go.Proofs.Ytihkgdlanfemcaa
open Go.RowKit
set_option linter.unusedVariables false
set_option linter.unusedSimpArgs false

set_option maxRecDepth 100000 in
set_option maxHeartbeats 1000000 in
theorem walk_hhs_1 (w : World) (A : Option Addr) (ca : Nat) (sets : List (List Int)) (hL : LLR w A sets) (hsl : ∀ s ∈ sets, s.length ≤ 9223372036854775807) (hl : sets.length ≤ 9223372036854775807) (C : Option Addr) (cc : Nat) (cs : List Int) (hC : Ints w C cs) (hcl : cs.length ≤ 9223372036854775807) (c j : Int) (hf : hfault sets cs = (c, j)) (hc0 : ¬ c = 0) :
    Calls Try.prog 12 #[.slice A sets.length ca, .slice C cs.length cc] w fun e w' => e = .returned (.bool true) ∧ Below w.heap.size w w' := by
  have HSL := Lib.hid hsl
  have HF := Lib.hid hf
  have N := bb_no hc0
  have N' := bn_yes hc0
  clear hf hsl
  go_enter Try.func12, Try.ntmps12
  go_wp2_with fail
  refine (hexample_any _).mono ?_
  rintro e w1 ⟨rfl, hB1⟩
  have D1 := dstep w hB1 (by repeat (first | with_reducible exact Below.refl _ _ | with_reducible apply bdrew | with_reducible apply bdrewN | with_reducible apply balloc | ((with_reducible refine bset ?_ ?_ _); rotate_left; (first | omega | (simp <;> omega)))))
  have d1s := D1.size
  go_wp2_with fail
  refine (hBest_1 _ A ca sets (hL.below (by repeat (first | with_reducible exact D1 | with_reducible apply bdrew | with_reducible apply bdrewN | with_reducible apply balloc | ((with_reducible refine bset ?_ ?_ _); rotate_left; (first | omega | (simp <;> omega)))))) HSL.out hl C cc cs (hC.below (by repeat (first | with_reducible exact D1 | with_reducible apply bdrew | with_reducible apply bdrewN | with_reducible apply balloc | ((with_reducible refine bset ?_ ?_ _); rotate_left; (first | omega | (simp <;> omega)))))) hcl c j HF.out hc0).mono ?_
  rintro e w2 ⟨rfl, hB2⟩
  have D2 := dstep w hB2 (by repeat (first | with_reducible exact D1 | with_reducible apply bdrew | with_reducible apply bdrewN | with_reducible apply balloc | ((with_reducible refine bset ?_ ?_ _); rotate_left; (first | omega | (simp <;> omega)))))
  have d2s := D2.size
  go_wp2
  go_ret
  exact ⟨by simp, by repeat (first | with_reducible exact D2 | with_reducible apply bdrew | with_reducible apply bdrewN | with_reducible apply balloc | ((with_reducible refine bset ?_ ?_ _); rotate_left; (first | omega | (simp <;> omega))))⟩

set_option maxRecDepth 100000 in
set_option maxHeartbeats 4000000 in
theorem walk_hhs_2 (w : World) (A : Option Addr) (ca : Nat) (sets : List (List Int)) (hL : LLR w A sets) (hsl : ∀ s ∈ sets, s.length ≤ 9223372036854775807) (hl : sets.length ≤ 9223372036854775807) (C : Option Addr) (cc : Nat) (cs : List Int) (hC : Ints w C cs) (hcl : cs.length ≤ 9223372036854775807) (hok : HOk sets cs) :
    Calls Try.prog 12 #[.slice A sets.length ca, .slice C cs.length cc] w fun e w' => e = .returned (.bool true) ∧ Below w.heap.size w w' := by
  have HSL := Lib.hid hsl
  have HOK := Lib.hid hok
  have hc16 := hok.ncosts
  have hs16 := hok.nsets
  have HCI := Lib.hid hok.costs
  clear hok hsl
  go_enter Try.func12, Try.ntmps12
  go_wp2_with fail
  refine (hexample_any _).mono ?_
  rintro e w1 ⟨rfl, hB1⟩
  have D1 := dstep w hB1 (by repeat (first | with_reducible exact Below.refl _ _ | with_reducible apply bdrew | with_reducible apply bdrewN | with_reducible apply balloc | ((with_reducible refine bset ?_ ?_ _); rotate_left; (first | omega | (simp <;> omega)))))
  have d1s := D1.size
  go_wp2_with fail
  refine (hBest_2 _ A ca sets (hL.below (by repeat (first | with_reducible exact D1 | with_reducible apply bdrew | with_reducible apply bdrewN | with_reducible apply balloc | ((with_reducible refine bset ?_ ?_ _); rotate_left; (first | omega | (simp <;> omega)))))) HSL.out hl C cc cs (hC.below (by repeat (first | with_reducible exact D1 | with_reducible apply bdrew | with_reducible apply bdrewN | with_reducible apply balloc | ((with_reducible refine bset ?_ ?_ _); rotate_left; (first | omega | (simp <;> omega)))))) hcl HOK.out).mono ?_
  rintro e w2 ⟨A', c', n, v, rfl, hlst, ho, hB2⟩
  have D2 := dstep w hB2 (by repeat (first | with_reducible exact D1 | with_reducible apply bdrew | with_reducible apply bdrewN | with_reducible apply balloc | ((with_reducible refine bset ?_ ?_ _); rotate_left; (first | omega | (simp <;> omega)))))
  have d2s := D2.size
  have HRG := Lib.hid (show ∀ x ∈ bitsL cs.length v, 0 ≤ x ∧ x < (cs.length : Int) from (bits_set cs.length v).1)
  have HHI := Lib.hid (show ∀ s ∈ sets, ¬ ∀ x ∈ s, ¬ x ∈ bitsL cs.length v from fun s hs h => by
    obtain ⟨x, h1, h2⟩ := (hit_bits hlst.is.1).1 (hlst.is.2 s hs)
    exact h x h1 h2)
  have HSM := Lib.hid (show sumTo cs (bitsL cs.length v) (bitsL cs.length v).length = n by rw [sumTo_all, ← hlst.eq])
  have hbl16 := bitsL_len cs.length v
  obtain ⟨bl, hbl⟩ : ∃ l, Hid (bitsL cs.length v = l) := ⟨_, Lib.hid rfl⟩
  rw [hbl.out] at HRG HHI HSM hbl16 ho ⊢
  obtain ⟨A2, c2, e2, -, hI2⟩ := ho.form
  injection e2 with e2 e3 e4
  subst e2
  subst e4
  clear e3 ho hlst
  go_wp2_with fail
  go_loopw [8, 9] (fun sv x wr => ∃ k : Nat, k ≤ bl.length ∧ x = .int .i64 k ∧ sv = .int .i64 (sumTo cs bl k) ∧ Below w2.heap.size w2 wr ∧ Cls wr [(w2.heap.size, 0, .int .i64 0), (w2.heap.size, 1, .int .i64 0)]) (fun _ x _ => bl.length - (intOf x).toNat)
  case atStart => exact ⟨0, Nat.zero_le _, rfl, by rw [sumTo_zero], (by repeat (first | with_reducible exact Below.refl _ _ | with_reducible apply bdrew | with_reducible apply bdrewN | with_reducible apply balloc | ((with_reducible refine bset ?_ ?_ _); rotate_left; (first | omega | (simp <;> omega))))), (by simp [Cls, go_sem])⟩
  case round =>
    obtain ⟨k, hk, rfl, rfl, hBr, hCr⟩ := hrel
    obtain ⟨w3, rfl⟩ : ∃ wo : World, wo = wr := ⟨_, rfl⟩
    have drs := hBr.size
    have Fr := hCr
    simp only [Cls, and_true] at Fr
    have yrw20 : w2.heap.size < w3.heap.size := hCr.blk (b := w2.heap.size) (k := 0) (v := .int .i64 0) (by simp)
    have yrw2p1 : w2.heap.size < w3.heap.size + 1 := (by omega)
    have yrw2p2 : w2.heap.size < w3.heap.size + 1 + 1 := (by omega)
    have DR := D2.trans (hBr.mono D2.size)
    have hsr := sumTo_rng HCI.out HRG.out k hk
    by_cases hlt : k < bl.length
    · obtain ⟨ad, x, rfl, hx, hxc⟩ := (hI2.below hBr).at_ hlt
      obtain ⟨hx0, hx1⟩ := HRG.out x (List.mem_of_getElem? hx.out)
      have HSU := Lib.hid (sumTo_succ (cs := cs) hx.out)
      obtain ⟨e, rfl⟩ := Int.eq_ofNat_of_zero_le hx0
      have hel : e < cs.length := by omega
      obtain ⟨ad2, c, rfl, hc, hcc⟩ := (hC.below DR).at_ hel
      have hcr := HCI.out c (List.mem_of_getElem? hc.out)
      rw [show valAt cs (e : Int) = c from valAt_of (by simpa using hc.out)] at HSU
      obtain ⟨ss, hss⟩ : ∃ a, Hid (sumTo cs bl k = a) := ⟨_, Lib.hid rfl⟩
      rw [hss.out] at hsr HSU ⊢
      have hle : (0 : Int) ≤ (e : Int) := by omega
      have hle2 : (e : Int) ≤ (cs.length : Int) - 1 := by omega
      go_wp2_with fail
      refine (in_yes _ _ _ _ (by omega) (by omega)).mono ?_
      rintro _ w' ⟨rfl, rfl⟩
      go_wp2_with fail
      go_roundw
      case rel => exact ⟨k + 1, by omega, by go_num, by rw [HSU.out], (by repeat (first | with_reducible exact hBr | with_reducible apply bdrew | with_reducible apply bdrewN | with_reducible apply balloc | ((with_reducible refine bset ?_ ?_ _); rotate_left; (first | omega | (simp <;> omega))))), (Cls.below (w := w3) (by repeat (first | with_reducible exact Below.refl _ _ | with_reducible apply bdrew | with_reducible apply bdrewN | with_reducible apply balloc | ((with_reducible refine bset ?_ ?_ _); rotate_left; (first | omega | (simp <;> omega))))) hCr)⟩
      case measure => simp [intOf]; omega
    · obtain rfl : k = bl.length := by omega
      rw [HSM.out] at hsr ⊢
      go_wp2_with fail
      go_loopw [10] (fun x wr => ∃ k : Nat, k ≤ sets.length ∧ x = .int .i64 k ∧ Below w3.heap.size w3 wr ∧ Cls wr [(w2.heap.size, 0, .int .i64 0), (w2.heap.size, 1, .int .i64 0)]) (fun x _ => sets.length - (intOf x).toNat)
      case atStart => exact ⟨0, Nat.zero_le _, rfl, (by repeat (first | with_reducible exact Below.refl _ _ | with_reducible apply bdrew | with_reducible apply bdrewN | with_reducible apply balloc | ((with_reducible refine bset ?_ ?_ _); rotate_left; (first | omega | (simp <;> omega))))), (by simp [Cls, go_sem, Fr, yrw20, yrw2p1, yrw2p2])⟩
      case round =>
        obtain ⟨k, hk, rfl, hBs, hCs⟩ := hrel
        obtain ⟨w4, rfl⟩ : ∃ wo : World, wo = wr := ⟨_, rfl⟩
        have dss := hBs.size
        have Fs := hCs
        simp only [Cls, and_true] at Fs
        have ysw20 : w2.heap.size < w4.heap.size := hCs.blk (b := w2.heap.size) (k := 0) (v := .int .i64 0) (by simp)
        have ysw2p1 : w2.heap.size < w4.heap.size + 1 := (by omega)
        have ysw2p2 : w2.heap.size < w4.heap.size + 1 + 1 := (by omega)
        have DS := DR.trans (hBs.mono DR.size)
        have DS2 := hBr.trans (hBs.mono hBr.size)
        by_cases hlt : k < sets.length
        · obtain ⟨ad, s, B1, c1, rfl, hs, hsc, hI⟩ := (hL.below DS).at_ hlt
          have hmem := List.mem_of_getElem? hs.out
          have hno : decide (∀ x ∈ s, ¬ x ∈ bl) = false := decide_eq_false (HHI.out s hmem)
          have hsl1 := HSL.out s hmem
          go_wp2_with fail
          refine (disjoint_any _ _ _ _ s bl _ (hI.below (by repeat (first | with_reducible exact Below.refl _ _ | with_reducible apply bdrew | with_reducible apply bdrewN | with_reducible apply balloc | ((with_reducible refine bset ?_ ?_ _); rotate_left; (first | omega | (simp <;> omega)))))) (hI2.below (by repeat (first | with_reducible exact DS2 | with_reducible apply bdrew | with_reducible apply bdrewN | with_reducible apply balloc | ((with_reducible refine bset ?_ ?_ _); rotate_left; (first | omega | (simp <;> omega)))))) hsl1 (by omega)).mono ?_
          rintro _ w' ⟨he, rfl⟩
          rw [hno] at he
          subst he
          go_wp2_with fail
          go_roundw
          case rel => exact ⟨k + 1, by omega, by go_num, (by repeat (first | with_reducible exact hBs | with_reducible apply bdrew | with_reducible apply bdrewN | with_reducible apply balloc | ((with_reducible refine bset ?_ ?_ _); rotate_left; (first | omega | (simp <;> omega))))), (Cls.below (w := w4) (by repeat (first | with_reducible exact Below.refl _ _ | with_reducible apply bdrew | with_reducible apply bdrewN | with_reducible apply balloc | ((with_reducible refine bset ?_ ?_ _); rotate_left; (first | omega | (simp <;> omega))))) hCs)⟩
          case measure => simp [intOf]; omega
        · have hkd : k = sets.length := by omega
          subst hkd
          go_wp2
          go_ret
          exact ⟨by simp, by repeat (first | with_reducible exact DS | with_reducible apply bdrew | with_reducible apply bdrewN | with_reducible apply balloc | ((with_reducible refine bset ?_ ?_ _); rotate_left; (first | omega | (simp <;> omega))))⟩

theorem walk_hhs (w : World) (A : Option Addr) (ca : Nat) (sets : List (List Int)) (hL : LLR w A sets) (hsl : ∀ s ∈ sets, s.length ≤ 9223372036854775807) (hl : sets.length ≤ 9223372036854775807) (C : Option Addr) (cc : Nat) (cs : List Int) (hC : Ints w C cs) (hcl : cs.length ≤ 9223372036854775807) :
    Calls Try.prog 12 #[.slice A sets.length ca, .slice C cs.length cc] w fun e w' => e = .returned (.bool true) ∧ Below w.heap.size w w' := by
  by_cases h : (hfault sets cs).1 = 0
  · exact walk_hhs_2 w A ca sets hL hsl hl C cc cs hC hcl (hfault_zero.1 h)
  · exact walk_hhs_1 w A ca sets hL hsl hl C cc cs hC hcl _ _ rfl h

namespace hittingHits
open Go.ChangeShapes Go.WideShapes Go.ChangeAt Go.RowKit

set_option maxRecDepth 100000 in
theorem lifted (os : Os) (started : os.Started) (H : Type) (enc : TypeId × Value → H) :
    ReturnsInHanded {} Try.checked os 12 .any (Rows.hittingHitsSpec.pre6 enc Try.prog Try.f12 Rows.hittingHitsRow.domain false) (Rows.hittingHitsSpec.post enc Try.prog Try.f12 false true false false) := by
  refine returnsInHanded_of_change (C := Try.checked) own_knob started (by kernel_rfl) Try.func12
    (ChangeSpec.witness6 (enc := enc) (C := Try.checked) false ⟨#[], #[.slice none 0 0, .slice none 0 0], []⟩ 8 (by kernel_rfl) (by kernel_rfl) (by kernel_rfl) (by kernel_rfl)) ?_
  intro W base args ds gs before hval0 hW _ hsz
  have hval : ∀ (j : Nat) t v, Try.f12.params[j]? = some t → args[j]? = some v → Value.okWide Try.prog W .any base t v := hval0
  have hpost := fun (W' : World) (hfn : gs = [] → Rows.hittingHitsSpec.fn H (ds ++ gs) = { results := [.lit (.bool true)], args := ds }) (hb : Below W.heap.size W W') => law_post (f := Try.f12) (tb := 4) laid_out_B Try.underlying4 rfl (by kernel_rfl) rfl hfn hW hb
  obtain ⟨p, q, hA0, hV, hpq, hfz, hnd⟩ := hW
  have hA : DataW.TrodAll enc Try.prog W 0 (fun _ => true) true Try.f12.params.toList args.toList ds p := hA0
  rw [Try.params12] at hA hval
  obtain ⟨v0, vs0, d0, ds0, p0, q0, hargs, rfl, hp0, h0, r0⟩ := trodAll_cons hA
  obtain ⟨v1, vs1, d1, ds1, p1, q1, rfl, rfl, hp1, h1, r1⟩ := trodAll_cons r0
  obtain ⟨rfl, rfl, hpn⟩ := trodAll_nil r1
  obtain rfl : args = #[v0, v1] := by cases args; simp_all
  obtain ⟨A, ca, sets, rfl, hLc, hLl, hLn, hL⟩ := open_rowsW (hval 0 27 v0 rfl rfl) h0
  obtain ⟨S, cs, st, rfl, hSc, hSl, hSnn, hS, hSi⟩ := open_intsW (hval 1 22 v1 rfl rfl) h1
  refine (walk_hhs W A ca sets hL.llr hL.lens (Nat.le_trans hLc hLl) S cs st hS (Nat.le_trans hSc hSl)).mono fun e W' ⟨he, hb⟩ => ?_
  subst he
  exact ⟨_, rfl, hpost W' (fun hg => by subst hg; rfl) hb⟩

theorem closed : joinedFacts Try.checked.prog 12 Try.f12 Rows.hittingHitsSpec Rows.hittingHitsRow = true := by
  unfold joinedFacts
  rw [pf_enter, pf_lifts, pf_make]
  kernel_rfl
theorem proved : Rows.HittingHitsSaid :=
  OpenClaim.holds_of_wide 12 Try.f12 rfl rfl rfl rfl rfl rfl rfl ⟨rfl, rfl, rfl, rfl, rfl⟩ rfl rfl rfl rfl rfl (by kernel_rfl) Try.func12 closed
    (of_decide_eq_true (by kernel_rfl)) (by unfold Func.isWrapper; first | (rw [if_pos (by decide +kernel)]; kernel_rfl) | (rw [if_neg (by decide +kernel)]; exact ⟨rfl, rfl⟩))
    (fun os started H enc _ => lifted os started H enc)
#print axioms proved
end hittingHits

end Go.Proofs.Ytihkgdlanfemcaa
