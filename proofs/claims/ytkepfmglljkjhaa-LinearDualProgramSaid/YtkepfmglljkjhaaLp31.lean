/-
  A program and its dual program have opposite values, and if one is unbounded, the other one has no point.
-/
import Derived.Test.YtkepfmglljkjhaaTq1
import Derived.Test.YtkepfmglljkjhaaLx1
import Derived.Test.YtkepfmglljkjhaaOlp
import Derived.Test.YtkepfmglljkjhaaBlaw
import Derived.Test.YtkepfmglljkjhaaMA
import Derived.Test.YtkepfmglljkjhaaPfacts
namespace Go.Proofs.Ytkepfmglljkjhaa
open Go.RowKit
set_option linter.unusedVariables false
set_option linter.unusedSimpArgs false

theorem dual_lens (p : LpV) : (dualV p).rows.length = p.obj.length ∧ (dualV p).bounds.length = p.obj.length ∧ (dualV p).obj.length = p.rows.length := by
  unfold dualV
  exact ⟨by simp, tbRow_len _ _, tbRow_len _ _⟩
theorem dual_out {p : LpV} {st num den : Int} (h : LA.Outcome (dualV p).lp st num den) : LA.Outcome p.lp.dual st num den := by
  obtain ⟨h1, h2, h3, h4, h5⟩ := dual_lp p
  exact outcome_congr h1 h2 h3 h4 h5 h
theorem SolOut.opt {P : LA.LP} {num den dx dy dr : Int} {x y r : List Int} (h : SolOut P 1 num den x dx y dy r dr) : SolOpt P num den x dx y dy := by
  rcases h with h | ⟨h, _⟩ | ⟨h, _⟩
  · exact h.2.1
  · omega
  · omega
theorem SolOut.st {P : LA.LP} {st num den dx dy dr : Int} {x y r : List Int} (h : SolOut P st num den x dx y dy r dr) : st = 1 ∨ st = 2 ∨ st = 3 := by
  rcases h with ⟨h, _⟩ | ⟨h, _⟩ | ⟨h, _⟩ <;> omega
set_option maxRecDepth 100000 in
set_option maxHeartbeats 4000000 in
theorem walk_ldp (w : World) (AR AB AO : Option Addr) (cr cb co : Nat) (p : LpV) (hM : LpMem w AR AB AO p) (m mb n : Nat) (hrl : Hid (p.rows.length = m)) (hbl : Hid (p.bounds.length = mb)) (hol : Hid (p.obj.length = n)) :
    Calls Try.prog 5 #[.agg #[.slice AR m cr, .slice AB mb cb, .slice AO n co]] w fun e w' => e = .returned (.bool true) ∧ Below w.heap.size w w' := by
  have HM := Lib.hid hM
  clear hM
  go_enter Try.func5, Try.ntmps5
  go_wp2_with fail
  refine (lnexample_any _).mono ?_
  rintro e w1 ⟨rfl, hB1⟩
  have D1 := dstep w hB1 (by repeat (first | with_reducible exact Below.refl _ _ | with_reducible apply bdrew | with_reducible apply bdrewN | with_reducible apply balloc | ((with_reducible refine bset ?_ ?_ _); rotate_left; (first | omega | (simp <;> omega)))))
  have d1s := D1.size
  have C1 := Cls.below (l := [(w.heap.size, 0, .slice AR m cr), (w.heap.size, 1, .slice AB mb cb), (w.heap.size, 2, .slice AO n co)]) hB1 (by simp [Cls, go_sem])
  have F1 := C1
  simp only [Cls, and_true] at F1
  have y1w0 : w.heap.size < w1.heap.size := C1.blk (b := w.heap.size) (k := 0) (v := .slice AR m cr) (by simp)
  have y1wp1 : w.heap.size < w1.heap.size + 1 := (by omega)
  have y1wp2 : w.heap.size < w1.heap.size + 1 + 1 := (by omega)
  go_wp2_with fail
  refine (solve_any _ AR AB AO cr cb co p (HM.out.below (by repeat (first | with_reducible exact D1 | with_reducible apply bdrew | with_reducible apply bdrewN | with_reducible apply balloc | ((with_reducible refine bset ?_ ?_ _); rotate_left; (first | omega | (simp <;> omega)))))) m mb n hrl hbl hol).mono ?_
  rintro e w2 ⟨c2, c22, st2, num2, den2, dx2, dy2, dr2, Ax2, Ay2, Ar2, lx2, ly2, lr2, xs2, ys2, rs2, rfl, HF2, HL2, HZ2, HS2, HX2, hB2⟩
  have D2 := dstep w hB2 (by repeat (first | with_reducible exact D1 | with_reducible apply bdrew | with_reducible apply bdrewN | with_reducible apply balloc | ((with_reducible refine bset ?_ ?_ _); rotate_left; (first | omega | (simp <;> omega)))))
  have d2s := D2.size
  have C2 := Cls.below (l := [(w.heap.size, 0, .slice AR m cr), (w.heap.size, 1, .slice AB mb cb), (w.heap.size, 2, .slice AO n co)]) hB2 (by simp [Cls, go_sem, F1, y1w0, y1wp1, y1wp2])
  have F2 := C2
  simp only [Cls, and_true] at F2
  have y2w0 : w.heap.size < w2.heap.size := C2.blk (b := w.heap.size) (k := 0) (v := .slice AR m cr) (by simp)
  have y2wp1 : w.heap.size < w2.heap.size + 1 := (by omega)
  have y2wp2 : w.heap.size < w2.heap.size + 1 + 1 := (by omega)
  by_cases hc : c2 = 0
  · subst hc
    have HOK : Hid (LpOk p) := Lib.hid (lpF_zero (by rw [HF2.out]))
    have HSO := Lib.hid (HS2.out rfl)
    clear HS2 HZ2 HF2 HX2 HL2
    have hmb : mb = m := by rw [← hbl.out, ← hrl.out]; exact HOK.out.b
    subst hmb
    have hm6 : mb ≤ 6 := by have := HOK.out.m; rw [hrl.out] at this; exact this
    have hn6 : n ≤ 6 := by have := HOK.out.n; rw [hol.out] at this; exact this
    have HD1 : Hid ((dualV p).rows.length = n) := Lib.hid (by rw [(dual_lens p).1]; exact hol.out)
    have HD2 : Hid ((dualV p).bounds.length = n) := Lib.hid (by rw [(dual_lens p).2.1]; exact hol.out)
    have HD3 : Hid ((dualV p).obj.length = mb) := Lib.hid (by rw [(dual_lens p).2.2]; exact hrl.out)
    go_wp2_with fail
    refine (transposed_any _ AR AB AO cr cb co p (HM.out.below (by repeat (first | with_reducible exact D2 | with_reducible apply bdrew | with_reducible apply bdrewN | with_reducible apply balloc | ((with_reducible refine bset ?_ ?_ _); rotate_left; (first | omega | (simp <;> omega)))))) HOK.out mb n hrl hbl hol hm6 hn6).mono ?_
    rintro e w3 ⟨AX, AY, AZ, cx, cy, cz, rfl, hMd, hB3⟩
    have D3 := dstep w hB3 (by repeat (first | with_reducible exact D2 | with_reducible apply bdrew | with_reducible apply bdrewN | with_reducible apply balloc | ((with_reducible refine bset ?_ ?_ _); rotate_left; (first | omega | (simp <;> omega)))))
    have d3s := D3.size
    have C3 := Cls.below (l := [(w.heap.size, 0, .slice AR mb cr), (w.heap.size, 1, .slice AB mb cb), (w.heap.size, 2, .slice AO n co), (w2.heap.size, 0, .int .i64 st2), (w2.heap.size, 1, .int .i64 num2), (w2.heap.size, 2, .int .i64 den2), (w2.heap.size, 3, .slice Ax2 lx2 lx2), (w2.heap.size, 4, .int .i64 dx2), (w2.heap.size, 5, .slice Ay2 ly2 ly2), (w2.heap.size, 6, .int .i64 dy2), (w2.heap.size, 7, .slice Ar2 lr2 lr2), (w2.heap.size, 8, .int .i64 dr2), (w2.heap.size + 1, 0, .int .i64 0), (w2.heap.size + 1, 1, .int .i64 c22)]) hB3 (by simp [Cls, go_sem, F2, y2w0, y2wp1, y2wp2])
    have F3 := C3
    simp only [Cls, and_true] at F3
    have y3w0 : w.heap.size < w3.heap.size := C3.blk (b := w.heap.size) (k := 0) (v := .slice AR mb cr) (by simp)
    have y3wp1 : w.heap.size < w3.heap.size + 1 := (by omega)
    have y3wp2 : w.heap.size < w3.heap.size + 1 + 1 := (by omega)
    have y3w21 : w2.heap.size + 1 < w3.heap.size := C3.blk (b := w2.heap.size + 1) (k := 0) (v := .int .i64 0) (by simp)
    have y3w20 : w2.heap.size < w3.heap.size := (by omega)
    have y3w2p1 : w2.heap.size < w3.heap.size + 1 := (by omega)
    have y3w2p2 : w2.heap.size < w3.heap.size + 1 + 1 := (by omega)
    have HMD := Lib.hid hMd
    go_wp2_with fail
    refine (solve_any _ AX AY AZ cx cy cz (dualV p) (HMD.out.below (by repeat (first | with_reducible exact Below.refl _ _ | with_reducible apply bdrew | with_reducible apply bdrewN | with_reducible apply balloc | ((with_reducible refine bset ?_ ?_ _); rotate_left; (first | omega | (simp <;> omega)))))) n n mb HD1 HD2 HD3).mono ?_
    rintro e w4 ⟨c4, c42, st4, num4, den4, dx4, dy4, dr4, Ax4, Ay4, Ar4, lx4, ly4, lr4, xs4, ys4, rs4, rfl, HF4, HL4, HZ4, HS4, HX4, hB4⟩
    have D4 := dstep w hB4 (by repeat (first | with_reducible exact D3 | with_reducible apply bdrew | with_reducible apply bdrewN | with_reducible apply balloc | ((with_reducible refine bset ?_ ?_ _); rotate_left; (first | omega | (simp <;> omega)))))
    have d4s := D4.size
    have C4 := Cls.below (l := [(w.heap.size, 0, .slice AR mb cr), (w.heap.size, 1, .slice AB mb cb), (w.heap.size, 2, .slice AO n co), (w2.heap.size, 0, .int .i64 st2), (w2.heap.size, 1, .int .i64 num2), (w2.heap.size, 2, .int .i64 den2), (w2.heap.size, 3, .slice Ax2 lx2 lx2), (w2.heap.size, 4, .int .i64 dx2), (w2.heap.size, 5, .slice Ay2 ly2 ly2), (w2.heap.size, 6, .int .i64 dy2), (w2.heap.size, 7, .slice Ar2 lr2 lr2), (w2.heap.size, 8, .int .i64 dr2), (w2.heap.size + 1, 0, .int .i64 0), (w2.heap.size + 1, 1, .int .i64 c22)]) hB4 (by simp [Cls, go_sem, F3, y3w0, y3wp1, y3wp2, y3w21, y3w20, y3w2p1, y3w2p2])
    have F4 := C4
    simp only [Cls, and_true] at F4
    have y4w0 : w.heap.size < w4.heap.size := C4.blk (b := w.heap.size) (k := 0) (v := .slice AR mb cr) (by simp)
    have y4wp1 : w.heap.size < w4.heap.size + 1 := (by omega)
    have y4wp2 : w.heap.size < w4.heap.size + 1 + 1 := (by omega)
    have y4w21 : w2.heap.size + 1 < w4.heap.size := C4.blk (b := w2.heap.size + 1) (k := 0) (v := .int .i64 0) (by simp)
    have y4w20 : w2.heap.size < w4.heap.size := (by omega)
    have y4w2p1 : w2.heap.size < w4.heap.size + 1 := (by omega)
    have y4w2p2 : w2.heap.size < w4.heap.size + 1 + 1 := (by omega)
    obtain rfl : c4 = 0 := by have h := HF4.out; rw [lpF_ok (dual_okv HOK.out)] at h; injection h with h; exact h.symm
    have HSO4 := Lib.hid (HS4.out rfl)
    have HDO := Lib.hid (LA.dual_outcome HSO.out.out (dual_out HSO4.out.out))
    clear HS4 HZ4 HF4 HX4 HL4
    rcases HSO.out.st with hst | hst | hst
    · subst hst
      have HO2 := Lib.hid HSO.out.opt
      obtain ⟨h41, h42, h43, h44⟩ := HDO.out.1 rfl
      subst h41
      have HO4 := Lib.hid HSO4.out.opt
      obtain ⟨h45, h46⟩ := lowest_uniq (a := num4) (b := den4) (c := -num2) (d := den2) h43 h42 HO4.out.cop (by rw [Int.neg_gcd]; exact HO2.out.cop) (by rw [h44])
      subst h45
      subst h46
      have hnl := HO2.out.nle
      obtain ⟨hnl1, hnl2⟩ := hnl
      clear HSO HSO4 HDO h42 h43 h44
      go_wp2
      refine bodyPost_ret (v := .bool true) ?_ rfl ⟨rfl, by repeat (first | with_reducible exact D4 | with_reducible apply bdrew | with_reducible apply bdrewN | with_reducible apply balloc | ((with_reducible refine bset ?_ ?_ _); rotate_left; (first | omega | (simp <;> omega))))⟩
      simp [results, Try.results5, go_sem, F4, y4w0, y4wp1, y4wp2, y4w21, y4w20, y4w2p1, y4w2p2]
    · subst hst
      have h41 := HDO.out.2.2 rfl
      have h42 : (st4 != 1) = true := by simpa using h41
      have h43 : (st4 == 1) = false := by simpa using h41
      clear HSO HSO4 HDO
      go_wp2
      refine bodyPost_ret (v := .bool true) ?_ rfl ⟨rfl, by repeat (first | with_reducible exact D4 | with_reducible apply bdrew | with_reducible apply bdrewN | with_reducible apply balloc | ((with_reducible refine bset ?_ ?_ _); rotate_left; (first | omega | (simp <;> omega))))⟩
      simp [results, Try.results5, go_sem, F4, y4w0, y4wp1, y4wp2, y4w21, y4w20, y4w2p1, y4w2p2]
    · subst hst
      obtain rfl : st4 = 2 := HDO.out.2.1 rfl
      clear HSO HSO4 HDO
      go_wp2
      refine bodyPost_ret (v := .bool true) ?_ rfl ⟨rfl, by repeat (first | with_reducible exact D4 | with_reducible apply bdrew | with_reducible apply bdrewN | with_reducible apply balloc | ((with_reducible refine bset ?_ ?_ _); rotate_left; (first | omega | (simp <;> omega))))⟩
      simp [results, Try.results5, go_sem, F4, y4w0, y4wp1, y4wp2, y4w21, y4w20, y4w2p1, y4w2p2]
  · obtain ⟨rfl, -⟩ := HZ2.out hc
    have hc1 : (c2 == 0) = false := by simpa using hc
    have hc2 : (c2 != 0) = true := by simpa using hc
    clear HS2 HZ2
    go_wp2
    refine bodyPost_ret (v := .bool true) ?_ rfl ⟨rfl, by repeat (first | with_reducible exact D2 | with_reducible apply bdrew | with_reducible apply bdrewN | with_reducible apply balloc | ((with_reducible refine bset ?_ ?_ _); rotate_left; (first | omega | (simp <;> omega))))⟩
    simp [results, Try.results5, go_sem, F2, y2w0, y2wp1, y2wp2]


namespace linearDualProgram
open Go.ChangeShapes Go.WideShapes Go.ChangeAt Go.RowKit

set_option maxRecDepth 100000 in
theorem lifted (os : Os) (started : os.Started) (H : Type) (enc : TypeId × Value → H) :
    ReturnsInHanded {} Try.checked os 5 .any (Rows.linearDualProgramSpec.pre6 enc Try.prog Try.f5 Rows.linearDualProgramRow.domain false) (Rows.linearDualProgramSpec.post enc Try.prog Try.f5 false true false false) := by
  refine returnsInHanded_of_change (C := Try.checked) own_knob started (by kernel_rfl) Try.func5
    (ChangeSpec.witness6 (enc := enc) (C := Try.checked) false ⟨#[], #[.agg #[.slice none 0 0, .slice none 0 0, .slice none 0 0]], []⟩ 8 (by kernel_rfl) (by kernel_rfl) (by kernel_rfl) (by kernel_rfl)) ?_
  intro W base args ds gs before hval0 hW _ hsz
  have hval : ∀ (j : Nat) t v, Try.f5.params[j]? = some t → args[j]? = some v → Value.okWide Try.prog W .any base t v := hval0
  have hpost := fun (W' : World) (hfn : gs = [] → Rows.linearDualProgramSpec.fn H (ds ++ gs) = { results := [.lit (.bool true)], args := ds }) (hb : Below W.heap.size W W') => law_post (f := Try.f5) (tb := 4) laid_out_B Try.underlying4 rfl (by kernel_rfl) rfl hfn hW hb
  obtain ⟨p, q, hA0, hV, hpq, hfz, hnd⟩ := hW
  have hA : DataW.TrodAll enc Try.prog W 0 (fun _ => true) true Try.f5.params.toList args.toList ds p := hA0
  rw [Try.params5] at hA hval
  obtain ⟨v0, vs0, d0, ds0, p0, q0, hargs, rfl, hp0, h0, r0⟩ := trodAll_cons hA
  obtain ⟨rfl, rfl, hpn⟩ := trodAll_nil r0
  obtain rfl : args = #[v0] := by cases args; simp_all
  obtain ⟨p, AR, AB, AO, cr, cb, co, rfl, hM, hNR, hNB, hNO⟩ := open_lpW (hval 0 25 v0 rfl rfl) h0
  refine (walk_ldp W AR AB AO cr cb co p hM p.rows.length p.bounds.length p.obj.length (Lib.hid rfl) (Lib.hid rfl) (Lib.hid rfl)).mono fun e W' ⟨he, hb⟩ => ?_
  subst he
  exact ⟨_, rfl, hpost W' (fun hg => by subst hg; rfl) hb⟩

theorem closed : joinedFacts Try.checked.prog 5 Try.f5 Rows.linearDualProgramSpec Rows.linearDualProgramRow = true := by
  unfold joinedFacts
  rw [pf_enter, pf_lifts, pf_make]
  kernel_rfl
theorem proved : Rows.LinearDualProgramSaid :=
  OpenClaim.holds_of_wide 5 Try.f5 rfl rfl rfl rfl rfl rfl rfl ⟨rfl, rfl, rfl, rfl, rfl⟩ rfl rfl rfl rfl rfl (by kernel_rfl) Try.func5 closed
    (of_decide_eq_true (by kernel_rfl)) (by unfold Func.isWrapper; first | (rw [if_pos (by decide +kernel)]; kernel_rfl) | (rw [if_neg (by decide +kernel)]; exact ⟨rfl, rfl⟩))
    (fun os started H enc _ => lifted os started H enc)
#print axioms proved
end linearDualProgram

end Go.Proofs.Ytkepfmglljkjhaa
