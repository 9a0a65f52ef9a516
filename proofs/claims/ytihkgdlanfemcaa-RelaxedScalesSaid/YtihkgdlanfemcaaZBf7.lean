/-
  R.BestFrom, cost: what they return.
-/
import Derived.Test.YtihkgdlanfemcaaZBf6
import Derived.Test.YtihkgdlanfemcaaZME
namespace Go.Proofs.Ytihkgdlanfemcaa
open Go.RowKit
set_option linter.unusedVariables false
set_option linter.unusedSimpArgs false

/-- What BestFrom returns. -/
def BestOut (n : Nat) (t : TaskV) (st : List Int) (d : Int) : Prop :=
  (d = -1 ∧ ∃ ls : List (List Int), ls.Nodup ∧ ls.length = 2001 ∧ ∀ l ∈ ls, Rch n t.ops st l) ∨ ∃ ls D, RSt n t.ops st ls ls.length 0 ∧ ls.length ≤ 2000 ∧ DOk n t.ops t.goal ls D ∧ D[0]? = some d
theorem BestOut.low {n : Nat} {t : TaskV} {st : List Int} {d : Int} (h : BestOut n t st d) (h0 : 0 ≤ d) {H : List Int → Int} (hH : HCons n t.ops t.goal H) : H st ≤ d := by
  rcases h with ⟨e, _⟩ | ⟨ls, D, hR, _, hD, hd⟩
  · omega
  · exact hD.st.low H hH 0 st d hR.head hd
theorem BestOut.rng {n : Nat} {t : TaskV} {st : List Int} {d : Int} (h : BestOut n t st d) : -1 ≤ d ∧ d ≤ 1000000000 := by
  rcases h with ⟨e, _⟩ | ⟨ls, D, hR, _, hD, hd⟩
  · omega
  · have := hD.st.all d (List.mem_of_getElem? hd)
    unfold InV at this
    omega
set_option maxRecDepth 100000 in
set_option maxHeartbeats 1000000 in
theorem bestfrom_any (w : World) (t : TaskV) (Ai Ag Ao : Option Addr) (ci cg co : Nat) (hT : TaskMem w Ai Ag Ao t) (S : Option Addr) (cs : Nat) (st : List Int) (hS : Ints w S st) (n : Nat) (hn : t.facts = n) (hv : Valid t) (hst : SetP st (n : Int)) :
    Calls Try.prog 38 #[.agg #[.int .i64 t.facts, .slice Ai t.init.length ci, .slice Ag t.goal.length cg, .slice Ao t.ops.length co], .slice S st.length cs] w fun e w' => ∃ d, e = .returned (.int .i64 d) ∧ BestOut n t st d ∧ Below w.heap.size w w' := by
  have HN := Lib.hid hn
  have HV := Lib.hid hv
  have HST := Lib.hid hst
  have HGO := Lib.hid (goal_in hv hn)
  clear hv hn hst
  go_enter Try.func38, Try.ntmps38
  go_wp2_with fail
  refine (reached_any _ t Ai Ag Ao ci cg co (hT.below (by repeat (first | with_reducible exact Below.refl _ _ | with_reducible apply bdrew | with_reducible apply bdrewN | with_reducible apply balloc | ((with_reducible refine bset ?_ ?_ _); rotate_left; (first | omega | (simp <;> omega)))))) _ _ _ (hS.below (by repeat (first | with_reducible exact Below.refl _ _ | with_reducible apply bdrew | with_reducible apply bdrewN | with_reducible apply balloc | ((with_reducible refine bset ?_ ?_ _); rotate_left; (first | omega | (simp <;> omega)))))) n HN.out HV.out HST.out).mono ?_
  rintro e w1 (⟨A, c, ls, rfl, hR, hll, hLL, hB1⟩ | ⟨rfl, hx, hB1⟩)
  · have D1 := dstep w hB1 (by repeat (first | with_reducible exact Below.refl _ _ | with_reducible apply bdrew | with_reducible apply bdrewN | with_reducible apply balloc | ((with_reducible refine bset ?_ ?_ _); rotate_left; (first | omega | (simp <;> omega)))))
    have C1 := Cls.below (l := [(w.heap.size, 0, .int .i64 t.facts), (w.heap.size, 1, .slice Ai t.init.length ci), (w.heap.size, 2, .slice Ag t.goal.length cg), (w.heap.size, 3, .slice Ao t.ops.length co)]) hB1 (by simp [Cls, go_sem])
    have HR := Lib.hid hR
    clear hR hB1
    have d1s := D1.size
    have F1 := C1
    simp only [Cls, and_true] at F1
    have y1w0 : w.heap.size < w1.heap.size := C1.blk (b := w.heap.size) (k := 0) (v := .int .i64 t.facts) (by simp)
    have y1wp1 : w.heap.size < w1.heap.size + 1 := (by omega)
    have y1wp2 : w.heap.size < w1.heap.size + 1 + 1 := (by omega)
    go_wp2_with fail
    refine (costs_all _ t Ai Ag Ao ci cg co (hT.below (by repeat (first | with_reducible exact D1 | with_reducible apply bdrew | with_reducible apply bdrewN | with_reducible apply balloc | ((with_reducible refine bset ?_ ?_ _); rotate_left; (first | omega | (simp <;> omega)))))) A c ls (hLL.below (by repeat (first | with_reducible exact Below.refl _ _ | with_reducible apply bdrew | with_reducible apply bdrewN | with_reducible apply balloc | ((with_reducible refine bset ?_ ?_ _); rotate_left; (first | omega | (simp <;> omega)))))) hll n HN.out HV.out HGO.out HR.out.set).mono ?_
    rintro e w2 ⟨v2, DD, rfl, ho2, hdok, hB2⟩
    have D2 := dstep w hB2 (by repeat (first | with_reducible exact D1 | with_reducible apply bdrew | with_reducible apply bdrewN | with_reducible apply balloc | ((with_reducible refine bset ?_ ?_ _); rotate_left; (first | omega | (simp <;> omega)))))
    have d2s := D2.size
    have C2 := Cls.below (l := [(w.heap.size, 0, .int .i64 t.facts), (w.heap.size, 1, .slice Ai t.init.length ci), (w.heap.size, 2, .slice Ag t.goal.length cg), (w.heap.size, 3, .slice Ao t.ops.length co)]) hB2 (by simp [Cls, go_sem, F1, y1w0, y1wp1, y1wp2])
    have F2 := C2
    simp only [Cls, and_true] at F2
    have y2w0 : w.heap.size < w2.heap.size := C2.blk (b := w.heap.size) (k := 0) (v := .int .i64 t.facts) (by simp)
    have y2wp1 : w.heap.size < w2.heap.size + 1 := (by omega)
    have y2wp2 : w.heap.size < w2.heap.size + 1 + 1 := (by omega)
    have HDK := Lib.hid hdok
    clear hdok
    have HL0 := Lib.hid (show 0 < ls.length from (List.getElem?_eq_some_iff.1 HR.out.head).1)
    have hl0 : 0 < ls.length := HL0.out
    obtain ⟨A2, c2, rfl, -⟩ := ho2.form_at HDK.out.st.len
    obtain ⟨g2, d, rfl, -, -, hd, hdc, -⟩ := ho2.at_ (k := 0) (by rw [HDK.out.st.len]; exact HL0.out)
    go_wp2
    refine bodyPost_ret (v := .int .i64 d) ?_ rfl ⟨d, rfl, .inr ⟨ls, DD, HR.out, hll, HDK.out, hd.out⟩, by repeat (first | with_reducible exact D2 | with_reducible apply bdrew | with_reducible apply bdrewN | with_reducible apply balloc | ((with_reducible refine bset ?_ ?_ _); rotate_left; (first | omega | (simp <;> omega))))⟩
    simp [results, Try.results38, go_sem]
  · have D1 := dstep w hB1 (by repeat (first | with_reducible exact Below.refl _ _ | with_reducible apply bdrew | with_reducible apply bdrewN | with_reducible apply balloc | ((with_reducible refine bset ?_ ?_ _); rotate_left; (first | omega | (simp <;> omega)))))
    have HX := Lib.hid hx
    clear hx
    go_wp2
    refine bodyPost_ret (v := .int .i64 (-1)) ?_ rfl ⟨-1, rfl, .inl ⟨rfl, HX.out⟩, by repeat (first | with_reducible exact D1 | with_reducible apply bdrew | with_reducible apply bdrewN | with_reducible apply balloc | ((with_reducible refine bset ?_ ?_ _); rotate_left; (first | omega | (simp <;> omega))))⟩
    simp [results, Try.results38, go_sem]

end Go.Proofs.Ytihkgdlanfemcaa
