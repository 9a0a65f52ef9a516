/-
  S.IsCut: what it returns.
-/
import Derived.Test.YthnhhohnjiigcaaLm1
import Derived.Test.YthnhhohnjiigcaaTrel10
import Derived.Test.YthnhhohnjiigcaaTpure
namespace Go.Proofs.Ythnhhohnjiigcaa
open Go.RowKit
set_option linter.unusedVariables false
set_option linter.unusedSimpArgs false

/-- The operators that are no elements of a list. -/
def useOut (l : List Int) (k : Nat) : Bool := !decide ((k : Int) ∈ l)
theorem init3_use {m k : Nat} {l : List Int} {d : Bool} (h : ∀ x ∈ l, 0 ≤ x ∧ x < (m : Int)) (hd : (init3 m l)[k]? = some d) : useOut l k = !d := by
  have hk := (List.getElem?_eq_some_iff.1 hd).1
  rw [init3_len] at hk
  unfold init3 at hd
  rw [init3_get l _ k (fun x hx => (h x hx).1) (by simpa using hk)] at hd
  unfold useOut
  by_cases e : (k : Int) ∈ l
  · rw [if_pos e] at hd; injection hd with hd; subst hd; simp [e]
  · rw [if_neg e] at hd
    simp [hk] at hd
    subst hd; simp [e]
theorem bools_drew0 {w : World} {A : Option Addr} {bs : List Bool} (h : Bools w A bs) : Bools w.drew A bs := h
set_option maxRecDepth 100000 in
set_option maxHeartbeats 2000000 in
theorem iscut_any (w : World) (t : TaskV) (Ai Ag Ao : Option Addr) (ci cg co : Nat) (hT : TaskMem w Ai Ag Ao t) (n : Nat) (hn : t.facts = n) (hn9 : n ≤ 1000000000) (h40 : t.ops.length ≤ 1000000000000) (S : Option Addr) (cs : Nat) (st : List Int) (hS : Ints w S st) (hst : SetP st (n : Int)) (hnil : S = none → st = [] ∧ cs = 0) (hops : ∀ o ∈ t.ops, (∀ p ∈ o.pre, 0 ≤ p ∧ p < (n : Int)) ∧ ∀ p ∈ o.add, 0 ≤ p ∧ p < (n : Int)) (A : Option Addr) (c : Nat) (l : List Int) (hJ : Ints w A l) (hll : l.length ≤ 9223372036854775807) (hl : ∀ x ∈ l, 0 ≤ x ∧ x < (t.ops.length : Int)) :
    Calls Try.prog 28 #[.agg #[.int .i64 t.facts, .slice Ai t.init.length ci, .slice Ag t.goal.length cg, .slice Ao t.ops.length co], .slice S st.length cs, .slice A l.length c] w fun e w' => e = .returned (.bool (!decide (∀ x ∈ t.goal, x ∈ withinV n st t.ops (useOut l)))) ∧ Below w.heap.size w w' := by
  have hlo := hT.lops.le
  have hlg := hT.lgoal.le
  have hmk := make_bools t.ops.length h40
  have HOPS := Lib.hid hops
  have HN := Lib.hid hn
  have HS := Lib.hid hst
  have HNIL := Lib.hid hnil
  have HL := Lib.hid hl
  clear hops hn hst hnil hl
  go_enter Try.func28, Try.ntmps28
  go_wp2_with fail
  go_loopw [8] (fun i wr => ∃ k : Nat, k ≤ l.length ∧ i = .int .i64 k ∧ BArr wr (w.heap.size + 1) (init3 t.ops.length (l.take k)) ∧ Below w.heap.size w wr ∧ Cls wr [(w.heap.size, 0, .int .i64 t.facts), (w.heap.size, 1, .slice Ai t.init.length ci), (w.heap.size, 2, .slice Ag t.goal.length cg), (w.heap.size, 3, .slice Ao t.ops.length co)]) (fun i _ => l.length - (intOf i).toNat)
  case atStart =>
    refine ⟨0, Nat.zero_le _, rfl, ?_, (by repeat (first | with_reducible exact Below.refl _ _ | with_reducible apply bdrew | with_reducible apply bdrewN | with_reducible apply balloc | ((with_reducible refine bset ?_ ?_ _); rotate_left; (first | omega | (simp <;> omega))))), (by simp [Cls, go_sem])⟩
    rw [List.take_zero, init3_nil]
    exact BArr.made _ _ _ (by simp)
  case round =>
    obtain ⟨k, hk, rfl, hA, hBr, hCr⟩ := hrel
    obtain ⟨w1, rfl⟩ : ∃ wo : World, wo = wr := ⟨_, rfl⟩
    have drs := hBr.size
    have Fr := hCr
    simp only [Cls, and_true] at Fr
    have yrw0 : w.heap.size < w1.heap.size := hCr.blk (b := w.heap.size) (k := 0) (v := .int .i64 t.facts) (by simp)
    have yrwp1 : w.heap.size < w1.heap.size + 1 := (by omega)
    have yrwp2 : w.heap.size < w1.heap.size + 1 + 1 := (by omega)
    by_cases hlt : k < l.length
    · obtain ⟨ad, x, rfl, hx, hc⟩ := (hJ.below hBr).at_ hlt
      have hxb := HL.out x (List.mem_of_getElem? hx.out)
      obtain ⟨x0, x1⟩ := hxb
      have hlen := init3_len t.ops.length (l.take k)
      obtain ⟨y, hy, hd, hf⟩ := hA.cell (i := x.toNat) (by rw [hlen]; omega)
      go_wp2
      go_roundw
      case rel =>
        refine ⟨k + 1, by omega, by go_num, ?_, (by repeat (first | with_reducible exact hBr | with_reducible apply bdrew | with_reducible apply bdrewN | with_reducible apply balloc | ((with_reducible refine bset ?_ ?_ _); rotate_left; (first | omega | (simp <;> omega))))), (by simp [Cls, go_sem, Fr, yrw0, yrwp1, yrwp2])⟩
        rw [init3_succ hx.out]
        exact hA.set_ _ _
      case measure => simp [intOf]; omega
    · rw [List.take_of_length_le (by omega)] at hA
      have hwl : (withinV n st t.ops (useOut l)).length ≤ 9223372036854775807 := Nat.le_trans withinV_len (by omega)
      by_cases hg : ∀ x ∈ t.goal, x ∈ withinV n st t.ops (useOut l)
      · have HD := Lib.hid (decide_eq_true hg)
        clear hg
        go_wp2_with fail
        go_region_held3 (fun W => W.cell? ⟨w.heap.size, 0, none⟩ = some (.int .i64 t.facts) ∧ W.cell? ⟨w.heap.size, 1, none⟩ = some (.slice Ai t.init.length ci) ∧ W.cell? ⟨w.heap.size, 2, none⟩ = some (.slice Ag t.goal.length cg) ∧ W.cell? ⟨w.heap.size, 3, none⟩ = some (.slice Ao t.ops.length co)) (first | exact hK | go_keep) (first | (go_at_call 37; refine (within_any _ t Ai Ag Ao ci cg co (hT.below (by repeat (first | with_reducible exact hBr | with_reducible apply bdrew | with_reducible apply bdrewN | with_reducible apply balloc | ((with_reducible refine bset ?_ ?_ _); rotate_left; (first | omega | (simp <;> omega)))))) n HN.out hn9 _ _ _ (hS.below (by repeat (first | with_reducible exact hBr | with_reducible apply bdrew | with_reducible apply bdrewN | with_reducible apply balloc | ((with_reducible refine bset ?_ ?_ _); rotate_left; (first | omega | (simp <;> omega)))))) HS.out HNIL.out HOPS.out _ _ _ (init3 t.ops.length l) (bools_drew0 hA.bools) ⟨init3_len _ _, rfl⟩ (useOut l) (fun k d h => init3_use HL.out h)).mono ?_; rintro e w2 ⟨v2, rfl, ho2, hB2⟩; obtain ⟨A2, c2, rfl, hnil2, hI2⟩ := ho2.form; clear hnil2 ho2; have D2 := dstep w hB2 (by repeat (first | with_reducible exact hBr | with_reducible apply bdrew | with_reducible apply bdrewN | with_reducible apply balloc | ((with_reducible refine bset ?_ ?_ _); rotate_left; (first | omega | (simp <;> omega))))); have C2 := Cls.below (l := [(w.heap.size, 0, .int .i64 t.facts), (w.heap.size, 1, .slice Ai t.init.length ci), (w.heap.size, 2, .slice Ag t.goal.length cg), (w.heap.size, 3, .slice Ao t.ops.length co)]) hB2 (by simp [Cls, go_sem, Fr, yrw0, yrwp1, yrwp2]); have F2 := C2; simp only [Cls, and_true] at F2; have hK : w2.cell? ⟨w.heap.size, 0, none⟩ = some (.int .i64 t.facts) ∧ w2.cell? ⟨w.heap.size, 1, none⟩ = some (.slice Ai t.init.length ci) ∧ w2.cell? ⟨w.heap.size, 2, none⟩ = some (.slice Ag t.goal.length cg) ∧ w2.cell? ⟨w.heap.size, 3, none⟩ = some (.slice Ao t.ops.length co) := (by simp [F2])) | (go_at_call 25; refine (subset_any _ _ _ _ _ _ _ (hT.goal.below D2) hI2 hlg hwl).mono ?_; rintro e w3 ⟨he, hW3⟩; rw [HD.out] at he; subst he; subst hW3))
        go_wp2
        go_ret
        exact ⟨ret_bool (by rw [HD.out]; rfl), D2⟩
      · have HD := Lib.hid (decide_eq_false hg)
        clear hg
        go_wp2_with fail
        go_region_held3 (fun W => W.cell? ⟨w.heap.size, 0, none⟩ = some (.int .i64 t.facts) ∧ W.cell? ⟨w.heap.size, 1, none⟩ = some (.slice Ai t.init.length ci) ∧ W.cell? ⟨w.heap.size, 2, none⟩ = some (.slice Ag t.goal.length cg) ∧ W.cell? ⟨w.heap.size, 3, none⟩ = some (.slice Ao t.ops.length co)) (first | exact hK | go_keep) (first | (go_at_call 37; refine (within_any _ t Ai Ag Ao ci cg co (hT.below (by repeat (first | with_reducible exact hBr | with_reducible apply bdrew | with_reducible apply bdrewN | with_reducible apply balloc | ((with_reducible refine bset ?_ ?_ _); rotate_left; (first | omega | (simp <;> omega)))))) n HN.out hn9 _ _ _ (hS.below (by repeat (first | with_reducible exact hBr | with_reducible apply bdrew | with_reducible apply bdrewN | with_reducible apply balloc | ((with_reducible refine bset ?_ ?_ _); rotate_left; (first | omega | (simp <;> omega)))))) HS.out HNIL.out HOPS.out _ _ _ (init3 t.ops.length l) (bools_drew0 hA.bools) ⟨init3_len _ _, rfl⟩ (useOut l) (fun k d h => init3_use HL.out h)).mono ?_; rintro e w2 ⟨v2, rfl, ho2, hB2⟩; obtain ⟨A2, c2, rfl, hnil2, hI2⟩ := ho2.form; clear hnil2 ho2; have D2 := dstep w hB2 (by repeat (first | with_reducible exact hBr | with_reducible apply bdrew | with_reducible apply bdrewN | with_reducible apply balloc | ((with_reducible refine bset ?_ ?_ _); rotate_left; (first | omega | (simp <;> omega))))); have C2 := Cls.below (l := [(w.heap.size, 0, .int .i64 t.facts), (w.heap.size, 1, .slice Ai t.init.length ci), (w.heap.size, 2, .slice Ag t.goal.length cg), (w.heap.size, 3, .slice Ao t.ops.length co)]) hB2 (by simp [Cls, go_sem, Fr, yrw0, yrwp1, yrwp2]); have F2 := C2; simp only [Cls, and_true] at F2; have hK : w2.cell? ⟨w.heap.size, 0, none⟩ = some (.int .i64 t.facts) ∧ w2.cell? ⟨w.heap.size, 1, none⟩ = some (.slice Ai t.init.length ci) ∧ w2.cell? ⟨w.heap.size, 2, none⟩ = some (.slice Ag t.goal.length cg) ∧ w2.cell? ⟨w.heap.size, 3, none⟩ = some (.slice Ao t.ops.length co) := (by simp [F2])) | (go_at_call 25; refine (subset_any _ _ _ _ _ _ _ (hT.goal.below D2) hI2 hlg hwl).mono ?_; rintro e w3 ⟨he, hW3⟩; rw [HD.out] at he; subst he; subst hW3))
        go_wp2
        go_ret
        exact ⟨ret_bool (by rw [HD.out]; rfl), D2⟩


end Go.Proofs.Ythnhhohnjiigcaa
