/-
  relaxplan.levels: what it returns.
-/
import Derived.Test.YtihkgdlanfemcaaLev
import Derived.Test.YtihkgdlanfemcaaMB
import Derived.Test.YtihkgdlanfemcaaME
namespace Go.Proofs.Ytihkgdlanfemcaa
open Go.RowKit
set_option linter.unusedVariables false
set_option linter.unusedSimpArgs false

/-- A function value that answers, in every world that keeps the old memory, whether p holds of a number of the list. -/
def Tests2 (F : FuncId) (q q2 : Value) (xs : List Int) (p : Int → Bool) (w : World) : Prop :=
  ∀ x ∈ xs, ∀ wr : World, Below w.heap.size w wr → Calls Try.prog F #[.int .i64 x, q, q2] wr fun e w' => e = .returned (.bool (p x)) ∧ Below wr.heap.size wr w'
set_option maxHeartbeats 1000000 in
theorem indexfunc2_yes (A : Option Addr) (c : Nat) (xs : List Int) (F : FuncId) (q q2 : Value) (p : Int → Bool) (w : World) (hI : Ints w A xs) (hl : xs.length ≤ 9223372036854775807) (hE : Enters F) (hf : Tests2 F q q2 xs p w) (hp : ∃ x ∈ xs, p x = true) :
    Calls Try.prog 103 #[.slice A xs.length c, .func (.func F) #[] #[q, q2]] w (SomeIdx xs w) := by
  have HP := Lib.hid hp
  have hE' : ∀ (args : Array Value) (w : World), (callFunc F args).run Try.prog w = .ok (.enter F args) w := hE
  clear hp hE
  go_enter Try.func103, Try.ntmps103
  go_wp2
  go_loopw [8] (fun i wr => ∃ k : Nat, k ≤ xs.length ∧ i = .int .i64 k ∧ Hid (∀ x ∈ xs.take k, p x = false) ∧ Below w.heap.size w wr) (fun i _ => xs.length - (intOf i).toNat)
  case atStart => exact ⟨0, Nat.zero_le _, rfl, Lib.hid (by simp), Below.refl _ _⟩
  case round =>
    obtain ⟨k, hk, rfl, hno, hB⟩ := hrel
    by_cases hlt : k < xs.length
    · obtain ⟨ad, x, rfl, hx, hc⟩ := (hI.below hB).at_ hlt
      have hm : x ∈ xs := List.mem_of_getElem? hx.out
      have HM := Lib.hid hm
      clear hm
      by_cases hpx : p x = true
      · go_wp2_with fail
        refine (hf x HM.out _ hB).mono ?_
        rintro e w1 ⟨rfl, hB1⟩
        go_wp2
        go_ret
        exact ⟨k, rfl, hlt, hB.trans (hB1.mono hB.size)⟩
      · have hpx' : p x = false := by simpa using hpx
        have HX := Lib.hid hpx'
        go_wp2_with fail
        refine (hf x HM.out _ hB).mono ?_
        rintro e w1 ⟨he, hB1⟩
        rw [HX.out] at he
        subst he
        have D1 := hB.trans (hB1.mono hB.size)
        go_wp2
        go_roundw
        case rel => exact ⟨k + 1, by omega, by go_num, Lib.hid (forall_take_succ hx.out hno.out HX.out), D1⟩
        case measure => simp [intOf]; omega
    · exfalso
      obtain ⟨x, hx, hpx⟩ := HP.out
      have := forall_take_all hlt hno.out x hx
      rw [hpx] at this
      cases this

set_option maxHeartbeats 1000000 in
theorem indexfunc2_no (A : Option Addr) (c : Nat) (xs : List Int) (F : FuncId) (q q2 : Value) (p : Int → Bool) (w : World) (hI : Ints w A xs) (hl : xs.length ≤ 9223372036854775807) (hE : Enters F) (hf : Tests2 F q q2 xs p w) (hp : ∀ x ∈ xs, p x = false) :
    Calls Try.prog 103 #[.slice A xs.length c, .func (.func F) #[] #[q, q2]] w fun e w' => e = .returned (.int .i64 (-1)) ∧ Below w.heap.size w w' := by
  have HP := Lib.hid hp
  have hE' : ∀ (args : Array Value) (w : World), (callFunc F args).run Try.prog w = .ok (.enter F args) w := hE
  clear hp hE
  go_enter Try.func103, Try.ntmps103
  go_wp2
  go_loopw [8] (fun i wr => ∃ k : Nat, k ≤ xs.length ∧ i = .int .i64 k ∧ Below w.heap.size w wr) (fun i _ => xs.length - (intOf i).toNat)
  case atStart => exact ⟨0, Nat.zero_le _, rfl, Below.refl _ _⟩
  case round =>
    obtain ⟨k, hk, rfl, hB⟩ := hrel
    by_cases hlt : k < xs.length
    · obtain ⟨ad, x, rfl, hx, hc⟩ := (hI.below hB).at_ hlt
      have hm : x ∈ xs := List.mem_of_getElem? hx.out
      have HM := Lib.hid hm
      clear hm
      go_wp2_with fail
      refine (hf x HM.out _ hB).mono ?_
      rintro e w1 ⟨he, hB1⟩
      rw [HP.out x HM.out] at he
      subst he
      have D1 := hB.trans (hB1.mono hB.size)
      go_wp2
      go_roundw
      case rel => exact ⟨k + 1, by omega, by go_num, D1⟩
      case measure => simp [intOf]; omega
    · go_wp2
      go_ret
      exact ⟨rfl, hB⟩

set_option maxHeartbeats 1000000 in
theorem containsfunc2_any (A : Option Addr) (c : Nat) (xs : List Int) (F : FuncId) (q q2 : Value) (p : Int → Bool) (w : World) (hI : Ints w A xs) (hl : xs.length ≤ 9223372036854775807) (hE : Enters F) (hf : Tests2 F q q2 xs p w) :
    Calls Try.prog 70 #[.slice A xs.length c, .func (.func F) #[] #[q, q2]] w fun e w' => e = .returned (.bool (decide (∃ x ∈ xs, p x = true))) ∧ Below w.heap.size w w' := by
  by_cases hp : ∃ x ∈ xs, p x = true
  · rw [decide_eq_true hp]
    have HP := Lib.hid hp
    clear hp
    go_enter Try.func70, Try.ntmps70
    go_wp2_with fail
    refine (indexfunc2_yes A c xs F q q2 p _ hI hl hE hf HP.out).mono ?_
    rintro e w' ⟨k, rfl, hk, hB⟩
    go_wp2
    go_ret
    exact ⟨ret_bool (by simp), hB⟩
  · rw [decide_eq_false hp]
    have HP : Hid (∀ x ∈ xs, p x = false) := Lib.hid (fun x hx => by
      cases h : p x with
      | false => rfl
      | true => exact absurd ⟨x, hx, h⟩ hp)
    clear hp
    go_enter Try.func70, Try.ntmps70
    go_wp2_with fail
    refine (indexfunc2_no A c xs F q q2 p _ hI hl hE hf HP.out).mono ?_
    rintro e w' ⟨rfl, hB⟩
    go_wp2
    go_ret
    exact ⟨rfl, hB⟩


/-! ### The array at first -/
def fillM (k n : Nat) : List Int := List.replicate k (-1) ++ List.replicate (n - k) 0
theorem fillM_len {k n : Nat} (h : k ≤ n) : (fillM k n).length = n := by simp [fillM]; omega
theorem fillM_succ {k n : Nat} (h : k < n) : (fillM k n).set k (-1) = fillM (k + 1) n := by
  unfold fillM
  rw [List.set_append_right _ _ (by simp), List.length_replicate, Nat.sub_self, show n - k = (n - (k + 1)) + 1 by omega, List.replicate_succ, List.set_cons_zero, List.replicate_succ', List.append_assoc]
  rfl
def zeroS (n : Nat) (l : List Int) : List Int := (List.range n).map fun (p : Nat) => if (p : Int) ∈ l then (0 : Int) else -1
theorem zeroS_len (n : Nat) (l : List Int) : (zeroS n l).length = n := by simp [zeroS]
theorem zeroS_nil (n : Nat) : fillM n n = zeroS n [] := by
  unfold fillM zeroS
  apply List.ext_getElem (by simp)
  intro i h1 h2
  simp
theorem zeroS_at {n p : Nat} {l : List Int} (h : p < n) : valAt (zeroS n l) (p : Int) = if (p : Int) ∈ l then 0 else -1 := by
  rw [valAt_getElem (by rw [zeroS_len]; exact h)]; simp [zeroS]
theorem zeroS_succ {n k x : Nat} {l : List Int} (h : l[k]? = some (x : Int)) : (zeroS n (l.take k)).set x 0 = zeroS n (l.take (k + 1)) := by
  apply List.ext_getElem (by simp [zeroS])
  intro i h1 h2
  have e0 : l.take (k + 1) = l.take k ++ [(x : Int)] := by rw [List.take_add_one, h]; rfl
  rw [List.getElem_set]
  by_cases e : x = i
  · subst e; rw [if_pos rfl]; simp [zeroS, e0]
  · rw [if_neg e]
    have : ¬ ((i : Int) = (x : Int)) := by omega
    simp [zeroS, e0, this]
set_option maxRecDepth 100000 in
set_option maxHeartbeats 1000000 in
theorem lvl1_neg (w : World) (ob lb g n p : Nat) (L x : Int) (hp : p < n) (h1 : w.cell? ⟨ob, 0, none⟩ = some (.slice (some ⟨g, 0, none⟩) n n)) (h3 : w.cell? ⟨lb, 0, none⟩ = some (.int .i64 L)) (hx : w.cell? ⟨g, p, none⟩ = some (.int .i64 x)) (h : x < 0) :
    Calls Try.prog 102 #[.int .i64 p, .pointer (some ⟨ob, 0, none⟩), .pointer (some ⟨lb, 0, none⟩)] w fun e w' => e = .returned (.bool true) ∧ Below w.heap.size w w' := by
  have hxd : decide (x < 0) = true := decide_eq_true h
  go_enter Try.func102, Try.ntmps102
  go_wp2_with fail
  go_quiet (fail)
  go_wp2
  go_ret
  exact ⟨rfl, by repeat (first | with_reducible exact Below.refl _ _ | with_reducible apply bdrew | with_reducible apply bdrewN | with_reducible apply balloc | ((with_reducible refine bset ?_ ?_ _); rotate_left; (first | omega | (simp <;> omega))))⟩
set_option maxRecDepth 100000 in
set_option maxHeartbeats 1000000 in
theorem lvl1_ge (w : World) (ob lb g n p : Nat) (L x : Int) (hp : p < n) (h1 : w.cell? ⟨ob, 0, none⟩ = some (.slice (some ⟨g, 0, none⟩) n n)) (h3 : w.cell? ⟨lb, 0, none⟩ = some (.int .i64 L)) (hx : w.cell? ⟨g, p, none⟩ = some (.int .i64 x)) (h : ¬ x < 0) (h2 : x ≥ L) :
    Calls Try.prog 102 #[.int .i64 p, .pointer (some ⟨ob, 0, none⟩), .pointer (some ⟨lb, 0, none⟩)] w fun e w' => e = .returned (.bool true) ∧ Below w.heap.size w w' := by
  have hxd : decide (x < 0) = false := decide_eq_false h
  have hxe : decide (x ≥ L) = true := decide_eq_true h2
  go_enter Try.func102, Try.ntmps102
  go_wp2_with fail
  go_quiet (fail)
  go_wp2
  go_ret
  exact ⟨rfl, by repeat (first | with_reducible exact Below.refl _ _ | with_reducible apply bdrew | with_reducible apply bdrewN | with_reducible apply balloc | ((with_reducible refine bset ?_ ?_ _); rotate_left; (first | omega | (simp <;> omega))))⟩
set_option maxRecDepth 100000 in
set_option maxHeartbeats 1000000 in
theorem lvl1_no (w : World) (ob lb g n p : Nat) (L x : Int) (hp : p < n) (h1 : w.cell? ⟨ob, 0, none⟩ = some (.slice (some ⟨g, 0, none⟩) n n)) (h3 : w.cell? ⟨lb, 0, none⟩ = some (.int .i64 L)) (hx : w.cell? ⟨g, p, none⟩ = some (.int .i64 x)) (h : ¬ x < 0) (h2 : ¬ x ≥ L) :
    Calls Try.prog 102 #[.int .i64 p, .pointer (some ⟨ob, 0, none⟩), .pointer (some ⟨lb, 0, none⟩)] w fun e w' => e = .returned (.bool false) ∧ Below w.heap.size w w' := by
  have hxd : decide (x < 0) = false := decide_eq_false h
  have hxe : decide (x ≥ L) = false := decide_eq_false h2
  go_enter Try.func102, Try.ntmps102
  go_wp2_with fail
  go_quiet (fail)
  go_wp2
  go_ret
  exact ⟨rfl, by repeat (first | with_reducible exact Below.refl _ _ | with_reducible apply bdrew | with_reducible apply bdrewN | with_reducible apply balloc | ((with_reducible refine bset ?_ ?_ _); rotate_left; (first | omega | (simp <;> omega))))⟩
set_option maxRecDepth 100000 in
set_option maxHeartbeats 2000000 in
theorem levels_any (w : World) (t : TaskV) (Ai Ag Ao : Option Addr) (ci cg co : Nat) (hT : TaskMem w Ai Ag Ao t) (S : Option Addr) (cs : Nat) (st : List Int) (hS : Ints w S st) (hls : lenOk st.length) (n : Nat) (hn : t.facts = n) (hv : Valid t) (h2 : SetP st t.facts) :
    Calls Try.prog 69 #[.agg #[.int .i64 t.facts, .slice Ai t.init.length ci, .slice Ag t.goal.length cg, .slice Ao t.ops.length co], .slice S st.length cs] w fun e w' => ∃ g, e = .returned (.slice (some ⟨g, 0, none⟩) n n) ∧ w.heap.size ≤ g ∧ IArr w' g (levV n st t.ops) ∧ Levs n st t.ops (levV n st t.ops) ∧ Below w.heap.size w w' := by
  have hls' := hls.le
  have HN := Lib.hid hn
  have hn24 : n ≤ 24 := by have := hv.f1; omega
  have HST := Lib.hid (show SetP st (n : Int) by rw [← hn]; exact h2)
  have HOPS := Lib.hid (ops_in hv hn)
  have h40 : t.ops.length ≤ 40 := hv.nops
  rw [hn]
  have hmk := make_ints n (by omega)
  clear hv h2 hn
  go_enter Try.func69, Try.ntmps69
  go_wp2_with fail
  go_loopw [19] (fun i wr => ∃ k : Nat, k ≤ n ∧ i = .int .i64 k ∧ IArr wr (w.heap.size + 1) (fillM k n) ∧ Below w.heap.size w wr ∧ Cls wr [(w.heap.size, 0, .int .i64 (n : Int)), (w.heap.size, 1, .slice Ai t.init.length ci), (w.heap.size, 2, .slice Ag t.goal.length cg), (w.heap.size, 3, .slice Ao t.ops.length co), (w.heap.size + 1 + 1, 0, .slice (some ⟨w.heap.size + 1, 0, none⟩) n n)]) (fun i _ => n - (intOf i).toNat)
  case atStart =>
    refine ⟨0, Nat.zero_le _, rfl, ?_, (by repeat (first | with_reducible exact Below.refl _ _ | with_reducible apply bdrew | with_reducible apply bdrewN | with_reducible apply balloc | ((with_reducible refine bset ?_ ?_ _); rotate_left; (first | omega | (simp <;> omega))))), (by simp [Cls, go_sem])⟩
    have h := IArr.made (w.alloc (.cells #[.int .i64 (n : Int), .slice Ai t.init.length ci, .slice Ag t.goal.length cg, .slice Ao t.ops.length co] 25)) n (w.heap.size + 1) (by simp)
    simpa [fillM] using IArr.below h (balloc (Below.refl _ _))
  case round =>
    obtain ⟨k, hk, rfl, hA, hBr, hCr⟩ := hrel
    obtain ⟨w1, rfl⟩ : ∃ wo : World, wo = wr := ⟨_, rfl⟩
    have drs := hBr.size
    have Fr := hCr
    simp only [Cls, and_true] at Fr
    have yrw2 : w.heap.size + 1 + 1 < w1.heap.size := hCr.blk (b := w.heap.size + 1 + 1) (k := 0) (v := .slice (some ⟨w.heap.size + 1, 0, none⟩) n n) (by simp)
    have yrw1 : w.heap.size + 1 < w1.heap.size := (by omega)
    have yrw0 : w.heap.size < w1.heap.size := (by omega)
    have yrwp1 : w.heap.size < w1.heap.size + 1 := (by omega)
    have yrwp2 : w.heap.size < w1.heap.size + 1 + 1 := (by omega)
    by_cases hlt : k < n
    · have hlen := fillM_len hk
      obtain ⟨x, hx, hc, hf⟩ := hA.cell (i := k) (by rw [hlen]; exact hlt)
      go_wp2
      go_roundw
      case rel => exact ⟨k + 1, by omega, by go_num, by rw [← fillM_succ hlt]; exact hA.set_ _ _, (by repeat (first | with_reducible exact hBr | with_reducible apply bdrew | with_reducible apply bdrewN | with_reducible apply balloc | ((with_reducible refine bset ?_ ?_ _); rotate_left; (first | omega | (simp <;> omega))))), (by simp [Cls, go_sem, Fr, yrw2, yrw1, yrw0, yrwp1, yrwp2])⟩
      case measure => simp [intOf]; omega
    · have hke : k = n := by omega
      rw [hke, zeroS_nil] at hA
      clear hke
      go_wp2_with fail
      clear hk hlt
      go_loopw [28] (fun i wr => ∃ k : Nat, k ≤ st.length ∧ i = .int .i64 k ∧ IArr wr (w.heap.size + 1) (zeroS n (st.take k)) ∧ Below w.heap.size w wr ∧ Cls wr [(w.heap.size, 0, .int .i64 (n : Int)), (w.heap.size, 1, .slice Ai t.init.length ci), (w.heap.size, 2, .slice Ag t.goal.length cg), (w.heap.size, 3, .slice Ao t.ops.length co), (w.heap.size + 1 + 1, 0, .slice (some ⟨w.heap.size + 1, 0, none⟩) n n)]) (fun i _ => st.length - (intOf i).toNat)
      case atStart => exact ⟨0, Nat.zero_le _, rfl, hA, (by repeat (first | with_reducible exact hBr | with_reducible apply bdrew | with_reducible apply bdrewN | with_reducible apply balloc | ((with_reducible refine bset ?_ ?_ _); rotate_left; (first | omega | (simp <;> omega))))), (by simp [Cls, go_sem, Fr, yrw2, yrw1, yrw0, yrwp1, yrwp2])⟩
      case round =>
        clear hA
        obtain ⟨k, hk, rfl, hA, hBq, hCq⟩ := hrel
        obtain ⟨w2, rfl⟩ : ∃ wo : World, wo = wr := ⟨_, rfl⟩
        have dqs := hBq.size
        have Fq := hCq
        simp only [Cls, and_true] at Fq
        have yqw2 : w.heap.size + 1 + 1 < w2.heap.size := hCq.blk (b := w.heap.size + 1 + 1) (k := 0) (v := .slice (some ⟨w.heap.size + 1, 0, none⟩) n n) (by simp)
        have yqw1 : w.heap.size + 1 < w2.heap.size := (by omega)
        have yqw0 : w.heap.size < w2.heap.size := (by omega)
        have yqwp1 : w.heap.size < w2.heap.size + 1 := (by omega)
        have yqwp2 : w.heap.size < w2.heap.size + 1 + 1 := (by omega)
        by_cases hlt : k < st.length
        · obtain ⟨sd, x, rfl, hx, hc⟩ := (hS.below hBq).at_ hlt
          obtain ⟨x0, x1⟩ := HST.out.1 x (List.mem_of_getElem? hx.out)
          obtain ⟨x, rfl⟩ := Int.eq_ofNat_of_zero_le x0
          obtain ⟨y, hy, hd, hf⟩ := hA.cell (i := x) (by rw [zeroS_len]; omega)
          go_wp2
          go_roundw
          case rel => exact ⟨k + 1, by omega, by go_num, by rw [← zeroS_succ hx.out]; exact hA.set_ _ _, (by repeat (first | with_reducible exact hBq | with_reducible apply bdrew | with_reducible apply bdrewN | with_reducible apply balloc | ((with_reducible refine bset ?_ ?_ _); rotate_left; (first | omega | (simp <;> omega))))), (by simp [Cls, go_sem, Fq, yqw2, yqw1, yqw0, yqwp1, yqwp2])⟩
          case measure => simp [intOf]; omega
        · rw [List.take_of_length_le (by omega)] at hA
          have HL0 := Lib.hid (LevSt.start (st := st) (ops := t.ops) (zeroS_len n st) (fun p hp => zeroS_at hp))
          go_wp2_with fail
          clear hlt hk
          go_loopg [9] n (fun gk t9 wr => ∃ (L lb : Nat) (V : List Int), Hid (L + gk = n) ∧ t9 = .pointer (some ⟨lb, 0, none⟩) ∧ w.heap.size + 1 + 1 + 1 ≤ lb ∧ IArr wr (w.heap.size + 1) V ∧ Hid (LevSt n st t.ops L 0 0 V) ∧ Below w.heap.size w wr ∧ Cls wr [(w.heap.size, 0, .int .i64 (n : Int)), (w.heap.size, 1, .slice Ai t.init.length ci), (w.heap.size, 2, .slice Ag t.goal.length cg), (w.heap.size, 3, .slice Ao t.ops.length co), (w.heap.size + 1 + 1, 0, .slice (some ⟨w.heap.size + 1, 0, none⟩) n n), (lb, 0, .int .i64 ((L : Int) + 1))])
          case atStart => exact ⟨0, w2.heap.size, _, Lib.hid (by omega), rfl, by omega, hA.below (by repeat (first | with_reducible exact Below.refl _ _ | with_reducible apply bdrew | with_reducible apply bdrewN | with_reducible apply balloc | ((with_reducible refine bset ?_ ?_ _); rotate_left; (first | omega | (simp <;> omega))))), HL0, (by repeat (first | with_reducible exact hBq | with_reducible apply bdrew | with_reducible apply bdrewN | with_reducible apply balloc | ((with_reducible refine bset ?_ ?_ _); rotate_left; (first | omega | (simp <;> omega))))), (by simp [Cls, go_sem, Fq, yqw2, yqw1, yqw0, yqwp1, yqwp2])⟩
          case round =>
            clear hA HL0
            obtain ⟨L, lb, V, hg, rfl, hlb, hA, hL, hBu, hCu⟩ := hrel
            obtain ⟨g3, rfl⟩ : ∃ g : Nat, g = gk := ⟨_, rfl⟩
            obtain ⟨w3, rfl⟩ : ∃ wo : World, wo = wr := ⟨_, rfl⟩
            have dus := hBu.size
            have Fu := hCu
            simp only [Cls, and_true] at Fu
            have yulb0 : lb < w3.heap.size := hCu.blk (b := lb) (k := 0) (v := .int .i64 ((L : Int) + 1)) (by simp)
            have yulbp1 : lb < w3.heap.size + 1 := (by omega)
            have yulbp2 : lb < w3.heap.size + 1 + 1 := (by omega)
            have yuw2 : w.heap.size + 1 + 1 < w3.heap.size := hCu.blk (b := w.heap.size + 1 + 1) (k := 0) (v := .slice (some ⟨w.heap.size + 1, 0, none⟩) n n) (by simp)
            have yuw1 : w.heap.size + 1 < w3.heap.size := (by omega)
            have yuw0 : w.heap.size < w3.heap.size := (by omega)
            have yuwp1 : w.heap.size < w3.heap.size + 1 := (by omega)
            have yuwp2 : w.heap.size < w3.heap.size + 1 + 1 := (by omega)
            by_cases hlt : L < n
            · have hg1 := Lib.hid (show L + 1 + (g3 - 1) = n ∧ g3 - 1 < g3 by have := hg.out; omega)
              have hle : ((L : Int) + 1 ≤ (n : Int)) := by omega
              go_wp2_with fail
              go_loopw [45] (fun i wr => ∃ (k : Nat) (V : List Int), k ≤ t.ops.length ∧ i = .int .i64 k ∧ IArr wr (w.heap.size + 1) V ∧ Hid (LevSt n st t.ops L k 0 V) ∧ Below w.heap.size w wr ∧ Cls wr [(w.heap.size, 0, .int .i64 (n : Int)), (w.heap.size, 1, .slice Ai t.init.length ci), (w.heap.size, 2, .slice Ag t.goal.length cg), (w.heap.size, 3, .slice Ao t.ops.length co), (w.heap.size + 1 + 1, 0, .slice (some ⟨w.heap.size + 1, 0, none⟩) n n), (lb, 0, .int .i64 ((L : Int) + 1))]) (fun i _ => t.ops.length - (intOf i).toNat)
              case atStart => exact ⟨0, V, Nat.zero_le _, rfl, hA, hL, hBu, hCu⟩
              case round =>
                clear hA hL V
                obtain ⟨k, V, hk, rfl, hA, hL, hBv, hCv⟩ := hrel
                obtain ⟨w4, rfl⟩ : ∃ wo : World, wo = wr := ⟨_, rfl⟩
                have dvs := hBv.size
                have Fv := hCv
                simp only [Cls, and_true] at Fv
                have yvlb0 : lb < w4.heap.size := hCv.blk (b := lb) (k := 0) (v := .int .i64 ((L : Int) + 1)) (by simp)
                have yvlbp1 : lb < w4.heap.size + 1 := (by omega)
                have yvlbp2 : lb < w4.heap.size + 1 + 1 := (by omega)
                have yvw2 : w.heap.size + 1 + 1 < w4.heap.size := hCv.blk (b := w.heap.size + 1 + 1) (k := 0) (v := .slice (some ⟨w.heap.size + 1, 0, none⟩) n n) (by simp)
                have yvw1 : w.heap.size + 1 < w4.heap.size := (by omega)
                have yvw0 : w.heap.size < w4.heap.size := (by omega)
                have yvwp1 : w.heap.size < w4.heap.size + 1 := (by omega)
                have yvwp2 : w.heap.size < w4.heap.size + 1 + 1 := (by omega)
                by_cases hlp : k < t.ops.length
                · obtain ⟨ad, o, A0, c0, A1, c1, A2, c2, rfl, ho, hc0, hc1, hc2, hc3, hm⟩ := hT.ops.at2 hBv hlp
                  have hoo := Lib.hid (HOPS.out o (List.mem_of_getElem? ho.out))
                  have hVl := hL.out.len
                  have HT : Hid (Tests2 102 (.pointer (some ⟨w.heap.size + 1 + 1, 0, none⟩)) (.pointer (some ⟨lb, 0, none⟩)) o.pre (fun x => decide (valAt V x < 0 ∨ valAt V x ≥ (L : Int) + 1)) (w4.alloc (.cells #[.slice A0 o.pre.length c0, .slice A1 o.add.length c1, .slice A2 o.del.length c2, .int .i64 o.cost] 61))) := Lib.hid (by
                    intro x hx wr hB
                    obtain ⟨x0, x1⟩ := hoo.out.1 x hx
                    obtain ⟨x, rfl⟩ := Int.eq_ofNat_of_zero_le x0
                    have hB' : Below w4.heap.size w4 wr := (balloc (Below.refl _ _) : Below w4.heap.size w4 (w4.alloc _)).trans (hB.mono (by simp))
                    have hC' := Cls.below (w := w4) hB' hCv
                    simp only [Cls, and_true] at hC'
                    obtain ⟨y, hy, hyc, hyf⟩ := (hA.below hB').cell (i := x) (by rw [hVl]; omega)
                    have hva := show valAt V (x : Int) = y from valAt_of (by simpa using hy.out)
                    have ho1 : wr.cell? ⟨w.heap.size + 1 + 1, 0, none⟩ = some (.slice (some ⟨w.heap.size + 1, 0, none⟩) n n) := by simp [hC']
                    have ho2 : wr.cell? ⟨lb, 0, none⟩ = some (.int .i64 ((L : Int) + 1)) := by simp [hC']
                    dsimp only
                    rw [hva]
                    by_cases e1 : y < 0
                    · rw [decide_eq_true (.inl e1)]; exact lvl1_neg wr _ _ _ n x _ y (by omega) ho1 ho2 hyc e1
                    · by_cases e2 : y ≥ (L : Int) + 1
                      · rw [decide_eq_true (.inr e2)]; exact lvl1_ge wr _ _ _ n x _ y (by omega) ho1 ho2 hyc e1 e2
                      · rw [decide_eq_false (fun h => h.elim e1 e2)]; exact lvl1_no wr _ _ _ n x _ y (by omega) ho1 ho2 hyc e1 e2)
                  have HIF : Hid ((∃ x ∈ o.pre, decide (valAt V x < 0 ∨ valAt V x ≥ (L : Int) + 1) = true) ↔ ¬ ∀ q ∈ o.pre, layP st t.ops L q) := Lib.hid (by
                    have key : ∀ q ∈ o.pre, layP st t.ops L q ↔ ¬ (valAt V q < 0 ∨ valAt V q ≥ (L : Int) + 1) := fun q hq => by
                      obtain ⟨q0, q1⟩ := hoo.out.1 q hq
                      obtain ⟨q, rfl⟩ := Int.eq_ofNat_of_zero_le q0
                      exact hL.out.neg (by omega)
                    constructor
                    · rintro ⟨x, hx, hxd⟩ hall
                      exact (key x hx).1 (hall x hx) (of_decide_eq_true hxd)
                    · intro hno
                      refine Classical.byContradiction fun hne => hno fun q hq => (key q hq).2 fun hb => hne ⟨q, hq, decide_eq_true hb⟩)
                  by_cases hall : ∀ q ∈ o.pre, layP st t.ops L q
                  · have HD := Lib.hid (decide_eq_false (fun h => HIF.out.1 h hall))
                    have HAL := Lib.hid hall
                    clear hall
                    have hla := hm.ladd.le
                    go_wp2_with fail
                    refine (containsfunc2_any _ _ _ 102 (.pointer (some ⟨w.heap.size + 1 + 1, 0, none⟩)) (.pointer (some ⟨lb, 0, none⟩)) (fun x => decide (valAt V x < 0 ∨ valAt V x ≥ (L : Int) + 1)) _ (hm.pre.below (by repeat (first | with_reducible exact hBv | with_reducible apply bdrew | with_reducible apply bdrewN | with_reducible apply balloc | ((with_reducible refine bset ?_ ?_ _); rotate_left; (first | omega | (simp <;> omega)))))) hm.lpre.le (fun args w => by kernel_rfl) HT.out).mono ?_
                    rintro e w5 ⟨he, hB5⟩
                    rw [HD.out] at he
                    subst he
                    have D5 := dstep w hB5 (by repeat (first | with_reducible exact hBv | with_reducible apply bdrew | with_reducible apply bdrewN | with_reducible apply balloc | ((with_reducible refine bset ?_ ?_ _); rotate_left; (first | omega | (simp <;> omega)))))
                    have d5s := D5.size
                    have C5 := Cls.below (l := [(w.heap.size, 0, .int .i64 (n : Int)), (w.heap.size, 1, .slice Ai t.init.length ci), (w.heap.size, 2, .slice Ag t.goal.length cg), (w.heap.size, 3, .slice (some ad) t.ops.length co), (w.heap.size + 1 + 1, 0, .slice (some ⟨w.heap.size + 1, 0, none⟩) n n), (lb, 0, .int .i64 ((L : Int) + 1)), (w4.heap.size, 0, .slice A0 o.pre.length c0), (w4.heap.size, 1, .slice A1 o.add.length c1), (w4.heap.size, 2, .slice A2 o.del.length c2), (w4.heap.size, 3, .int .i64 o.cost)]) hB5 (by simp [Cls, go_sem, Fv, yvlb0, yvlbp1, yvlbp2, yvw2, yvw1, yvw0, yvwp1, yvwp2])
                    have F5 := C5
                    simp only [Cls, and_true] at F5
                    have y5lb0 : lb < w5.heap.size := C5.blk (b := lb) (k := 0) (v := .int .i64 ((L : Int) + 1)) (by simp)
                    have y5lbp1 : lb < w5.heap.size + 1 := (by omega)
                    have y5lbp2 : lb < w5.heap.size + 1 + 1 := (by omega)
                    have y5w2 : w.heap.size + 1 + 1 < w5.heap.size := C5.blk (b := w.heap.size + 1 + 1) (k := 0) (v := .slice (some ⟨w.heap.size + 1, 0, none⟩) n n) (by simp)
                    have y5w1 : w.heap.size + 1 < w5.heap.size := (by omega)
                    have y5w0 : w.heap.size < w5.heap.size := (by omega)
                    have y5wp1 : w.heap.size < w5.heap.size + 1 := (by omega)
                    have y5wp2 : w.heap.size < w5.heap.size + 1 + 1 := (by omega)
                    have y5w40 : w4.heap.size < w5.heap.size := C5.blk (b := w4.heap.size) (k := 0) (v := .slice A0 o.pre.length c0) (by simp)
                    have y5w4p1 : w4.heap.size < w5.heap.size + 1 := (by omega)
                    have y5w4p2 : w4.heap.size < w5.heap.size + 1 + 1 := (by omega)
                    have E5 := dstep w4 hB5 (by repeat (first | with_reducible exact Below.refl _ _ | with_reducible apply bdrew | with_reducible apply bdrewN | with_reducible apply balloc | ((with_reducible refine bset ?_ ?_ _); rotate_left; (first | omega | (simp <;> omega)))))
                    have hA5 := IArr.below hA E5
                    go_wp2_with fail
                    go_loopw [56] (fun i wr => ∃ (j : Nat) (V : List Int), j ≤ o.add.length ∧ i = .int .i64 j ∧ IArr wr (w.heap.size + 1) V ∧ Hid (LevSt n st t.ops L k j V) ∧ Below w.heap.size w wr ∧ Cls wr [(w.heap.size, 0, .int .i64 (n : Int)), (w.heap.size, 1, .slice Ai t.init.length ci), (w.heap.size, 2, .slice Ag t.goal.length cg), (w.heap.size, 3, .slice (some ad) t.ops.length co), (w.heap.size + 1 + 1, 0, .slice (some ⟨w.heap.size + 1, 0, none⟩) n n), (lb, 0, .int .i64 ((L : Int) + 1))]) (fun i _ => o.add.length - (intOf i).toNat)
                    case atStart => exact ⟨0, V, Nat.zero_le _, rfl, hA5, hL, (by repeat (first | with_reducible exact D5 | with_reducible apply bdrew | with_reducible apply bdrewN | with_reducible apply balloc | ((with_reducible refine bset ?_ ?_ _); rotate_left; (first | omega | (simp <;> omega))))), (by simp [Cls, go_sem, F5, y5lb0, y5lbp1, y5lbp2, y5w2, y5w1, y5w0, y5wp1, y5wp2, y5w40, y5w4p1, y5w4p2])⟩
                    case round =>
                      clear hA hA5 hL HT HIF HD hVl V
                      obtain ⟨j, V, hj, rfl, hA, hL, hBs, hCs⟩ := hrel
                      obtain ⟨w6, rfl⟩ : ∃ wo : World, wo = wr := ⟨_, rfl⟩
                      have dss := hBs.size
                      have Fs := hCs
                      simp only [Cls, and_true] at Fs
                      have yslb0 : lb < w6.heap.size := hCs.blk (b := lb) (k := 0) (v := .int .i64 ((L : Int) + 1)) (by simp)
                      have yslbp1 : lb < w6.heap.size + 1 := (by omega)
                      have yslbp2 : lb < w6.heap.size + 1 + 1 := (by omega)
                      have ysw2 : w.heap.size + 1 + 1 < w6.heap.size := hCs.blk (b := w.heap.size + 1 + 1) (k := 0) (v := .slice (some ⟨w.heap.size + 1, 0, none⟩) n n) (by simp)
                      have ysw1 : w.heap.size + 1 < w6.heap.size := (by omega)
                      have ysw0 : w.heap.size < w6.heap.size := (by omega)
                      have yswp1 : w.heap.size < w6.heap.size + 1 := (by omega)
                      have yswp2 : w.heap.size < w6.heap.size + 1 + 1 := (by omega)
                      by_cases hlj : j < o.add.length
                      · obtain ⟨pd, x, rfl, hx, hpc⟩ := (hm.add.below hBs).at_ hlj
                        obtain ⟨x0, x1⟩ := hoo.out.2 x (List.mem_of_getElem? hx.out)
                        obtain ⟨x, rfl⟩ := Int.eq_ofNat_of_zero_le x0
                        have hVl := hL.out.len
                        obtain ⟨y, hy, hyc, hyf⟩ := hA.cell (i := x) (by rw [hVl]; omega)
                        have hva := Lib.hid (show valAt V (x : Int) = y from valAt_of (by simpa using hy.out))
                        by_cases hy0 : y < 0
                        · have HL2 := Lib.hid (hL.out.give ho.out HAL.out hx.out (by omega) (by rw [hva.out]; exact hy0))
                          go_wp2
                          go_roundw
                          case rel => exact ⟨j + 1, _, by omega, by go_num, hA.set_ _ _, HL2, (by repeat (first | with_reducible exact hBs | with_reducible apply bdrew | with_reducible apply bdrewN | with_reducible apply balloc | ((with_reducible refine bset ?_ ?_ _); rotate_left; (first | omega | (simp <;> omega))))), (by simp [Cls, go_sem, Fs, yslb0, yslbp1, yslbp2, ysw2, ysw1, ysw0, yswp1, yswp2])⟩
                          case measure => simp [intOf]; omega
                        · have HL2 := Lib.hid (hL.out.had ho.out HAL.out hx.out (by omega) (by rw [hva.out]; exact hy0))
                          go_wp2
                          go_roundw
                          case rel => exact ⟨j + 1, V, by omega, by go_num, hA, HL2, (by repeat (first | with_reducible exact hBs | with_reducible apply bdrew | with_reducible apply bdrewN | with_reducible apply balloc | ((with_reducible refine bset ?_ ?_ _); rotate_left; (first | omega | (simp <;> omega))))), (by simp [Cls, go_sem, Fs, yslb0, yslbp1, yslbp2, ysw2, ysw1, ysw0, yswp1, yswp2])⟩
                          case measure => simp [intOf]; omega
                      · have HL2 := Lib.hid (hL.out.row ho.out (by omega))
                        go_wp2
                        go_roundw
                        case rel => exact ⟨k + 1, V, by omega, by go_num, hA, HL2, (by repeat (first | with_reducible exact hBs | with_reducible apply bdrew | with_reducible apply bdrewN | with_reducible apply balloc | ((with_reducible refine bset ?_ ?_ _); rotate_left; (first | omega | (simp <;> omega))))), (by simp [Cls, go_sem, Fs, yslb0, yslbp1, yslbp2, ysw2, ysw1, ysw0, yswp1, yswp2])⟩
                        case measure => simp [intOf]; omega
                  · have HD := Lib.hid (decide_eq_true (HIF.out.2 hall))
                    have HL2 := Lib.hid (hL.out.skip ho.out hall)
                    clear hall
                    go_wp2_with fail
                    refine (containsfunc2_any _ _ _ 102 (.pointer (some ⟨w.heap.size + 1 + 1, 0, none⟩)) (.pointer (some ⟨lb, 0, none⟩)) (fun x => decide (valAt V x < 0 ∨ valAt V x ≥ (L : Int) + 1)) _ (hm.pre.below (by repeat (first | with_reducible exact hBv | with_reducible apply bdrew | with_reducible apply bdrewN | with_reducible apply balloc | ((with_reducible refine bset ?_ ?_ _); rotate_left; (first | omega | (simp <;> omega)))))) hm.lpre.le (fun args w => by kernel_rfl) HT.out).mono ?_
                    rintro e w5 ⟨he, hB5⟩
                    rw [HD.out] at he
                    subst he
                    have D5 := dstep w hB5 (by repeat (first | with_reducible exact hBv | with_reducible apply bdrew | with_reducible apply bdrewN | with_reducible apply balloc | ((with_reducible refine bset ?_ ?_ _); rotate_left; (first | omega | (simp <;> omega)))))
                    have d5s := D5.size
                    have C5 := Cls.below (l := [(w.heap.size, 0, .int .i64 (n : Int)), (w.heap.size, 1, .slice Ai t.init.length ci), (w.heap.size, 2, .slice Ag t.goal.length cg), (w.heap.size, 3, .slice (some ad) t.ops.length co), (w.heap.size + 1 + 1, 0, .slice (some ⟨w.heap.size + 1, 0, none⟩) n n), (lb, 0, .int .i64 ((L : Int) + 1)), (w4.heap.size, 0, .slice A0 o.pre.length c0), (w4.heap.size, 1, .slice A1 o.add.length c1), (w4.heap.size, 2, .slice A2 o.del.length c2), (w4.heap.size, 3, .int .i64 o.cost)]) hB5 (by simp [Cls, go_sem, Fv, yvlb0, yvlbp1, yvlbp2, yvw2, yvw1, yvw0, yvwp1, yvwp2])
                    have F5 := C5
                    simp only [Cls, and_true] at F5
                    have y5lb0 : lb < w5.heap.size := C5.blk (b := lb) (k := 0) (v := .int .i64 ((L : Int) + 1)) (by simp)
                    have y5lbp1 : lb < w5.heap.size + 1 := (by omega)
                    have y5lbp2 : lb < w5.heap.size + 1 + 1 := (by omega)
                    have y5w2 : w.heap.size + 1 + 1 < w5.heap.size := C5.blk (b := w.heap.size + 1 + 1) (k := 0) (v := .slice (some ⟨w.heap.size + 1, 0, none⟩) n n) (by simp)
                    have y5w1 : w.heap.size + 1 < w5.heap.size := (by omega)
                    have y5w0 : w.heap.size < w5.heap.size := (by omega)
                    have y5wp1 : w.heap.size < w5.heap.size + 1 := (by omega)
                    have y5wp2 : w.heap.size < w5.heap.size + 1 + 1 := (by omega)
                    have y5w40 : w4.heap.size < w5.heap.size := C5.blk (b := w4.heap.size) (k := 0) (v := .slice A0 o.pre.length c0) (by simp)
                    have y5w4p1 : w4.heap.size < w5.heap.size + 1 := (by omega)
                    have y5w4p2 : w4.heap.size < w5.heap.size + 1 + 1 := (by omega)
                    have E5 := dstep w4 hB5 (by repeat (first | with_reducible exact Below.refl _ _ | with_reducible apply bdrew | with_reducible apply bdrewN | with_reducible apply balloc | ((with_reducible refine bset ?_ ?_ _); rotate_left; (first | omega | (simp <;> omega)))))
                    go_wp2
                    go_roundw
                    case rel => exact ⟨k + 1, V, by omega, by go_num, IArr.below hA E5, HL2, (by repeat (first | with_reducible exact D5 | with_reducible apply bdrew | with_reducible apply bdrewN | with_reducible apply balloc | ((with_reducible refine bset ?_ ?_ _); rotate_left; (first | omega | (simp <;> omega))))), (by simp [Cls, go_sem, F5, y5lb0, y5lbp1, y5lbp2, y5w2, y5w1, y5w0, y5wp1, y5wp2, y5w40, y5w4p1, y5w4p2])⟩
                    case measure => simp [intOf]; omega
                · have hke : k = t.ops.length := by omega
                  have HL2 := Lib.hid (show LevSt n st t.ops (L + 1) 0 0 V from by have h := hL.out; rw [hke] at h; exact h.next)
                  clear hke
                  go_wp2
                  go_roundg (g3 - 1)
                  case measure => exact hg1.out.2
                  case rel => exact ⟨L + 1, w4.heap.size, V, Lib.hid hg1.out.1, rfl, by omega, (by repeat (first | with_reducible exact hA | (with_reducible refine IArr.far ?_ ?_ _; rotate_left; (first | omega | (simp <;> omega))) | with_reducible refine IArr.below ?_ (balloc (Below.refl _ _)))), HL2, (by repeat (first | with_reducible exact hBv | with_reducible apply bdrew | with_reducible apply bdrewN | with_reducible apply balloc | ((with_reducible refine bset ?_ ?_ _); rotate_left; (first | omega | (simp <;> omega))))), (by simp [Cls, go_sem, Fv, yvlb0, yvlbp1, yvlbp2, yvw2, yvw1, yvw0, yvwp1, yvwp2]; try omega)⟩
            · have hle : ¬ ((L : Int) + 1 ≤ (n : Int)) := by omega
              have hLn : L = n := by have := hg.out; omega
              have HLV := Lib.hid (show Levs n st t.ops V from by have h := hL.out; rw [hLn] at h; exact h.levs rfl)
              have HE := Lib.hid HLV.out.eq
              rw [HE.out] at hA HLV
              go_wp2
              refine bodyPost_ret (v := .slice (some ⟨w.heap.size + 1, 0, none⟩) n n) ?_ rfl ⟨_, rfl, by omega, hA, HLV.out, hBu⟩
              simp [results, Try.results69, go_sem, Fu, yulb0, yulbp1, yulbp2, yuw2, yuw1, yuw0, yuwp1, yuwp2]


end Go.Proofs.Ytihkgdlanfemcaa
