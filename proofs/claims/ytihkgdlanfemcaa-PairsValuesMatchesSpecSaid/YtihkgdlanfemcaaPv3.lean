/-
  PairValues, the reference's: what it returns.
-/
import Derived.Test.YtihkgdlanfemcaaPv2
import Derived.Test.YtihkgdlanfemcaaMA
import Derived.Test.YtihkgdlanfemcaaMF
import Derived.Test.YtihkgdlanfemcaaLc5
import Derived.Test.YtihkgdlanfemcaaMQ
import Derived.Test.YtihkgdlanfemcaaME
namespace Go.Proofs.Ytihkgdlanfemcaa
open Go.RowKit
set_option linter.unusedVariables false
set_option linter.unusedSimpArgs false

/-- The first j values of a row. -/
noncomputable def rowTo (st : List Int) (n p j : Nat) : List Int := rowV n fun q => if q < (j : Int) then initP st (p : Int) q else 0
theorem rowV_setx {n q : Nat} {f : Int → Int} {x : Int} : (rowV n f).set q x = rowV n fun q' => if q' = (q : Int) then x else f q' := by
  apply List.ext_getElem?
  intro i
  rw [List.getElem?_set]
  by_cases hi : i < n
  · by_cases e : q = i
    · subst e
      rw [if_pos rfl, if_pos (by rw [rowV_len]; exact hi), rowV_get hi, if_pos rfl]
    · rw [if_neg e, rowV_get hi, rowV_get hi, if_neg (by omega)]
  · rw [List.getElem?_eq_none (l := rowV n fun q' => if q' = (q : Int) then x else f q') (by rw [rowV_len]; omega)]
    split
    · rename_i e
      rw [if_neg (by rw [rowV_len]; omega)]
    · rw [List.getElem?_eq_none (by rw [rowV_len]; omega)]
theorem rowTo_zero (st : List Int) (n p : Nat) : List.replicate n 0 = rowTo st n p 0 := by
  apply List.ext_getElem?
  intro i
  unfold rowTo
  by_cases hi : i < n
  · rw [rowV_get hi, if_neg (by omega), List.getElem?_replicate, if_pos hi]
  · rw [List.getElem?_eq_none (by simp; omega), List.getElem?_eq_none (by rw [rowV_len]; omega)]
theorem rowTo_no {st : List Int} {n p j : Nat} (h : initP st (p : Int) (j : Int) = 0) : rowTo st n p (j + 1) = rowTo st n p j := rowV_ext fun q hq => by
  by_cases e : q = j
  · subst e; rw [if_pos (by omega), if_neg (by omega), h]
  · by_cases e2 : q < j
    · rw [if_pos (by omega), if_pos (by omega)]
    · rw [if_neg (by omega), if_neg (by omega)]
theorem rowTo_yes {st : List Int} {n p j : Nat} {x : Int} (h : initP st (p : Int) (j : Int) = x) : (rowTo st n p j).set j x = rowTo st n p (j + 1) := by
  unfold rowTo
  rw [rowV_setx]
  refine rowV_ext fun q hq => ?_
  by_cases e : q = j
  · subst e; rw [if_pos rfl, if_pos (by omega), h]
  · rw [if_neg (by omega)]
    by_cases e2 : q < j
    · rw [if_pos (by omega), if_pos (by omega)]
    · rw [if_neg (by omega), if_neg (by omega)]
theorem rowTo_all {st : List Int} {n p : Nat} : rowTo st n p n = rowV n (initP st (p : Int)) := rowV_ext fun q hq => if_pos (by omega)
theorem rowTo_len (st : List Int) (n p j : Nat) : (rowTo st n p j).length = n := rowV_len _ _
/-- A row while it is worked on: the values before q are done, the value at q by the first j operators. -/
noncomputable def mixV (V : Int → Int → Int) (ops : List OpV) (p q j : Nat) (q' : Int) : Int := if q' < (q : Int) then fullO V ops (p : Int) q' else if q' = (q : Int) then toO V ops (p : Int) (q : Int) j else V (p : Int) q'
theorem mix_start (V : Int → Int → Int) (ops : List OpV) (n p : Nat) : rowV n (V (p : Int)) = rowV n (mixV V ops p 0 0) := rowV_ext fun q hq => by
  unfold mixV
  rw [if_neg (by omega)]
  split
  · rename_i e
    rw [e]; exact (toO_zero _ _ _ _).symm
  · rfl
theorem mix_next {V : Int → Int → Int} {ops : List OpV} {n p q j : Nat} (hj : ops.length ≤ j) : rowV n (mixV V ops p q j) = rowV n (mixV V ops p (q + 1) 0) := rowV_ext fun i hi => by
  unfold mixV
  by_cases h1 : (i : Int) < (q : Int)
  · rw [if_pos h1, if_pos (by omega)]
  · rw [if_neg h1]
    by_cases h2 : (i : Int) = (q : Int)
    · rw [if_pos h2, if_pos (by omega), h2]; exact toO_all hj
    · rw [if_neg h2, if_neg (by omega)]
      split
      · rename_i e
        rw [e]; exact (toO_zero _ _ _ _).symm
      · rfl
theorem mix_end {V : Int → Int → Int} {ops : List OpV} {n p : Nat} : rowV n (mixV V ops p n 0) = rowV n (fullO V ops (p : Int)) := rowV_ext fun i hi => by
  unfold mixV; rw [if_pos (by omega)]
theorem mix_at {V : Int → Int → Int} {ops : List OpV} {n p q j : Nat} (hq : q < n) : (rowV n (mixV V ops p q j))[q]? = some (toO V ops (p : Int) (q : Int) j) := by
  rw [rowV_get hq]; unfold mixV; rw [if_neg (by omega), if_pos rfl]
theorem mix_set {V : Int → Int → Int} {ops : List OpV} {n p q j : Nat} {x : Int} (h : toO V ops (p : Int) (q : Int) (j + 1) = x) : (rowV n (mixV V ops p q j)).set q x = rowV n (mixV V ops p q (j + 1)) := by
  rw [rowV_setx]
  refine rowV_ext fun i hi => ?_
  unfold mixV
  by_cases h2 : (i : Int) = (q : Int)
  · rw [if_pos h2, if_neg (by omega), if_pos h2, h]
  · rw [if_neg h2]
    by_cases h1 : (i : Int) < (q : Int)
    · rw [if_pos h1, if_pos h1]
    · rw [if_neg h1, if_neg h2, if_neg h1, if_neg h2]
theorem mix_same {V : Int → Int → Int} {ops : List OpV} {n p q j : Nat} (h : toO V ops (p : Int) (q : Int) (j + 1) = toO V ops (p : Int) (q : Int) j) : rowV n (mixV V ops p q (j + 1)) = rowV n (mixV V ops p q j) := rowV_ext fun i hi => by
  unfold mixV; rw [h]
/-- The first k rows are as they were. -/
def SameTo (n : Nat) (ops : List OpV) (V : Int → Int → Int) (k : Nat) : Prop := ∀ p : Nat, p < k → rowV n (fullO V ops (p : Int)) = rowV n (V (p : Int))
theorem rowV_eq {n : Nat} {f g : Int → Int} (h : rowV n f = rowV n g) {q : Int} (hq : Rng n q) : f q = g q := by
  have e : ((q.toNat : Nat) : Int) = q := by have := hq.1; omega
  have h1 : (rowV n f)[q.toNat]? = (rowV n g)[q.toNat]? := by rw [h]
  have hlt : q.toNat < n := by have h1 := hq.1; have h2 := hq.2; omega
  rw [rowV_get hlt, rowV_get hlt, e] at h1
  injection h1
theorem same_best {n : Nat} {st : List Int} {ops : List OpV} {V : Int → Int → Int} (h : RAb n st ops V) (hops : OpsIn n ops) (hs : SameTo n ops V n) : PBest n st ops V := h.best hops fun p q hp hq => by
  have e : ((p.toNat : Nat) : Int) = p := by have := hp.1; omega
  have h1 := hs p.toNat (by have h1 := hp.1; have h2 := hp.2; omega)
  rw [e] at h1
  exact rowV_eq h1 hq
theorem same_less {n : Nat} {st : List Int} {ops : List OpV} {V : Int → Int → Int} (h : RAb n st ops V) (hops : OpsIn n ops) (hs : ¬ SameTo n ops V n) : sumT n (fullO V ops) < sumT n V := by
  by_cases hx : ∃ p q, Rng n p ∧ Rng n q ∧ fullO V ops p q ≠ V p q
  · obtain ⟨p, q, hp, hq, hne⟩ := hx
    exact h.less hops hp hq hne
  · exact absurd (show SameTo n ops V n from fun p hp => rowV_ext fun q hq => Decidable.byContradiction fun hne => hx ⟨(p : Int), (q : Int), ⟨by omega, by omega⟩, ⟨by omega, by omega⟩, hne⟩) hs
theorem same_yes {n : Nat} {ops : List OpV} {V : Int → Int → Int} {k : Nat} (h : SameTo n ops V k) (h1 : rowV n (fullO V ops (k : Int)) = rowV n (V (k : Int))) : SameTo n ops V (k + 1) := fun p hp => by
  by_cases e : p = k
  · subst e; exact h1
  · exact h p (by omega)
theorem withV_short {l : List Int} (x : Int) (h : l.length ≤ 100000) : (withV l x).length ≤ 1000000 := by
  unfold withV
  have h1 := (List.takeWhile_prefix (p := fun y => decide (y < x)) (l := l)).length_le
  have h2 := List.length_filter_le (fun y => decide (y ≠ x)) (l.dropWhile (fun y => decide (y < x)))
  have h3 := (List.dropWhile_suffix (p := fun y => decide (y < x)) (l := l)).length_le
  rw [List.length_append, List.length_cons]
  omega
theorem OwnLL.llr {base n c : Nat} {w : World} {A : Option Addr} {rows : List (List Int)} (h : OwnLL base w (.slice A n c) rows) : LLR w A rows := fun i r hr => by
  obtain ⟨g, cs, a, rfl, _, _, ha, hcl, hc, A0, c0, e, hI, _⟩ := OwnEs.at_ h (i := i) (List.getElem?_eq_some_iff.1 hr).1
  have hra : a = r := by have := ha.out; rw [hr] at this; injection this with this; exact this.symm
  subst hra
  subst e
  have hadd : (⟨g, 0, none⟩ : Addr).add i = ⟨g, i * 1, none⟩ := by
    rw [Nat.mul_one]
    unfold Addr.add
    split
    · rename_i hj; rw [hj]
    · simp
  exact ⟨_, A0, c0, rfl, by rw [hadd]; exact hc 0 _ rfl, hI⟩
set_option maxRecDepth 100000 in
set_option maxHeartbeats 4000000 in
theorem rpairs_any (w : World) (t : TaskV) (Ai Ag Ao : Option Addr) (ci cg co : Nat) (hT : TaskMem w Ai Ag Ao t) (S : Option Addr) (cs : Nat) (st : List Int) (hS : Ints w S st) (hls : lenOk st.length) (n : Nat) (hn : n ≤ 24) (hst : ∀ q ∈ st, Rng n q) (hops : OpsIn n t.ops) (hsets : ∀ o ∈ t.ops, SetP o.pre (n : Int)) (hR : OpsRead w Ao t.ops) (h40 : t.ops.length ≤ 40) :
    Calls Try.prog 22 #[.agg #[.int .i64 (n : Int), .slice Ai t.init.length ci, .slice Ag t.goal.length cg, .slice Ao t.ops.length co], .slice S st.length cs] w fun e w' => ∃ V A c, e = .returned (.slice A n c) ∧ LLR w' A (tabR n V) ∧ Hid (PBest n st t.ops V) ∧ Below w.heap.size w w' := by
  have hls' := hls.le
  have hmk := make_ints n (by omega)
  have HST := Lib.hid hst
  have HOPS := Lib.hid hops
  have HSETS := Lib.hid hsets
  clear hst hops hsets
  go_enter Try.func22, Try.ntmps22
  go_wp2_with fail
  go_loopg [5, 6] (n) (fun gk v i wr => ∃ k : Nat, i = .int .i64 k ∧ Hid (k + gk = n) ∧ OwnLL (w.heap.size + 1) wr v ((tabR n (initP st)).take k) ∧ Below w.heap.size w wr ∧ Cls wr [(w.heap.size, 0, .int .i64 (n : Int)), (w.heap.size, 1, .slice Ai t.init.length ci), (w.heap.size, 2, .slice Ag t.goal.length cg), (w.heap.size, 3, .slice Ao t.ops.length co)])
  case atStart => exact ⟨0, rfl, Lib.hid (by omega), by rw [List.take_zero]; exact OwnEs.nil _ _, (by repeat (first | with_reducible exact Below.refl _ _ | with_reducible apply bdrew | with_reducible apply bdrewN | with_reducible apply balloc | ((with_reducible refine bset ?_ ?_ _); rotate_left; (first | omega | (simp <;> omega))))), (by simp [Cls, go_sem])⟩
  case round =>
    obtain ⟨k, rfl, hk, hown, hBr, hCr⟩ := hrel
    obtain ⟨w1, rfl⟩ : ∃ wo : World, wo = wr := ⟨_, rfl⟩
    have drs := hBr.size
    have Fr := hCr
    simp only [Cls, and_true] at Fr
    have yrw0 : w.heap.size < w1.heap.size := hCr.blk (b := w.heap.size) (k := 0) (v := .int .i64 (n : Int)) (by simp)
    have yrwp1 : w.heap.size < w1.heap.size + 1 := (by omega)
    have yrwp2 : w.heap.size < w1.heap.size + 1 + 1 := (by omega)
    by_cases hlt : k < n
    · have hk1 := Lib.hid (show k + 1 + (gk - 1) = n ∧ gk - 1 < gk by have := hk.out; omega)
      obtain ⟨g0, rfl⟩ : ∃ g : Nat, g = gk := ⟨_, rfl⟩
      go_wp2_with fail
      go_loopg [8] (n) (fun gk i wr => ∃ j : Nat, i = .int .i64 j ∧ Hid (j + gk = n) ∧ IArr wr w1.heap.size (rowTo st n k j) ∧ Below w1.heap.size w1 wr ∧ Below w.heap.size w wr ∧ Cls wr [(w.heap.size, 0, .int .i64 (n : Int)), (w.heap.size, 1, .slice Ai t.init.length ci), (w.heap.size, 2, .slice Ag t.goal.length cg), (w.heap.size, 3, .slice Ao t.ops.length co)])
      case atStart => exact ⟨0, rfl, Lib.hid (by omega), by rw [← rowTo_zero]; exact IArr.made _ _ _ (by simp), (by repeat (first | with_reducible exact Below.refl _ _ | with_reducible apply bdrew | with_reducible apply bdrewN | with_reducible apply balloc | ((with_reducible refine bset ?_ ?_ _); rotate_left; (first | omega | (simp <;> omega))))), (by repeat (first | with_reducible exact hBr | with_reducible apply bdrew | with_reducible apply bdrewN | with_reducible apply balloc | ((with_reducible refine bset ?_ ?_ _); rotate_left; (first | omega | (simp <;> omega))))), (by simp [Cls, go_sem, Fr, yrw0, yrwp1, yrwp2])⟩
      case round =>
        obtain ⟨j, rfl, hj, hrow, hBw, hBs, hCs⟩ := hrel
        obtain ⟨w2, rfl⟩ : ∃ wo : World, wo = wr := ⟨_, rfl⟩
        have dss := hBs.size
        have Fs := hCs
        simp only [Cls, and_true] at Fs
        have ysw0 : w.heap.size < w2.heap.size := hCs.blk (b := w.heap.size) (k := 0) (v := .int .i64 (n : Int)) (by simp)
        have yswp1 : w.heap.size < w2.heap.size + 1 := (by omega)
        have yswp2 : w.heap.size < w2.heap.size + 1 + 1 := (by omega)
        by_cases hjl : j < n
        · have hj1 := Lib.hid (show j + 1 + (gk - 1) = n ∧ gk - 1 < gk by have := hj.out; omega)
          have hrl := rowTo_len st n k j
          obtain ⟨y, hy, hcy, hfy⟩ := hrow.cell (i := j) (by rw [hrl]; exact hjl)
          have HROW := Lib.hid hrow
          have hrb := HROW.out.lt
          clear hrow hrl
          by_cases h1 : (k : Int) ∈ st
          · have H1 := Lib.hid h1
            by_cases h2 : (j : Int) ∈ st
            · have H2 := Lib.hid h2
              have HN := Lib.hid (rowTo_no (n := n) (initP_yes h1 h2))
              clear h1 h2
              go_wp2_with fail
              refine (has_yes _ _ _ _ _ (hS.below (by repeat (first | with_reducible exact hBs | with_reducible apply bdrew | with_reducible apply bdrewN | with_reducible apply balloc | ((with_reducible refine bset ?_ ?_ _); rotate_left; (first | omega | (simp <;> omega)))))) hls' H1.out).mono ?_
              rintro e w' ⟨rfl, rfl⟩
              go_wp2_with fail
              refine (has_yes _ _ _ _ _ (hS.below (by repeat (first | with_reducible exact hBs | with_reducible apply bdrew | with_reducible apply bdrewN | with_reducible apply balloc | ((with_reducible refine bset ?_ ?_ _); rotate_left; (first | omega | (simp <;> omega)))))) hls' H2.out).mono ?_
              rintro e w' ⟨rfl, rfl⟩
              go_wp2
              go_roundg (gk - 1)
              case measure => exact hj1.out.2
              case rel => exact ⟨j + 1, by go_num, Lib.hid hj1.out.1, by rw [HN.out]; exact HROW.out, (by repeat (first | with_reducible exact hBw | with_reducible apply bdrew | with_reducible apply bdrewN | with_reducible apply balloc | ((with_reducible refine bset ?_ ?_ _); rotate_left; (first | omega | (simp <;> omega))))), (by repeat (first | with_reducible exact hBs | with_reducible apply bdrew | with_reducible apply bdrewN | with_reducible apply balloc | ((with_reducible refine bset ?_ ?_ _); rotate_left; (first | omega | (simp <;> omega))))), (by simp [Cls, go_sem, Fs, ysw0, yswp1, yswp2])⟩
            · have H2 := Lib.hid h2
              have HN := Lib.hid (rowTo_yes (n := n) (initP_no (st := st) (p := (k : Int)) (q := (j : Int)) (fun h => h2 h.2)))
              clear h1 h2
              go_wp2_with fail
              refine (has_yes _ _ _ _ _ (hS.below (by repeat (first | with_reducible exact hBs | with_reducible apply bdrew | with_reducible apply bdrewN | with_reducible apply balloc | ((with_reducible refine bset ?_ ?_ _); rotate_left; (first | omega | (simp <;> omega)))))) hls' H1.out).mono ?_
              rintro e w' ⟨rfl, rfl⟩
              go_wp2_with fail
              refine (has_no _ _ _ _ _ (hS.below (by repeat (first | with_reducible exact hBs | with_reducible apply bdrew | with_reducible apply bdrewN | with_reducible apply balloc | ((with_reducible refine bset ?_ ?_ _); rotate_left; (first | omega | (simp <;> omega)))))) hls' H2.out).mono ?_
              rintro e w' ⟨rfl, rfl⟩
              go_wp2
              go_roundg (gk - 1)
              case measure => exact hj1.out.2
              case rel => exact ⟨j + 1, by go_num, Lib.hid hj1.out.1, by rw [← HN.out]; exact IArr.set_ HROW.out _ _, (by repeat (first | with_reducible exact hBw | with_reducible apply bdrew | with_reducible apply bdrewN | with_reducible apply balloc | ((with_reducible refine bset ?_ ?_ _); rotate_left; (first | omega | (simp <;> omega))))), (by repeat (first | with_reducible exact hBs | with_reducible apply bdrew | with_reducible apply bdrewN | with_reducible apply balloc | ((with_reducible refine bset ?_ ?_ _); rotate_left; (first | omega | (simp <;> omega))))), (by simp [Cls, go_sem, Fs, ysw0, yswp1, yswp2])⟩
          · have H1 := Lib.hid h1
            have HN := Lib.hid (rowTo_yes (n := n) (initP_no (st := st) (p := (k : Int)) (q := (j : Int)) (fun h => h1 h.1)))
            clear h1
            go_wp2_with fail
            refine (has_no _ _ _ _ _ (hS.below (by repeat (first | with_reducible exact hBs | with_reducible apply bdrew | with_reducible apply bdrewN | with_reducible apply balloc | ((with_reducible refine bset ?_ ?_ _); rotate_left; (first | omega | (simp <;> omega)))))) hls' H1.out).mono ?_
            rintro e w' ⟨rfl, rfl⟩
            go_wp2
            go_roundg (gk - 1)
            case measure => exact hj1.out.2
            case rel => exact ⟨j + 1, by go_num, Lib.hid hj1.out.1, by rw [← HN.out]; exact IArr.set_ HROW.out _ _, (by repeat (first | with_reducible exact hBw | with_reducible apply bdrew | with_reducible apply bdrewN | with_reducible apply balloc | ((with_reducible refine bset ?_ ?_ _); rotate_left; (first | omega | (simp <;> omega))))), (by repeat (first | with_reducible exact hBs | with_reducible apply bdrew | with_reducible apply bdrewN | with_reducible apply balloc | ((with_reducible refine bset ?_ ?_ _); rotate_left; (first | omega | (simp <;> omega))))), (by simp [Cls, go_sem, Fs, ysw0, yswp1, yswp2])⟩
        · obtain rfl : n = j := by have := hj.out; omega
          rw [rowTo_all] at hrow
          have hownS := hown.below hBw
          have hbw := hBw.size
          have hrowb : ∀ b, u5.ownBlock = some b → b < w1.heap.size := fun b hb => (OwnEs.lt hown b hb).2
          have HY := Lib.hid (plist_of (B := w.heap.size + 1) (row := u5.ownBlock) (IArr.own hrow (rowV_len _ _) (Nat.le_refl _) (by omega)) (by omega) hrowb)
          have hlen : ((tabR n (initP st)).take k).length < 1000000000000 := by rw [List.length_take]; omega
          have HT1 := Lib.hid (tabR_take (V := initP st) hlt)
          clear hrowb hrow
          go_wp2_with (at_builtin; go_must (refine wpList_el (plist_stable _) 27 24 (.slice none 0 0) Try.underlying27 info_list rfl (by decide) (by decide) rfl (.tmp 47) (.tmp 49) rfl w [(w.heap.size, 0, .int .i64 (n : Int)), (w.heap.size, 1, .slice Ai t.init.length ci), (w.heap.size, 2, .slice Ag t.goal.length cg), (w.heap.size, 3, .slice Ao t.ops.length co)] rfl (OwnLL.below hownS ?p1) ⟨w2.heap.size, 0, none⟩ 1 rfl [.slice (some ⟨w1.heap.size, 0, none⟩) n n] (rowV n (initP st (k : Int))) rfl (cells_one ?p2) ?p8 ((plist_stable _).below HY.out ?p9) hlen ?p3 ?p4 ?p5 ?p6 ?p7 ?_; (case p1 => repeat (first | with_reducible exact Below.refl _ _ | with_reducible apply bdrew | with_reducible apply bdrewN | with_reducible apply balloc | ((with_reducible refine bset ?_ ?_ _); rotate_left; (first | omega | (simp <;> omega))))); (case p2 => simp [go_sem]); (case p3 => (simp <;> omega)); (case p4 => omega); (case p5 => repeat (first | with_reducible exact hBs | with_reducible apply bdrew | with_reducible apply bdrewN | with_reducible apply balloc | ((with_reducible refine bset ?_ ?_ _); rotate_left; (first | omega | (simp <;> omega))))); (case p6 => simp [Cls, go_sem, Fs, ysw0, yswp1, yswp2]); (case p7 => (simp <;> omega)); (case p8 => intro u hu; simp at hu; subst hu; rfl); (case p9 => repeat (first | with_reducible exact Below.refl _ _ | with_reducible apply bdrew | with_reducible apply bdrewN | with_reducible apply balloc | ((with_reducible refine bset ?_ ?_ _); rotate_left; (first | omega | (simp <;> omega))))); intro v3 w3 o3 D3 C3 sz3 G3 at3; clear G3 at3; have d3s := D3.size))
          go_roundg (g0 - 1)
          case measure => exact hk1.out.2
          case rel => exact ⟨k + 1, by go_num, Lib.hid hk1.out.1, by rw [← HT1.out]; exact o3, D3, C3⟩
    · rw [List.take_of_length_le (by rw [tabR_len]; omega)] at hown
      obtain ⟨A0, c0, hv0⟩ := OwnEs.form hown
      rw [tabR_len] at hv0
      subst hv0
      have hL0 := OwnLL.llr hown
      clear hown
      go_wp2_with fail
      go_loopg [5] (sumT n (initP st)) (fun gk v wr => ∃ (V : Int → Int → Int) (A : Option Addr) (c : Nat), v = .slice A n c ∧ Hid (gk = sumT n V) ∧ LLR wr A (tabR n V) ∧ Hid (RAb n st t.ops V) ∧ Below w.heap.size w wr ∧ Cls wr [(w.heap.size, 0, .int .i64 (n : Int)), (w.heap.size, 1, .slice Ai t.init.length ci), (w.heap.size, 2, .slice Ag t.goal.length cg), (w.heap.size, 3, .slice Ao t.ops.length co)])
      case atStart => exact ⟨initP st, A0, c0, rfl, Lib.hid rfl, hL0.below (by repeat (first | with_reducible exact Below.refl _ _ | with_reducible apply bdrew | with_reducible apply bdrewN | with_reducible apply balloc | ((with_reducible refine bset ?_ ?_ _); rotate_left; (first | omega | (simp <;> omega))))), Lib.hid (RAb.start n st t.ops), (by repeat (first | with_reducible exact hBr | with_reducible apply bdrew | with_reducible apply bdrewN | with_reducible apply balloc | ((with_reducible refine bset ?_ ?_ _); rotate_left; (first | omega | (simp <;> omega))))), (by simp [Cls, go_sem, Fr, yrw0, yrwp1, yrwp2])⟩
      case round =>
        clear hBr hCr hL0
        obtain ⟨V, A, c, rfl, hgk, hL, hV, hBp, hCp⟩ := hrel
        obtain ⟨g2, rfl⟩ : ∃ g : Nat, g = gk := ⟨_, rfl⟩
        obtain ⟨w2, rfl⟩ : ∃ wo : World, wo = wr := ⟨_, rfl⟩
        have dps := hBp.size
        have Fp := hCp
        simp only [Cls, and_true] at Fp
        have ypw0 : w.heap.size < w2.heap.size := hCp.blk (b := w.heap.size) (k := 0) (v := .int .i64 (n : Int)) (by simp)
        have ypwp1 : w.heap.size < w2.heap.size + 1 := (by omega)
        have ypwp2 : w.heap.size < w2.heap.size + 1 + 1 := (by omega)
        go_wp2_with fail
        go_loopg [9, 10, 11] (n) (fun gk v s i wr => ∃ (k : Nat) (b : Bool), i = .int .i64 k ∧ s = .bool b ∧ Hid (k + gk = n) ∧ OwnLL w2.heap.size wr v ((tabR n (fullO V t.ops)).take k) ∧ Hid (b = true ↔ SameTo n t.ops V k) ∧ Below w2.heap.size w2 wr ∧ Below w.heap.size w wr ∧ Cls wr [(w.heap.size, 0, .int .i64 (n : Int)), (w.heap.size, 1, .slice Ai t.init.length ci), (w.heap.size, 2, .slice Ag t.goal.length cg), (w.heap.size, 3, .slice Ao t.ops.length co)])
        case atStart => exact ⟨0, true, rfl, rfl, Lib.hid (by omega), by rw [List.take_zero]; exact OwnEs.nil _ _, Lib.hid ⟨fun _ p hp => absurd hp (by omega), fun _ => rfl⟩, (by repeat (first | with_reducible exact Below.refl _ _ | with_reducible apply bdrew | with_reducible apply bdrewN | with_reducible apply balloc | ((with_reducible refine bset ?_ ?_ _); rotate_left; (first | omega | (simp <;> omega))))), (by repeat (first | with_reducible exact hBp | with_reducible apply bdrew | with_reducible apply bdrewN | with_reducible apply balloc | ((with_reducible refine bset ?_ ?_ _); rotate_left; (first | omega | (simp <;> omega))))), (by simp [Cls, go_sem, Fp, ypw0, ypwp1, ypwp2])⟩
        case round =>
          obtain ⟨k, b, rfl, rfl, hk, hnx, hsm, hB23, hBq, hCq⟩ := hrel
          obtain ⟨g3, rfl⟩ : ∃ g : Nat, g = gk := ⟨_, rfl⟩
          obtain ⟨w3, rfl⟩ : ∃ wo : World, wo = wr := ⟨_, rfl⟩
          clear hCp
          have dqs := hBq.size
          have Fq := hCq
          simp only [Cls, and_true] at Fq
          have yqw0 : w.heap.size < w3.heap.size := hCq.blk (b := w.heap.size) (k := 0) (v := .int .i64 (n : Int)) (by simp)
          have yqwp1 : w.heap.size < w3.heap.size + 1 := (by omega)
          have yqwp2 : w.heap.size < w3.heap.size + 1 + 1 := (by omega)
          by_cases hlt : k < n
          · have hk1 := Lib.hid (show k + 1 + (g3 - 1) = n ∧ g3 - 1 < g3 by have := hk.out; omega)
            have hkI : (0 : Int) ≤ (k : Int) ∧ (k : Int) < (n : Int) := by omega
            obtain ⟨ad, bd, cr, rfl, hrc, -, hri⟩ := tab_at (hL.below hB23) hkI hkI
            rw [Int.toNat_natCast] at hrc
            have hkI' := Lib.hid hkI
            have hkn := hkI.2
            clear hkI
            go_wp2_with fail
            refine (copy_any _ (some bd) cr n (rowV n (V (k : Int))) (hri.below (by repeat (first | with_reducible exact Below.refl _ _ | with_reducible apply bdrew | with_reducible apply bdrewN | with_reducible apply balloc | ((with_reducible refine bset ?_ ?_ _); rotate_left; (first | omega | (simp <;> omega)))))) (rowV_len _ _) (fun e => by cases e) (by omega)).mono ?_
            rintro e w4 ⟨A4, c4, rfl, ho4, hnil4, hB4⟩
            have D4 := dstep w hB4 (by repeat (first | with_reducible exact hBq | with_reducible apply bdrew | with_reducible apply bdrewN | with_reducible apply balloc | ((with_reducible refine bset ?_ ?_ _); rotate_left; (first | omega | (simp <;> omega)))))
            have d4s := D4.size
            have Ew3_4 := dstep w3 hB4 (by repeat (first | with_reducible exact Below.refl _ _ | with_reducible apply bdrew | with_reducible apply bdrewN | with_reducible apply balloc | ((with_reducible refine bset ?_ ?_ _); rotate_left; (first | omega | (simp <;> omega)))))
            have Ew2_4 := dstep w2 hB4 (by repeat (first | with_reducible exact hB23 | with_reducible apply bdrew | with_reducible apply bdrewN | with_reducible apply balloc | ((with_reducible refine bset ?_ ?_ _); rotate_left; (first | omega | (simp <;> omega)))))
            have C4 := Cls.below (l := [(w.heap.size, 0, .int .i64 (n : Int)), (w.heap.size, 1, .slice Ai t.init.length ci), (w.heap.size, 2, .slice Ag t.goal.length cg), (w.heap.size, 3, .slice Ao t.ops.length co)]) hB4 (by simp [Cls, go_sem, Fq, yqw0, yqwp1, yqwp2])
            have F4 := C4
            simp only [Cls, and_true] at F4
            have y4w0 : w.heap.size < w4.heap.size := C4.blk (b := w.heap.size) (k := 0) (v := .int .i64 (n : Int)) (by simp)
            have y4wp1 : w.heap.size < w4.heap.size + 1 := (by omega)
            have y4wp2 : w.heap.size < w4.heap.size + 1 + 1 := (by omega)
            obtain ⟨g, x0, rfl, hg1, hg2, -, -, -⟩ := ho4.at_ (k := 0) (by rw [rowV_len]; omega)
            rw [mix_start V t.ops n k] at ho4
            clear hnil4 hri hrc
            go_wp2_with fail
            go_loopg [13] (n) (fun gk i wr => ∃ q : Nat, i = .int .i64 q ∧ Hid (q + gk = n) ∧ OwnI w3.heap.size wr (.slice (some ⟨g, 0, none⟩) n c4) (rowV n (mixV V t.ops k q 0)) ∧ Below w3.heap.size w3 wr ∧ g < wr.heap.size ∧ Below w.heap.size w wr ∧ Cls wr [(w.heap.size, 0, .int .i64 (n : Int)), (w.heap.size, 1, .slice Ai t.init.length ci), (w.heap.size, 2, .slice Ag t.goal.length cg), (w.heap.size, 3, .slice Ao t.ops.length co)])
            case atStart => exact ⟨0, rfl, Lib.hid (by omega), ho4.below (by repeat (first | with_reducible exact Below.refl _ _ | with_reducible apply bdrew | with_reducible apply bdrewN | with_reducible apply balloc | ((with_reducible refine bset ?_ ?_ _); rotate_left; (first | omega | (simp <;> omega))))), (by repeat (first | with_reducible exact Ew3_4 | with_reducible apply bdrew | with_reducible apply bdrewN | with_reducible apply balloc | ((with_reducible refine bset ?_ ?_ _); rotate_left; (first | omega | (simp <;> omega))))), hg2, (by repeat (first | with_reducible exact D4 | with_reducible apply bdrew | with_reducible apply bdrewN | with_reducible apply balloc | ((with_reducible refine bset ?_ ?_ _); rotate_left; (first | omega | (simp <;> omega))))), (by simp [Cls, go_sem, F4, y4w0, y4wp1, y4wp2])⟩
            case round =>
              obtain ⟨q, rfl, hq, hrow, hB35, hg5, hBs, hCs⟩ := hrel
              obtain ⟨g5, rfl⟩ : ∃ g : Nat, g = gk := ⟨_, rfl⟩
              obtain ⟨w5, rfl⟩ : ∃ wo : World, wo = wr := ⟨_, rfl⟩
              have dss := hBs.size
              have Fs := hCs
              simp only [Cls, and_true] at Fs
              have ysw0 : w.heap.size < w5.heap.size := hCs.blk (b := w.heap.size) (k := 0) (v := .int .i64 (n : Int)) (by simp)
              have yswp1 : w.heap.size < w5.heap.size + 1 := (by omega)
              have yswp2 : w.heap.size < w5.heap.size + 1 + 1 := (by omega)
              by_cases hql : q < n
              · have hq1 := Lib.hid (show q + 1 + (g5 - 1) = n ∧ g5 - 1 < g5 by have := hq.out; omega)
                go_wp2_with fail
                go_loopg [14] (t.ops.length) (fun gk i wr => ∃ j : Nat, i = .int .i64 j ∧ Hid (j + gk = t.ops.length) ∧ OwnI w3.heap.size wr (.slice (some ⟨g, 0, none⟩) n c4) (rowV n (mixV V t.ops k q j)) ∧ Below w3.heap.size w3 wr ∧ g < wr.heap.size ∧ Below w.heap.size w wr ∧ Cls wr [(w.heap.size, 0, .int .i64 (n : Int)), (w.heap.size, 1, .slice Ai t.init.length ci), (w.heap.size, 2, .slice Ag t.goal.length cg), (w.heap.size, 3, .slice Ao t.ops.length co)])
                case atStart => exact ⟨0, rfl, Lib.hid (by omega), hrow.below (by repeat (first | with_reducible exact Below.refl _ _ | with_reducible apply bdrew | with_reducible apply bdrewN | with_reducible apply balloc | ((with_reducible refine bset ?_ ?_ _); rotate_left; (first | omega | (simp <;> omega))))), (by repeat (first | with_reducible exact hB35 | with_reducible apply bdrew | with_reducible apply bdrewN | with_reducible apply balloc | ((with_reducible refine bset ?_ ?_ _); rotate_left; (first | omega | (simp <;> omega))))), hg5, (by repeat (first | with_reducible exact hBs | with_reducible apply bdrew | with_reducible apply bdrewN | with_reducible apply balloc | ((with_reducible refine bset ?_ ?_ _); rotate_left; (first | omega | (simp <;> omega))))), (by simp [Cls, go_sem, Fs, ysw0, yswp1, yswp2])⟩
                case round =>
                  obtain ⟨j, rfl, hj, hrow6, hB36, hg6, hBt, hCt⟩ := hrel
                  obtain ⟨g6, rfl⟩ : ∃ g : Nat, g = gk := ⟨_, rfl⟩
                  obtain ⟨w6, rfl⟩ : ∃ wo : World, wo = wr := ⟨_, rfl⟩
                  clear hrow hB35 hg5 hBs hCs
                  have dts := hBt.size
                  have Ft := hCt
                  simp only [Cls, and_true] at Ft
                  have ytw0 : w.heap.size < w6.heap.size := hCt.blk (b := w.heap.size) (k := 0) (v := .int .i64 (n : Int)) (by simp)
                  have ytwp1 : w.heap.size < w6.heap.size + 1 := (by omega)
                  have ytwp2 : w.heap.size < w6.heap.size + 1 + 1 := (by omega)
                  by_cases hjl : j < t.ops.length
                  · obtain ⟨ao, o, B0, d0, B1, d1, B2, d2, rfl, ho, hc0, hc1, hc2, hc3, hm, hnp⟩ := hR.at3 hBt hjl
                    have HMO := Lib.hid (List.mem_of_getElem? ho.out)
                    have hoo := Lib.hid (HOPS.out o HMO.out)
                    have HSP := Lib.hid (HSETS.out o HMO.out)
                    have hla := hm.ladd.le
                    have hld := hm.ldel.le
                    have hlp : o.pre.length ≤ 100000 := by have := HSP.out.length (by omega); omega
                    have hj1 := Lib.hid (show j + 1 + (g6 - 1) = t.ops.length ∧ g6 - 1 < g6 by have := hj.out; omega)
                    obtain ⟨gx, y, e, -, -, hy, hcy, hfy⟩ := hrow6.at_ (k := q) (by rw [rowV_len]; exact hql)
                    injection e with e
                    injection e with e
                    subst e
                    have HY := Lib.hid (show toO V t.ops (k : Int) (q : Int) j = y by have := hy.out; rw [mix_at hql] at this; injection this)
                    have HTS := Lib.hid (toO_succ (V := V) (p := (k : Int)) (q := (q : Int)) ho.out)
                    have hqI := Lib.hid (show (0 : Int) ≤ (q : Int) ∧ (q : Int) < (n : Int) by omega)
                    clear hy
                    have HROW := Lib.hid hrow6
                    clear hrow6
                    by_cases ha : (k : Int) ∈ o.add
                    · have HA := Lib.hid ha
                      by_cases hb : (q : Int) ∈ o.add
                      · have HB := Lib.hid hb
                        have HARC := Lib.hid (arcV_both (p := (k : Int)) (q := (q : Int)) ⟨ha, hb⟩)
                        clear ha hb
                        go_wp2_with fail
                        go_quiet ((go_at_call 40; first | (with_reducible show Calls _ _ #[_, .int .i64 (k : Int)] _ _; exact Calls.quiet_of_same ((has_yes _ _ _ (k : Int) _ (hm.add.below (by repeat (first | with_reducible exact hBt | with_reducible apply bdrew | with_reducible apply bdrewN | with_reducible apply balloc | ((with_reducible refine bset ?_ ?_ _); rotate_left; (first | omega | (simp <;> omega)))))) hla HA.out).mono fun _ _ h => ⟨h.1, h.2.symm⟩)) | (with_reducible show Calls _ _ #[_, .int .i64 (q : Int)] _ _; exact Calls.quiet_of_same ((has_yes _ _ _ (q : Int) _ (hm.add.below (by repeat (first | with_reducible exact hBt | with_reducible apply bdrew | with_reducible apply bdrewN | with_reducible apply balloc | ((with_reducible refine bset ?_ ?_ _); rotate_left; (first | omega | (simp <;> omega)))))) hla HB.out).mono fun _ _ h => ⟨h.1, h.2.symm⟩))))
                        have DQ : Below w.heap.size w ((w6.alloc (.cells #[.slice B0 o.pre.length d0, .slice B1 o.add.length d1, .slice B2 o.del.length d2, .int .i64 o.cost] 61)).drewN nq) := by repeat (first | with_reducible exact hBt | with_reducible apply bdrew | with_reducible apply bdrewN | with_reducible apply balloc | ((with_reducible refine bset ?_ ?_ _); rotate_left; (first | omega | (simp <;> omega))))
                        have E3 : Below w3.heap.size w3 ((w6.alloc (.cells #[.slice B0 o.pre.length d0, .slice B1 o.add.length d1, .slice B2 o.del.length d2, .int .i64 o.cost] 61)).drewN nq) := by repeat (first | with_reducible exact hB36 | with_reducible apply bdrew | with_reducible apply bdrewN | with_reducible apply balloc | ((with_reducible refine bset ?_ ?_ _); rotate_left; (first | omega | (simp <;> omega))))
                        have E6 : Below w6.heap.size w6 ((w6.alloc (.cells #[.slice B0 o.pre.length d0, .slice B1 o.add.length d1, .slice B2 o.del.length d2, .int .i64 o.cost] 61)).drewN nq) := by repeat (first | with_reducible exact Below.refl _ _ | with_reducible apply bdrew | with_reducible apply bdrewN | with_reducible apply balloc | ((with_reducible refine bset ?_ ?_ _); rotate_left; (first | omega | (simp <;> omega))))
                        have CQ : Cls ((w6.alloc (.cells #[.slice B0 o.pre.length d0, .slice B1 o.add.length d1, .slice B2 o.del.length d2, .int .i64 o.cost] 61)).drewN nq) [(w.heap.size, 0, .int .i64 (n : Int)), (w.heap.size, 1, .slice Ai t.init.length ci), (w.heap.size, 2, .slice Ag t.goal.length cg), (w.heap.size, 3, .slice (some ao) t.ops.length co), (g, q, .int .i64 y), (w6.heap.size, 0, .slice B0 o.pre.length d0), (w6.heap.size, 1, .slice B1 o.add.length d1), (w6.heap.size, 2, .slice B2 o.del.length d2), (w6.heap.size, 3, .int .i64 o.cost)] := Cls.below (w := (w6.alloc (.cells #[.slice B0 o.pre.length d0, .slice B1 o.add.length d1, .slice B2 o.del.length d2, .int .i64 o.cost] 61))) (by repeat (first | with_reducible exact Below.refl _ _ | with_reducible apply bdrew | with_reducible apply bdrewN | with_reducible apply balloc | ((with_reducible refine bset ?_ ?_ _); rotate_left; (first | omega | (simp <;> omega))))) (by simp [Cls, go_sem, Ft, ytw0, ytwp1, ytwp2, hcy, hfy, hg6])
                        obtain ⟨w7, hw7⟩ : ∃ wo : World, wo = (w6.alloc (.cells #[.slice B0 o.pre.length d0, .slice B1 o.add.length d1, .slice B2 o.del.length d2, .int .i64 o.cost] 61)).drewN nq := ⟨_, rfl⟩
                        rw [← hw7] at DQ E3 E6 CQ ⊢
                        clear hw7
                        have dqs := DQ.size
                        have e6s := E6.size
                        have Fq7 := CQ
                        simp only [Cls, and_true] at Fq7
                        have yq7g0 : g < w7.heap.size := CQ.blk (b := g) (k := q) (v := .int .i64 y) (by simp)
                        have yq7gp1 : g < w7.heap.size + 1 := (by omega)
                        have yq7gp2 : g < w7.heap.size + 1 + 1 := (by omega)
                        have yq7w0 : w.heap.size < w7.heap.size := CQ.blk (b := w.heap.size) (k := 0) (v := .int .i64 (n : Int)) (by simp)
                        have yq7wp1 : w.heap.size < w7.heap.size + 1 := (by omega)
                        have yq7wp2 : w.heap.size < w7.heap.size + 1 + 1 := (by omega)
                        have yq7w60 : w6.heap.size < w7.heap.size := CQ.blk (b := w6.heap.size) (k := 0) (v := .slice B0 o.pre.length d0) (by simp)
                        have yq7w6p1 : w6.heap.size < w7.heap.size + 1 := (by omega)
                        have yq7w6p2 : w6.heap.size < w7.heap.size + 1 + 1 := (by omega)
                        obtain ⟨vv, hvv⟩ : ∃ vv, Hid (valP V o.pre = vv) := ⟨_, Lib.hid rfl⟩
                        have HRG := Lib.hid (hoo.out.1 : ∀ x ∈ o.pre, 0 ≤ x ∧ x < (n : Int))
                        have hll : o.pre.length ≤ 1000000 := by omega
                        have HVI := Lib.hid (show InV vv by rw [← hvv.out]; exact valP_in hV.out.all HRG.out)
                        obtain ⟨pp, hpp⟩ : ∃ pp, Hid (plusV vv o.cost = pp) := ⟨_, Lib.hid rfl⟩
                        have HCI := Lib.hid (costIn HOPS.out HMO.out)
                        have HMX := Lib.hid (mix_set (n := n) (show toO V t.ops (k : Int) (q : Int) (j + 1) = min y pp by rw [HTS.out, stepO_some HARC.out, HY.out, hvv.out, hpp.out]))
                        have hb1 : (q : Int) < (n : Int) := hqI.out.2
                        have hb0 : (0 : Int) ≤ (q : Int) := hqI.out.1
                        go_wp2_with fail
                        refine wp_region_held_drew (S := fun W => W.cell? ⟨w6.heap.size, 3, none⟩ = some (.int .i64 o.cost)) (by kernel_rfl) (by simp [go_sem, Fq7, yq7g0, yq7gp1, yq7gp2, yq7w0, yq7wp1, yq7wp2, yq7w60, yq7w6p1, yq7w6p2]) (fun hHeld => ?_)
                        refine wpAnyH_take (i := 0) (v := ?vo10) rfl (by kernel_rfl) (by kernel_rfl) (by kernel_rfl) (fun _ _ _ h => h) (Or.inl ⟨by rfl, ?ho10⟩) (by assumption) ?ro10
                        case ho10 => (intro w hSw; (try dsimp only at hSw); go_simp; (try with_reducible rfl))
                        try simp only [Act.put, List.getElem_toArray, List.getElem_cons_succ, List.getElem_cons_zero, List.setIfInBounds_toArray, List.set_cons_zero, List.set_cons_succ]
                        refine wpAnyH_take (i := 1) (v := ?vo11) rfl (by kernel_rfl) (by kernel_rfl) (by kernel_rfl) (fun _ _ _ h => h) (Or.inl ⟨by rfl, ?ho11⟩) (by assumption) ?ro11
                        case ho11 => (intro w hSw; (try dsimp only at hSw); go_simp; (try with_reducible rfl))
                        try simp only [Act.put, List.getElem_toArray, List.getElem_cons_succ, List.getElem_cons_zero, List.setIfInBounds_toArray, List.set_cons_zero, List.set_cons_succ]
                        refine wpAnyH_take (i := 2) (v := ?vo12) rfl (by kernel_rfl) (by kernel_rfl) (by kernel_rfl) (fun _ _ _ h => h) (Or.inl ⟨by rfl, ?ho12⟩) (by assumption) ?ro12
                        case ho12 => (intro w hSw; (try dsimp only at hSw); go_simp; (try with_reducible rfl))
                        try simp only [Act.put, List.getElem_toArray, List.getElem_cons_succ, List.getElem_cons_zero, List.setIfInBounds_toArray, List.set_cons_zero, List.set_cons_succ]
                        refine wpAnyH_take (i := 3) (v := ?vo13) rfl (by kernel_rfl) (by kernel_rfl) (by kernel_rfl) (fun _ _ _ h => h) (Or.inl ⟨by rfl, ?ho13⟩) (by assumption) ?ro13
                        case ho13 => (intro w hSw; (try dsimp only at hSw); go_simp; (try with_reducible rfl))
                        try simp only [Act.put, List.getElem_toArray, List.getElem_cons_succ, List.getElem_cons_zero, List.setIfInBounds_toArray, List.set_cons_zero, List.set_cons_succ]
                        refine wpAnyH_take (i := 4) (v := ?vo14) rfl (by kernel_rfl) (by kernel_rfl) (by kernel_rfl) (fun _ _ _ h => h) (Or.inl ⟨by rfl, ?ho14⟩) (by assumption) ?ro14
                        case ho14 => (intro w hSw; (try dsimp only at hSw); go_simp; (try with_reducible rfl))
                        try simp only [Act.put, List.getElem_toArray, List.getElem_cons_succ, List.getElem_cons_zero, List.setIfInBounds_toArray, List.set_cons_zero, List.set_cons_succ]
                        refine wpAnyH_take (i := 6) (v := ?vo16) rfl (by kernel_rfl) (by kernel_rfl) (by kernel_rfl) (fun _ _ _ h => h) (Or.inl ⟨by rfl, ?ho16⟩) (by assumption) ?ro16
                        case ho16 => (intro w hSw; (try dsimp only at hSw); go_simp; (try with_reducible rfl))
                        try simp only [Act.put, List.getElem_toArray, List.getElem_cons_succ, List.getElem_cons_zero, List.setIfInBounds_toArray, List.set_cons_zero, List.set_cons_succ]
                        refine wpAnyH_take (i := 7) (v := ?vo17) rfl (by kernel_rfl) (by kernel_rfl) (by kernel_rfl) (fun _ _ _ h => h) (Or.inl ⟨by rfl, ?ho17⟩) (by assumption) ?ro17
                        case ho17 => (intro w hSw; (try dsimp only at hSw); go_simp; (try with_reducible rfl))
                        try simp only [Act.put, List.getElem_toArray, List.getElem_cons_succ, List.getElem_cons_zero, List.setIfInBounds_toArray, List.set_cons_zero, List.set_cons_succ]
                        refine wpAnyH_take (i := 9) (v := ?vo19) rfl (by kernel_rfl) (by kernel_rfl) (by kernel_rfl) (fun _ _ _ h => h) (Or.inl ⟨by rfl, ?ho19⟩) (by assumption) ?ro19
                        case ho19 => (intro w hSw; (try dsimp only at hSw); go_simp; (try with_reducible rfl))
                        try simp only [Act.put, List.getElem_toArray, List.getElem_cons_succ, List.getElem_cons_zero, List.setIfInBounds_toArray, List.set_cons_zero, List.set_cons_succ]
                        refine wpAnyH_take (i := 10) (v := ?vo110) rfl (by kernel_rfl) (by kernel_rfl) (by kernel_rfl) (fun _ _ _ h => h) (Or.inl ⟨by rfl, ?ho110⟩) (by assumption) ?ro110
                        case ho110 => (intro w hSw; (try dsimp only at hSw); go_simp; (try with_reducible rfl))
                        try simp only [Act.put, List.getElem_toArray, List.getElem_cons_succ, List.getElem_cons_zero, List.setIfInBounds_toArray, List.set_cons_zero, List.set_cons_succ]
                        refine wpAnyH_ready (rs := [5, 8]) (by kernel_rfl) (by simp) ?_
                        refine (AllReadyH.cons rfl (fun K hK => ?bo11x5) (AllReadyH.cons rfl (fun K hK => ?bo11x8) AllReadyH.nil))
                        case bo11x5 =>
                          go_simp
                          have hSS := hHeld
                          go_wp2_with fail
                          refine hK.out _ _ hSS (fun hHeld => ?_)
                          clear hK K
                          try simp only [Act.put, List.getElem_toArray, List.getElem_cons_succ, List.getElem_cons_zero, List.setIfInBounds_toArray, List.set_cons_zero, List.set_cons_succ]
                          refine wpAnyH_ready (rs := [8]) (by kernel_rfl) (by simp) ?_
                          refine (AllReadyH.cons rfl (fun K hK => ?bo12x8) AllReadyH.nil)
                          case bo12x8 =>
                            go_simp
                            go_at_call 65
                            refine (setval_any _ (some ad) n c V ((hL.below hB23).below (by repeat (first | with_reducible exact E3 | with_reducible apply bdrew | with_reducible apply bdrewN | with_reducible apply balloc | ((with_reducible refine bset ?_ ?_ _); rotate_left; (first | omega | (simp <;> omega)))))) B0 o.pre d0 (hm.pre.below (by repeat (first | with_reducible exact DQ | with_reducible apply bdrew | with_reducible apply bdrewN | with_reducible apply balloc | ((with_reducible refine bset ?_ ?_ _); rotate_left; (first | omega | (simp <;> omega)))))) hll (by omega) HRG.out).mono ?_
                            rintro e w8 ⟨he, hB8⟩
                            rw [hvv.out] at he
                            subst he
                            have D8 := dstep w hB8 (by repeat (first | with_reducible exact DQ | with_reducible apply bdrew | with_reducible apply bdrewN | with_reducible apply balloc | ((with_reducible refine bset ?_ ?_ _); rotate_left; (first | omega | (simp <;> omega)))))
                            have d8s := D8.size
                            have Ew3_8 := dstep w3 hB8 (by repeat (first | with_reducible exact E3 | with_reducible apply bdrew | with_reducible apply bdrewN | with_reducible apply balloc | ((with_reducible refine bset ?_ ?_ _); rotate_left; (first | omega | (simp <;> omega)))))
                            have Ew6_8 := dstep w6 hB8 (by repeat (first | with_reducible exact E6 | with_reducible apply bdrew | with_reducible apply bdrewN | with_reducible apply balloc | ((with_reducible refine bset ?_ ?_ _); rotate_left; (first | omega | (simp <;> omega)))))
                            have Ew7_8 := dstep w7 hB8 (by repeat (first | with_reducible exact Below.refl _ _ | with_reducible apply bdrew | with_reducible apply bdrewN | with_reducible apply balloc | ((with_reducible refine bset ?_ ?_ _); rotate_left; (first | omega | (simp <;> omega)))))
                            have C8 := Cls.below (l := [(w.heap.size, 0, .int .i64 (n : Int)), (w.heap.size, 1, .slice Ai t.init.length ci), (w.heap.size, 2, .slice Ag t.goal.length cg), (w.heap.size, 3, .slice (some ao) t.ops.length co), (g, q, .int .i64 y), (w6.heap.size, 0, .slice B0 o.pre.length d0), (w6.heap.size, 1, .slice B1 o.add.length d1), (w6.heap.size, 2, .slice B2 o.del.length d2), (w6.heap.size, 3, .int .i64 o.cost)]) hB8 (by simp [Cls, go_sem, Fq7, yq7g0, yq7gp1, yq7gp2, yq7w0, yq7wp1, yq7wp2, yq7w60, yq7w6p1, yq7w6p2])
                            have F8 := C8
                            simp only [Cls, and_true] at F8
                            have y8g0 : g < w8.heap.size := C8.blk (b := g) (k := q) (v := .int .i64 y) (by simp)
                            have y8gp1 : g < w8.heap.size + 1 := (by omega)
                            have y8gp2 : g < w8.heap.size + 1 + 1 := (by omega)
                            have y8w0 : w.heap.size < w8.heap.size := C8.blk (b := w.heap.size) (k := 0) (v := .int .i64 (n : Int)) (by simp)
                            have y8wp1 : w.heap.size < w8.heap.size + 1 := (by omega)
                            have y8wp2 : w.heap.size < w8.heap.size + 1 + 1 := (by omega)
                            have y8w60 : w6.heap.size < w8.heap.size := C8.blk (b := w6.heap.size) (k := 0) (v := .slice B0 o.pre.length d0) (by simp)
                            have y8w6p1 : w6.heap.size < w8.heap.size + 1 := (by omega)
                            have y8w6p2 : w6.heap.size < w8.heap.size + 1 + 1 := (by omega)
                            have hSS : w8.cell? ⟨w6.heap.size, 3, none⟩ = some (.int .i64 o.cost) := (by have q := C8; simp only [Cls, and_true] at q; simp [q])
                            go_wp2_with fail
                            refine hK.out _ _ hSS (fun hHeld => ?_)
                            clear hK K
                            try simp only [Act.put, List.getElem_toArray, List.getElem_cons_succ, List.getElem_cons_zero, List.setIfInBounds_toArray, List.set_cons_zero, List.set_cons_succ]
                            refine wpAnyH_ready (rs := [11]) (by kernel_rfl) (by simp) ?_
                            refine (AllReadyH.cons rfl (fun K hK => ?bo13x11) AllReadyH.nil)
                            case bo13x11 =>
                              go_simp
                              go_at_call 64
                              refine (rplus_any vv o.cost _ HVI.out HCI.out).mono ?_
                              rintro e w9 ⟨he, hW⟩
                              rw [hpp.out] at he
                              subst he
                              rw [← hW]
                              clear hW w9
                              have hSS := hHeld
                              go_wp2_with fail
                              refine hK.out _ _ hSS (fun hHeld => ?_)
                              clear hK K
                              try simp only [Act.put, List.getElem_toArray, List.getElem_cons_succ, List.getElem_cons_zero, List.setIfInBounds_toArray, List.set_cons_zero, List.set_cons_succ]
                              refine wpAnyH_take (i := 12) (v := ?vo1e412) rfl (by kernel_rfl) (by kernel_rfl) (by kernel_rfl) (fun _ _ _ h => h) (Or.inl ⟨by rfl, ?ho1e412⟩) (by assumption) ?ro1e412
                              case ho1e412 => (intro w hSw; (try dsimp only at hSw); go_simp; (try with_reducible rfl))
                              try simp only [Act.put, List.getElem_toArray, List.getElem_cons_succ, List.getElem_cons_zero, List.setIfInBounds_toArray, List.set_cons_zero, List.set_cons_succ]
                              refine wpAnyH_take (i := 13) (v := ?vo1l513) rfl (by kernel_rfl) (by kernel_rfl) (by kernel_rfl) (fun _ _ _ h => h) (Or.inl ⟨by rfl, ?ho1l513⟩) (by assumption) ?ro1l513
                              case ho1l513 => (intro w hSw; (try dsimp only at hSw); go_simp; (try with_reducible rfl))
                              try simp only [Act.put, List.getElem_toArray, List.getElem_cons_succ, List.getElem_cons_zero, List.setIfInBounds_toArray, List.set_cons_zero, List.set_cons_succ]
                              refine wpAnyH_ready (rs := [14]) (by kernel_rfl) (by simp) ?_
                              refine AllReadyH.cons rfl (fun K hK => ?_) AllReadyH.nil
                              go_simp
                              have hgne : ¬ g = w6.heap.size := (by omega)
                              have hgne2 : ¬ w6.heap.size = g := (by omega)
                              have hSS : (w8.setCell ⟨g, q, none⟩ (.int .i64 (min y pp))).cell? ⟨w6.heap.size, 3, none⟩ = some (.int .i64 o.cost) := (by simp [go_sem, hHeld, hgne, hgne2, F8, y8g0, y8gp1, y8gp2, y8w0, y8wp1, y8wp2, y8w60, y8w6p1, y8w6p2])
                              go_wp2_with fail
                              refine hK.out _ _ hSS (fun hHeld => ?_)
                              clear hK K
                              try simp only [Act.put, List.getElem_toArray, List.getElem_cons_succ, List.getElem_cons_zero, List.setIfInBounds_toArray, List.set_cons_zero, List.set_cons_succ]
                              refine wpAnyH_done (by kernel_rfl) ?_ _
                              go_wp2
                              go_roundg (g6 - 1)
                              case measure => exact hj1.out.2
                              case rel => exact ⟨j + 1, by go_num, Lib.hid hj1.out.1, by rw [← HMX.out]; exact OwnI.set_ (OwnI.below HROW.out (by repeat (first | with_reducible exact Ew6_8 | with_reducible apply bdrew | with_reducible apply bdrewN | with_reducible apply balloc | ((with_reducible refine bset ?_ ?_ _); rotate_left; (first | omega | (simp <;> omega)))))) (rowV_len _ _) q _, (by repeat (first | with_reducible exact Ew3_8 | with_reducible apply bdrew | with_reducible apply bdrewN | with_reducible apply balloc | ((with_reducible refine bset ?_ ?_ _); rotate_left; (first | omega | (simp <;> omega))))), (by (first | omega | (simp <;> omega))), (by repeat (first | with_reducible exact D8 | with_reducible apply bdrew | with_reducible apply bdrewN | with_reducible apply balloc | ((with_reducible refine bset ?_ ?_ _); rotate_left; (first | omega | (simp <;> omega))))), (by simp [Cls, go_sem, F8, y8g0, y8gp1, y8gp2, y8w0, y8wp1, y8wp2, y8w60, y8w6p1, y8w6p2]; try omega)⟩
                        case bo11x8 =>
                          go_simp
                          go_at_call 65
                          refine (setval_any _ (some ad) n c V ((hL.below hB23).below (by repeat (first | with_reducible exact E3 | with_reducible apply bdrew | with_reducible apply bdrewN | with_reducible apply balloc | ((with_reducible refine bset ?_ ?_ _); rotate_left; (first | omega | (simp <;> omega)))))) B0 o.pre d0 (hm.pre.below (by repeat (first | with_reducible exact DQ | with_reducible apply bdrew | with_reducible apply bdrewN | with_reducible apply balloc | ((with_reducible refine bset ?_ ?_ _); rotate_left; (first | omega | (simp <;> omega)))))) hll (by omega) HRG.out).mono ?_
                          rintro e w8 ⟨he, hB8⟩
                          rw [hvv.out] at he
                          subst he
                          have D8 := dstep w hB8 (by repeat (first | with_reducible exact DQ | with_reducible apply bdrew | with_reducible apply bdrewN | with_reducible apply balloc | ((with_reducible refine bset ?_ ?_ _); rotate_left; (first | omega | (simp <;> omega)))))
                          have d8s := D8.size
                          have Ew3_8 := dstep w3 hB8 (by repeat (first | with_reducible exact E3 | with_reducible apply bdrew | with_reducible apply bdrewN | with_reducible apply balloc | ((with_reducible refine bset ?_ ?_ _); rotate_left; (first | omega | (simp <;> omega)))))
                          have Ew6_8 := dstep w6 hB8 (by repeat (first | with_reducible exact E6 | with_reducible apply bdrew | with_reducible apply bdrewN | with_reducible apply balloc | ((with_reducible refine bset ?_ ?_ _); rotate_left; (first | omega | (simp <;> omega)))))
                          have Ew7_8 := dstep w7 hB8 (by repeat (first | with_reducible exact Below.refl _ _ | with_reducible apply bdrew | with_reducible apply bdrewN | with_reducible apply balloc | ((with_reducible refine bset ?_ ?_ _); rotate_left; (first | omega | (simp <;> omega)))))
                          have C8 := Cls.below (l := [(w.heap.size, 0, .int .i64 (n : Int)), (w.heap.size, 1, .slice Ai t.init.length ci), (w.heap.size, 2, .slice Ag t.goal.length cg), (w.heap.size, 3, .slice (some ao) t.ops.length co), (g, q, .int .i64 y), (w6.heap.size, 0, .slice B0 o.pre.length d0), (w6.heap.size, 1, .slice B1 o.add.length d1), (w6.heap.size, 2, .slice B2 o.del.length d2), (w6.heap.size, 3, .int .i64 o.cost)]) hB8 (by simp [Cls, go_sem, Fq7, yq7g0, yq7gp1, yq7gp2, yq7w0, yq7wp1, yq7wp2, yq7w60, yq7w6p1, yq7w6p2])
                          have F8 := C8
                          simp only [Cls, and_true] at F8
                          have y8g0 : g < w8.heap.size := C8.blk (b := g) (k := q) (v := .int .i64 y) (by simp)
                          have y8gp1 : g < w8.heap.size + 1 := (by omega)
                          have y8gp2 : g < w8.heap.size + 1 + 1 := (by omega)
                          have y8w0 : w.heap.size < w8.heap.size := C8.blk (b := w.heap.size) (k := 0) (v := .int .i64 (n : Int)) (by simp)
                          have y8wp1 : w.heap.size < w8.heap.size + 1 := (by omega)
                          have y8wp2 : w.heap.size < w8.heap.size + 1 + 1 := (by omega)
                          have y8w60 : w6.heap.size < w8.heap.size := C8.blk (b := w6.heap.size) (k := 0) (v := .slice B0 o.pre.length d0) (by simp)
                          have y8w6p1 : w6.heap.size < w8.heap.size + 1 := (by omega)
                          have y8w6p2 : w6.heap.size < w8.heap.size + 1 + 1 := (by omega)
                          have hSS : w8.cell? ⟨w6.heap.size, 3, none⟩ = some (.int .i64 o.cost) := (by have q := C8; simp only [Cls, and_true] at q; simp [q])
                          go_wp2_with fail
                          refine hK.out _ _ hSS (fun hHeld => ?_)
                          clear hK K
                          try simp only [Act.put, List.getElem_toArray, List.getElem_cons_succ, List.getElem_cons_zero, List.setIfInBounds_toArray, List.set_cons_zero, List.set_cons_succ]
                          refine wpAnyH_ready (rs := [5, 11]) (by kernel_rfl) (by simp) ?_
                          refine (AllReadyH.cons rfl (fun K hK => ?bo17x5) (AllReadyH.cons rfl (fun K hK => ?bo17x11) AllReadyH.nil))
                          case bo17x5 =>
                            go_simp
                            have hSS := hHeld
                            go_wp2_with fail
                            refine hK.out _ _ hSS (fun hHeld => ?_)
                            clear hK K
                            try simp only [Act.put, List.getElem_toArray, List.getElem_cons_succ, List.getElem_cons_zero, List.setIfInBounds_toArray, List.set_cons_zero, List.set_cons_succ]
                            refine wpAnyH_ready (rs := [11]) (by kernel_rfl) (by simp) ?_
                            refine (AllReadyH.cons rfl (fun K hK => ?bo18x11) AllReadyH.nil)
                            case bo18x11 =>
                              go_simp
                              go_at_call 64
                              refine (rplus_any vv o.cost _ HVI.out HCI.out).mono ?_
                              rintro e w9 ⟨he, hW⟩
                              rw [hpp.out] at he
                              subst he
                              rw [← hW]
                              clear hW w9
                              have hSS := hHeld
                              go_wp2_with fail
                              refine hK.out _ _ hSS (fun hHeld => ?_)
                              clear hK K
                              try simp only [Act.put, List.getElem_toArray, List.getElem_cons_succ, List.getElem_cons_zero, List.setIfInBounds_toArray, List.set_cons_zero, List.set_cons_succ]
                              refine wpAnyH_take (i := 12) (v := ?vo1e912) rfl (by kernel_rfl) (by kernel_rfl) (by kernel_rfl) (fun _ _ _ h => h) (Or.inl ⟨by rfl, ?ho1e912⟩) (by assumption) ?ro1e912
                              case ho1e912 => (intro w hSw; (try dsimp only at hSw); go_simp; (try with_reducible rfl))
                              try simp only [Act.put, List.getElem_toArray, List.getElem_cons_succ, List.getElem_cons_zero, List.setIfInBounds_toArray, List.set_cons_zero, List.set_cons_succ]
                              refine wpAnyH_take (i := 13) (v := ?vo1l1013) rfl (by kernel_rfl) (by kernel_rfl) (by kernel_rfl) (fun _ _ _ h => h) (Or.inl ⟨by rfl, ?ho1l1013⟩) (by assumption) ?ro1l1013
                              case ho1l1013 => (intro w hSw; (try dsimp only at hSw); go_simp; (try with_reducible rfl))
                              try simp only [Act.put, List.getElem_toArray, List.getElem_cons_succ, List.getElem_cons_zero, List.setIfInBounds_toArray, List.set_cons_zero, List.set_cons_succ]
                              refine wpAnyH_ready (rs := [14]) (by kernel_rfl) (by simp) ?_
                              refine AllReadyH.cons rfl (fun K hK => ?_) AllReadyH.nil
                              go_simp
                              have hgne : ¬ g = w6.heap.size := (by omega)
                              have hgne2 : ¬ w6.heap.size = g := (by omega)
                              have hSS : (w8.setCell ⟨g, q, none⟩ (.int .i64 (min y pp))).cell? ⟨w6.heap.size, 3, none⟩ = some (.int .i64 o.cost) := (by simp [go_sem, hHeld, hgne, hgne2, F8, y8g0, y8gp1, y8gp2, y8w0, y8wp1, y8wp2, y8w60, y8w6p1, y8w6p2])
                              go_wp2_with fail
                              refine hK.out _ _ hSS (fun hHeld => ?_)
                              clear hK K
                              try simp only [Act.put, List.getElem_toArray, List.getElem_cons_succ, List.getElem_cons_zero, List.setIfInBounds_toArray, List.set_cons_zero, List.set_cons_succ]
                              refine wpAnyH_done (by kernel_rfl) ?_ _
                              go_wp2
                              go_roundg (g6 - 1)
                              case measure => exact hj1.out.2
                              case rel => exact ⟨j + 1, by go_num, Lib.hid hj1.out.1, by rw [← HMX.out]; exact OwnI.set_ (OwnI.below HROW.out (by repeat (first | with_reducible exact Ew6_8 | with_reducible apply bdrew | with_reducible apply bdrewN | with_reducible apply balloc | ((with_reducible refine bset ?_ ?_ _); rotate_left; (first | omega | (simp <;> omega)))))) (rowV_len _ _) q _, (by repeat (first | with_reducible exact Ew3_8 | with_reducible apply bdrew | with_reducible apply bdrewN | with_reducible apply balloc | ((with_reducible refine bset ?_ ?_ _); rotate_left; (first | omega | (simp <;> omega))))), (by (first | omega | (simp <;> omega))), (by repeat (first | with_reducible exact D8 | with_reducible apply bdrew | with_reducible apply bdrewN | with_reducible apply balloc | ((with_reducible refine bset ?_ ?_ _); rotate_left; (first | omega | (simp <;> omega))))), (by simp [Cls, go_sem, F8, y8g0, y8gp1, y8gp2, y8w0, y8wp1, y8wp2, y8w60, y8w6p1, y8w6p2]; try omega)⟩
                          case bo17x11 =>
                            go_simp
                            go_at_call 64
                            refine (rplus_any vv o.cost _ HVI.out HCI.out).mono ?_
                            rintro e w9 ⟨he, hW⟩
                            rw [hpp.out] at he
                            subst he
                            rw [← hW]
                            clear hW w9
                            have hSS := hHeld
                            go_wp2_with fail
                            refine hK.out _ _ hSS (fun hHeld => ?_)
                            clear hK K
                            try simp only [Act.put, List.getElem_toArray, List.getElem_cons_succ, List.getElem_cons_zero, List.setIfInBounds_toArray, List.set_cons_zero, List.set_cons_succ]
                            refine wpAnyH_ready (rs := [5]) (by kernel_rfl) (by simp) ?_
                            refine (AllReadyH.cons rfl (fun K hK => ?bo112x5) AllReadyH.nil)
                            case bo112x5 =>
                              go_simp
                              have hSS := hHeld
                              go_wp2_with fail
                              refine hK.out _ _ hSS (fun hHeld => ?_)
                              clear hK K
                              try simp only [Act.put, List.getElem_toArray, List.getElem_cons_succ, List.getElem_cons_zero, List.setIfInBounds_toArray, List.set_cons_zero, List.set_cons_succ]
                              refine wpAnyH_take (i := 12) (v := ?vo1e1312) rfl (by kernel_rfl) (by kernel_rfl) (by kernel_rfl) (fun _ _ _ h => h) (Or.inl ⟨by rfl, ?ho1e1312⟩) (by assumption) ?ro1e1312
                              case ho1e1312 => (intro w hSw; (try dsimp only at hSw); go_simp; (try with_reducible rfl))
                              try simp only [Act.put, List.getElem_toArray, List.getElem_cons_succ, List.getElem_cons_zero, List.setIfInBounds_toArray, List.set_cons_zero, List.set_cons_succ]
                              refine wpAnyH_take (i := 13) (v := ?vo1l1413) rfl (by kernel_rfl) (by kernel_rfl) (by kernel_rfl) (fun _ _ _ h => h) (Or.inl ⟨by rfl, ?ho1l1413⟩) (by assumption) ?ro1l1413
                              case ho1l1413 => (intro w hSw; (try dsimp only at hSw); go_simp; (try with_reducible rfl))
                              try simp only [Act.put, List.getElem_toArray, List.getElem_cons_succ, List.getElem_cons_zero, List.setIfInBounds_toArray, List.set_cons_zero, List.set_cons_succ]
                              refine wpAnyH_ready (rs := [14]) (by kernel_rfl) (by simp) ?_
                              refine AllReadyH.cons rfl (fun K hK => ?_) AllReadyH.nil
                              go_simp
                              have hgne : ¬ g = w6.heap.size := (by omega)
                              have hgne2 : ¬ w6.heap.size = g := (by omega)
                              have hSS : (w8.setCell ⟨g, q, none⟩ (.int .i64 (min y pp))).cell? ⟨w6.heap.size, 3, none⟩ = some (.int .i64 o.cost) := (by simp [go_sem, hHeld, hgne, hgne2, F8, y8g0, y8gp1, y8gp2, y8w0, y8wp1, y8wp2, y8w60, y8w6p1, y8w6p2])
                              go_wp2_with fail
                              refine hK.out _ _ hSS (fun hHeld => ?_)
                              clear hK K
                              try simp only [Act.put, List.getElem_toArray, List.getElem_cons_succ, List.getElem_cons_zero, List.setIfInBounds_toArray, List.set_cons_zero, List.set_cons_succ]
                              refine wpAnyH_done (by kernel_rfl) ?_ _
                              go_wp2
                              go_roundg (g6 - 1)
                              case measure => exact hj1.out.2
                              case rel => exact ⟨j + 1, by go_num, Lib.hid hj1.out.1, by rw [← HMX.out]; exact OwnI.set_ (OwnI.below HROW.out (by repeat (first | with_reducible exact Ew6_8 | with_reducible apply bdrew | with_reducible apply bdrewN | with_reducible apply balloc | ((with_reducible refine bset ?_ ?_ _); rotate_left; (first | omega | (simp <;> omega)))))) (rowV_len _ _) q _, (by repeat (first | with_reducible exact Ew3_8 | with_reducible apply bdrew | with_reducible apply bdrewN | with_reducible apply balloc | ((with_reducible refine bset ?_ ?_ _); rotate_left; (first | omega | (simp <;> omega))))), (by (first | omega | (simp <;> omega))), (by repeat (first | with_reducible exact D8 | with_reducible apply bdrew | with_reducible apply bdrewN | with_reducible apply balloc | ((with_reducible refine bset ?_ ?_ _); rotate_left; (first | omega | (simp <;> omega))))), (by simp [Cls, go_sem, F8, y8g0, y8gp1, y8gp2, y8w0, y8wp1, y8wp2, y8w60, y8w6p1, y8w6p2]; try omega)⟩
                      · have HB := Lib.hid hb
                        by_cases hd : (q : Int) ∈ o.del
                        · have HD := Lib.hid hd
                          have HARC := Lib.hid (arcV_none (p := (k : Int)) (q := (q : Int)) (fun h => h.2.2 hd) (fun h => hb h.1) (fun h => hb h.2))
                          clear ha hb hd
                          go_wp2_with fail
                          go_quiet ((go_at_call 40; first | (with_reducible show Calls _ _ #[_, .int .i64 (k : Int)] _ _; exact Calls.quiet_of_same ((has_yes _ _ _ (k : Int) _ (hm.add.below (by repeat (first | with_reducible exact hBt | with_reducible apply bdrew | with_reducible apply bdrewN | with_reducible apply balloc | ((with_reducible refine bset ?_ ?_ _); rotate_left; (first | omega | (simp <;> omega)))))) hla HA.out).mono fun _ _ h => ⟨h.1, h.2.symm⟩)) | (with_reducible show Calls _ _ #[_, .int .i64 (q : Int)] _ _; exact Calls.quiet_of_same ((has_no _ _ _ (q : Int) _ (hm.add.below (by repeat (first | with_reducible exact hBt | with_reducible apply bdrew | with_reducible apply bdrewN | with_reducible apply balloc | ((with_reducible refine bset ?_ ?_ _); rotate_left; (first | omega | (simp <;> omega)))))) hla HB.out).mono fun _ _ h => ⟨h.1, h.2.symm⟩))))
                          have DQ : Below w.heap.size w ((w6.alloc (.cells #[.slice B0 o.pre.length d0, .slice B1 o.add.length d1, .slice B2 o.del.length d2, .int .i64 o.cost] 61)).drewN nq) := by repeat (first | with_reducible exact hBt | with_reducible apply bdrew | with_reducible apply bdrewN | with_reducible apply balloc | ((with_reducible refine bset ?_ ?_ _); rotate_left; (first | omega | (simp <;> omega))))
                          have E3 : Below w3.heap.size w3 ((w6.alloc (.cells #[.slice B0 o.pre.length d0, .slice B1 o.add.length d1, .slice B2 o.del.length d2, .int .i64 o.cost] 61)).drewN nq) := by repeat (first | with_reducible exact hB36 | with_reducible apply bdrew | with_reducible apply bdrewN | with_reducible apply balloc | ((with_reducible refine bset ?_ ?_ _); rotate_left; (first | omega | (simp <;> omega))))
                          have E6 : Below w6.heap.size w6 ((w6.alloc (.cells #[.slice B0 o.pre.length d0, .slice B1 o.add.length d1, .slice B2 o.del.length d2, .int .i64 o.cost] 61)).drewN nq) := by repeat (first | with_reducible exact Below.refl _ _ | with_reducible apply bdrew | with_reducible apply bdrewN | with_reducible apply balloc | ((with_reducible refine bset ?_ ?_ _); rotate_left; (first | omega | (simp <;> omega))))
                          have CQ : Cls ((w6.alloc (.cells #[.slice B0 o.pre.length d0, .slice B1 o.add.length d1, .slice B2 o.del.length d2, .int .i64 o.cost] 61)).drewN nq) [(w.heap.size, 0, .int .i64 (n : Int)), (w.heap.size, 1, .slice Ai t.init.length ci), (w.heap.size, 2, .slice Ag t.goal.length cg), (w.heap.size, 3, .slice (some ao) t.ops.length co), (g, q, .int .i64 y), (w6.heap.size, 0, .slice B0 o.pre.length d0), (w6.heap.size, 1, .slice B1 o.add.length d1), (w6.heap.size, 2, .slice B2 o.del.length d2), (w6.heap.size, 3, .int .i64 o.cost)] := Cls.below (w := (w6.alloc (.cells #[.slice B0 o.pre.length d0, .slice B1 o.add.length d1, .slice B2 o.del.length d2, .int .i64 o.cost] 61))) (by repeat (first | with_reducible exact Below.refl _ _ | with_reducible apply bdrew | with_reducible apply bdrewN | with_reducible apply balloc | ((with_reducible refine bset ?_ ?_ _); rotate_left; (first | omega | (simp <;> omega))))) (by simp [Cls, go_sem, Ft, ytw0, ytwp1, ytwp2, hcy, hfy, hg6])
                          obtain ⟨w7, hw7⟩ : ∃ wo : World, wo = (w6.alloc (.cells #[.slice B0 o.pre.length d0, .slice B1 o.add.length d1, .slice B2 o.del.length d2, .int .i64 o.cost] 61)).drewN nq := ⟨_, rfl⟩
                          rw [← hw7] at DQ E3 E6 CQ ⊢
                          clear hw7
                          have dqs := DQ.size
                          have e6s := E6.size
                          have Fq7 := CQ
                          simp only [Cls, and_true] at Fq7
                          have yq7g0 : g < w7.heap.size := CQ.blk (b := g) (k := q) (v := .int .i64 y) (by simp)
                          have yq7gp1 : g < w7.heap.size + 1 := (by omega)
                          have yq7gp2 : g < w7.heap.size + 1 + 1 := (by omega)
                          have yq7w0 : w.heap.size < w7.heap.size := CQ.blk (b := w.heap.size) (k := 0) (v := .int .i64 (n : Int)) (by simp)
                          have yq7wp1 : w.heap.size < w7.heap.size + 1 := (by omega)
                          have yq7wp2 : w.heap.size < w7.heap.size + 1 + 1 := (by omega)
                          have yq7w60 : w6.heap.size < w7.heap.size := CQ.blk (b := w6.heap.size) (k := 0) (v := .slice B0 o.pre.length d0) (by simp)
                          have yq7w6p1 : w6.heap.size < w7.heap.size + 1 := (by omega)
                          have yq7w6p2 : w6.heap.size < w7.heap.size + 1 + 1 := (by omega)
                          go_wp2_with fail
                          refine (has_yes _ _ _ (q : Int) _ (hm.del.below (by repeat (first | with_reducible exact DQ | with_reducible apply bdrew | with_reducible apply bdrewN | with_reducible apply balloc | ((with_reducible refine bset ?_ ?_ _); rotate_left; (first | omega | (simp <;> omega)))))) hld HD.out).mono ?_
                          rintro e w9 ⟨rfl, hW⟩
                          rw [← hW]
                          clear hW w9
                          have HMS := Lib.hid (mix_same (n := n) (show toO V t.ops (k : Int) (q : Int) (j + 1) = toO V t.ops (k : Int) (q : Int) j by rw [HTS.out, stepO_none HARC.out]))
                          go_wp2
                          go_roundg (g6 - 1)
                          case measure => exact hj1.out.2
                          case rel => exact ⟨j + 1, by go_num, Lib.hid hj1.out.1, by rw [HMS.out]; exact OwnI.below HROW.out (by repeat (first | with_reducible exact E6 | with_reducible apply bdrew | with_reducible apply bdrewN | with_reducible apply balloc | ((with_reducible refine bset ?_ ?_ _); rotate_left; (first | omega | (simp <;> omega))))), (by repeat (first | with_reducible exact E3 | with_reducible apply bdrew | with_reducible apply bdrewN | with_reducible apply balloc | ((with_reducible refine bset ?_ ?_ _); rotate_left; (first | omega | (simp <;> omega))))), (by omega), (by repeat (first | with_reducible exact DQ | with_reducible apply bdrew | with_reducible apply bdrewN | with_reducible apply balloc | ((with_reducible refine bset ?_ ?_ _); rotate_left; (first | omega | (simp <;> omega))))), (by simp [Cls, go_sem, Fq7, yq7g0, yq7gp1, yq7gp2, yq7w0, yq7wp1, yq7wp2, yq7w60, yq7w6p1, yq7w6p2])⟩
                        · have HD := Lib.hid hd
                          have HARC := Lib.hid (arcV_left (p := (k : Int)) (q := (q : Int)) ⟨ha, hb, hd⟩)
                          clear ha hb hd
                          go_wp2_with fail
                          go_quiet ((go_at_call 40; first | (with_reducible show Calls _ _ #[_, .int .i64 (k : Int)] _ _; exact Calls.quiet_of_same ((has_yes _ _ _ (k : Int) _ (hm.add.below (by repeat (first | with_reducible exact hBt | with_reducible apply bdrew | with_reducible apply bdrewN | with_reducible apply balloc | ((with_reducible refine bset ?_ ?_ _); rotate_left; (first | omega | (simp <;> omega)))))) hla HA.out).mono fun _ _ h => ⟨h.1, h.2.symm⟩)) | (with_reducible show Calls _ _ #[_, .int .i64 (q : Int)] _ _; exact Calls.quiet_of_same ((has_no _ _ _ (q : Int) _ (hm.add.below (by repeat (first | with_reducible exact hBt | with_reducible apply bdrew | with_reducible apply bdrewN | with_reducible apply balloc | ((with_reducible refine bset ?_ ?_ _); rotate_left; (first | omega | (simp <;> omega)))))) hla HB.out).mono fun _ _ h => ⟨h.1, h.2.symm⟩))))
                          have DQ : Below w.heap.size w ((w6.alloc (.cells #[.slice B0 o.pre.length d0, .slice B1 o.add.length d1, .slice B2 o.del.length d2, .int .i64 o.cost] 61)).drewN nq) := by repeat (first | with_reducible exact hBt | with_reducible apply bdrew | with_reducible apply bdrewN | with_reducible apply balloc | ((with_reducible refine bset ?_ ?_ _); rotate_left; (first | omega | (simp <;> omega))))
                          have E3 : Below w3.heap.size w3 ((w6.alloc (.cells #[.slice B0 o.pre.length d0, .slice B1 o.add.length d1, .slice B2 o.del.length d2, .int .i64 o.cost] 61)).drewN nq) := by repeat (first | with_reducible exact hB36 | with_reducible apply bdrew | with_reducible apply bdrewN | with_reducible apply balloc | ((with_reducible refine bset ?_ ?_ _); rotate_left; (first | omega | (simp <;> omega))))
                          have E6 : Below w6.heap.size w6 ((w6.alloc (.cells #[.slice B0 o.pre.length d0, .slice B1 o.add.length d1, .slice B2 o.del.length d2, .int .i64 o.cost] 61)).drewN nq) := by repeat (first | with_reducible exact Below.refl _ _ | with_reducible apply bdrew | with_reducible apply bdrewN | with_reducible apply balloc | ((with_reducible refine bset ?_ ?_ _); rotate_left; (first | omega | (simp <;> omega))))
                          have CQ : Cls ((w6.alloc (.cells #[.slice B0 o.pre.length d0, .slice B1 o.add.length d1, .slice B2 o.del.length d2, .int .i64 o.cost] 61)).drewN nq) [(w.heap.size, 0, .int .i64 (n : Int)), (w.heap.size, 1, .slice Ai t.init.length ci), (w.heap.size, 2, .slice Ag t.goal.length cg), (w.heap.size, 3, .slice (some ao) t.ops.length co), (g, q, .int .i64 y), (w6.heap.size, 0, .slice B0 o.pre.length d0), (w6.heap.size, 1, .slice B1 o.add.length d1), (w6.heap.size, 2, .slice B2 o.del.length d2), (w6.heap.size, 3, .int .i64 o.cost)] := Cls.below (w := (w6.alloc (.cells #[.slice B0 o.pre.length d0, .slice B1 o.add.length d1, .slice B2 o.del.length d2, .int .i64 o.cost] 61))) (by repeat (first | with_reducible exact Below.refl _ _ | with_reducible apply bdrew | with_reducible apply bdrewN | with_reducible apply balloc | ((with_reducible refine bset ?_ ?_ _); rotate_left; (first | omega | (simp <;> omega))))) (by simp [Cls, go_sem, Ft, ytw0, ytwp1, ytwp2, hcy, hfy, hg6])
                          obtain ⟨w7, hw7⟩ : ∃ wo : World, wo = (w6.alloc (.cells #[.slice B0 o.pre.length d0, .slice B1 o.add.length d1, .slice B2 o.del.length d2, .int .i64 o.cost] 61)).drewN nq := ⟨_, rfl⟩
                          rw [← hw7] at DQ E3 E6 CQ ⊢
                          clear hw7
                          have dqs := DQ.size
                          have e6s := E6.size
                          have Fq7 := CQ
                          simp only [Cls, and_true] at Fq7
                          have yq7g0 : g < w7.heap.size := CQ.blk (b := g) (k := q) (v := .int .i64 y) (by simp)
                          have yq7gp1 : g < w7.heap.size + 1 := (by omega)
                          have yq7gp2 : g < w7.heap.size + 1 + 1 := (by omega)
                          have yq7w0 : w.heap.size < w7.heap.size := CQ.blk (b := w.heap.size) (k := 0) (v := .int .i64 (n : Int)) (by simp)
                          have yq7wp1 : w.heap.size < w7.heap.size + 1 := (by omega)
                          have yq7wp2 : w.heap.size < w7.heap.size + 1 + 1 := (by omega)
                          have yq7w60 : w6.heap.size < w7.heap.size := CQ.blk (b := w6.heap.size) (k := 0) (v := .slice B0 o.pre.length d0) (by simp)
                          have yq7w6p1 : w6.heap.size < w7.heap.size + 1 := (by omega)
                          have yq7w6p2 : w6.heap.size < w7.heap.size + 1 + 1 := (by omega)
                          go_wp2_with fail
                          refine (has_no _ _ _ (q : Int) _ (hm.del.below (by repeat (first | with_reducible exact DQ | with_reducible apply bdrew | with_reducible apply bdrewN | with_reducible apply balloc | ((with_reducible refine bset ?_ ?_ _); rotate_left; (first | omega | (simp <;> omega)))))) hld HD.out).mono ?_
                          rintro e w9 ⟨rfl, hW⟩
                          rw [← hW]
                          clear hW w9
                          go_wp2_with fail
                          refine (with_any _ B0 d0 o.pre.length o.pre (q : Int) (hm.pre.below (by repeat (first | with_reducible exact DQ | with_reducible apply bdrew | with_reducible apply bdrewN | with_reducible apply balloc | ((with_reducible refine bset ?_ ?_ _); rotate_left; (first | omega | (simp <;> omega)))))) rfl hnp.out.2.1 hnp.out.2.2 (fun e => (hnp.out.1 e).2) (by omega) HSP.out.pairwise).mono ?_
                          rintro e w8 ⟨v8, rfl, ho8, hB8⟩
                          have D8 := dstep w hB8 (by repeat (first | with_reducible exact DQ | with_reducible apply bdrew | with_reducible apply bdrewN | with_reducible apply balloc | ((with_reducible refine bset ?_ ?_ _); rotate_left; (first | omega | (simp <;> omega)))))
                          have d8s := D8.size
                          have Ew3_8 := dstep w3 hB8 (by repeat (first | with_reducible exact E3 | with_reducible apply bdrew | with_reducible apply bdrewN | with_reducible apply balloc | ((with_reducible refine bset ?_ ?_ _); rotate_left; (first | omega | (simp <;> omega)))))
                          have Ew6_8 := dstep w6 hB8 (by repeat (first | with_reducible exact E6 | with_reducible apply bdrew | with_reducible apply bdrewN | with_reducible apply balloc | ((with_reducible refine bset ?_ ?_ _); rotate_left; (first | omega | (simp <;> omega)))))
                          have Ew7_8 := dstep w7 hB8 (by repeat (first | with_reducible exact Below.refl _ _ | with_reducible apply bdrew | with_reducible apply bdrewN | with_reducible apply balloc | ((with_reducible refine bset ?_ ?_ _); rotate_left; (first | omega | (simp <;> omega)))))
                          have C8 := Cls.below (l := [(w.heap.size, 0, .int .i64 (n : Int)), (w.heap.size, 1, .slice Ai t.init.length ci), (w.heap.size, 2, .slice Ag t.goal.length cg), (w.heap.size, 3, .slice (some ao) t.ops.length co), (g, q, .int .i64 y), (w6.heap.size, 0, .slice B0 o.pre.length d0), (w6.heap.size, 1, .slice B1 o.add.length d1), (w6.heap.size, 2, .slice B2 o.del.length d2), (w6.heap.size, 3, .int .i64 o.cost)]) hB8 (by simp [Cls, go_sem, Fq7, yq7g0, yq7gp1, yq7gp2, yq7w0, yq7wp1, yq7wp2, yq7w60, yq7w6p1, yq7w6p2])
                          have F8 := C8
                          simp only [Cls, and_true] at F8
                          have y8g0 : g < w8.heap.size := C8.blk (b := g) (k := q) (v := .int .i64 y) (by simp)
                          have y8gp1 : g < w8.heap.size + 1 := (by omega)
                          have y8gp2 : g < w8.heap.size + 1 + 1 := (by omega)
                          have y8w0 : w.heap.size < w8.heap.size := C8.blk (b := w.heap.size) (k := 0) (v := .int .i64 (n : Int)) (by simp)
                          have y8wp1 : w.heap.size < w8.heap.size + 1 := (by omega)
                          have y8wp2 : w.heap.size < w8.heap.size + 1 + 1 := (by omega)
                          have y8w60 : w6.heap.size < w8.heap.size := C8.blk (b := w6.heap.size) (k := 0) (v := .slice B0 o.pre.length d0) (by simp)
                          have y8w6p1 : w6.heap.size < w8.heap.size + 1 := (by omega)
                          have y8w6p2 : w6.heap.size < w8.heap.size + 1 + 1 := (by omega)
                          obtain ⟨A8, c8, rfl, -, hI8⟩ := ho8.form
                          obtain ⟨vv, hvv⟩ : ∃ vv, Hid (valP V (withV o.pre (q : Int)) = vv) := ⟨_, Lib.hid rfl⟩
                          have HRG := Lib.hid (fun x hx => by rcases withV_mem.1 hx with h | h; (subst h; exact hqI.out); exact hoo.out.1 x h : ∀ x ∈ (withV o.pre (q : Int)), 0 ≤ x ∧ x < (n : Int))
                          have hll : (withV o.pre (q : Int)).length ≤ 1000000 := withV_short (q : Int) (by omega)
                          have HVI := Lib.hid (show InV vv by rw [← hvv.out]; exact valP_in hV.out.all HRG.out)
                          obtain ⟨pp, hpp⟩ : ∃ pp, Hid (plusV vv o.cost = pp) := ⟨_, Lib.hid rfl⟩
                          have HCI := Lib.hid (costIn HOPS.out HMO.out)
                          have HMX := Lib.hid (mix_set (n := n) (show toO V t.ops (k : Int) (q : Int) (j + 1) = min y pp by rw [HTS.out, stepO_some HARC.out, HY.out, hvv.out, hpp.out]))
                          have hb1 : (q : Int) < (n : Int) := hqI.out.2
                          have hb0 : (0 : Int) ≤ (q : Int) := hqI.out.1
                          go_wp2_with fail
                          refine wp_region_held_drew (S := fun W => W.cell? ⟨w6.heap.size, 3, none⟩ = some (.int .i64 o.cost)) (by kernel_rfl) (by simp [go_sem, F8, y8g0, y8gp1, y8gp2, y8w0, y8wp1, y8wp2, y8w60, y8w6p1, y8w6p2]) (fun hHeld => ?_)
                          refine wpAnyH_take (i := 0) (v := ?vo20) rfl (by kernel_rfl) (by kernel_rfl) (by kernel_rfl) (fun _ _ _ h => h) (Or.inl ⟨by rfl, ?ho20⟩) (by assumption) ?ro20
                          case ho20 => (intro w hSw; (try dsimp only at hSw); go_simp; (try with_reducible rfl))
                          try simp only [Act.put, List.getElem_toArray, List.getElem_cons_succ, List.getElem_cons_zero, List.setIfInBounds_toArray, List.set_cons_zero, List.set_cons_succ]
                          refine wpAnyH_take (i := 1) (v := ?vo21) rfl (by kernel_rfl) (by kernel_rfl) (by kernel_rfl) (fun _ _ _ h => h) (Or.inl ⟨by rfl, ?ho21⟩) (by assumption) ?ro21
                          case ho21 => (intro w hSw; (try dsimp only at hSw); go_simp; (try with_reducible rfl))
                          try simp only [Act.put, List.getElem_toArray, List.getElem_cons_succ, List.getElem_cons_zero, List.setIfInBounds_toArray, List.set_cons_zero, List.set_cons_succ]
                          refine wpAnyH_take (i := 2) (v := ?vo22) rfl (by kernel_rfl) (by kernel_rfl) (by kernel_rfl) (fun _ _ _ h => h) (Or.inl ⟨by rfl, ?ho22⟩) (by assumption) ?ro22
                          case ho22 => (intro w hSw; (try dsimp only at hSw); go_simp; (try with_reducible rfl))
                          try simp only [Act.put, List.getElem_toArray, List.getElem_cons_succ, List.getElem_cons_zero, List.setIfInBounds_toArray, List.set_cons_zero, List.set_cons_succ]
                          refine wpAnyH_take (i := 3) (v := ?vo23) rfl (by kernel_rfl) (by kernel_rfl) (by kernel_rfl) (fun _ _ _ h => h) (Or.inl ⟨by rfl, ?ho23⟩) (by assumption) ?ro23
                          case ho23 => (intro w hSw; (try dsimp only at hSw); go_simp; (try with_reducible rfl))
                          try simp only [Act.put, List.getElem_toArray, List.getElem_cons_succ, List.getElem_cons_zero, List.setIfInBounds_toArray, List.set_cons_zero, List.set_cons_succ]
                          refine wpAnyH_take (i := 4) (v := ?vo24) rfl (by kernel_rfl) (by kernel_rfl) (by kernel_rfl) (fun _ _ _ h => h) (Or.inl ⟨by rfl, ?ho24⟩) (by assumption) ?ro24
                          case ho24 => (intro w hSw; (try dsimp only at hSw); go_simp; (try with_reducible rfl))
                          try simp only [Act.put, List.getElem_toArray, List.getElem_cons_succ, List.getElem_cons_zero, List.setIfInBounds_toArray, List.set_cons_zero, List.set_cons_succ]
                          refine wpAnyH_take (i := 6) (v := ?vo26) rfl (by kernel_rfl) (by kernel_rfl) (by kernel_rfl) (fun _ _ _ h => h) (Or.inl ⟨by rfl, ?ho26⟩) (by assumption) ?ro26
                          case ho26 => (intro w hSw; (try dsimp only at hSw); go_simp; (try with_reducible rfl))
                          try simp only [Act.put, List.getElem_toArray, List.getElem_cons_succ, List.getElem_cons_zero, List.setIfInBounds_toArray, List.set_cons_zero, List.set_cons_succ]
                          refine wpAnyH_take (i := 7) (v := ?vo27) rfl (by kernel_rfl) (by kernel_rfl) (by kernel_rfl) (fun _ _ _ h => h) (Or.inl ⟨by rfl, ?ho27⟩) (by assumption) ?ro27
                          case ho27 => (intro w hSw; (try dsimp only at hSw); go_simp; (try with_reducible rfl))
                          try simp only [Act.put, List.getElem_toArray, List.getElem_cons_succ, List.getElem_cons_zero, List.setIfInBounds_toArray, List.set_cons_zero, List.set_cons_succ]
                          refine wpAnyH_take (i := 9) (v := ?vo29) rfl (by kernel_rfl) (by kernel_rfl) (by kernel_rfl) (fun _ _ _ h => h) (Or.inl ⟨by rfl, ?ho29⟩) (by assumption) ?ro29
                          case ho29 => (intro w hSw; (try dsimp only at hSw); go_simp; (try with_reducible rfl))
                          try simp only [Act.put, List.getElem_toArray, List.getElem_cons_succ, List.getElem_cons_zero, List.setIfInBounds_toArray, List.set_cons_zero, List.set_cons_succ]
                          refine wpAnyH_take (i := 10) (v := ?vo210) rfl (by kernel_rfl) (by kernel_rfl) (by kernel_rfl) (fun _ _ _ h => h) (Or.inl ⟨by rfl, ?ho210⟩) (by assumption) ?ro210
                          case ho210 => (intro w hSw; (try dsimp only at hSw); go_simp; (try with_reducible rfl))
                          try simp only [Act.put, List.getElem_toArray, List.getElem_cons_succ, List.getElem_cons_zero, List.setIfInBounds_toArray, List.set_cons_zero, List.set_cons_succ]
                          refine wpAnyH_ready (rs := [5, 8]) (by kernel_rfl) (by simp) ?_
                          refine (AllReadyH.cons rfl (fun K hK => ?bo21x5) (AllReadyH.cons rfl (fun K hK => ?bo21x8) AllReadyH.nil))
                          case bo21x5 =>
                            go_simp
                            have hSS := hHeld
                            go_wp2_with fail
                            refine hK.out _ _ hSS (fun hHeld => ?_)
                            clear hK K
                            try simp only [Act.put, List.getElem_toArray, List.getElem_cons_succ, List.getElem_cons_zero, List.setIfInBounds_toArray, List.set_cons_zero, List.set_cons_succ]
                            refine wpAnyH_ready (rs := [8]) (by kernel_rfl) (by simp) ?_
                            refine (AllReadyH.cons rfl (fun K hK => ?bo22x8) AllReadyH.nil)
                            case bo22x8 =>
                              go_simp
                              go_at_call 65
                              refine (setval_any _ (some ad) n c V ((hL.below hB23).below (by repeat (first | with_reducible exact Ew3_8 | with_reducible apply bdrew | with_reducible apply bdrewN | with_reducible apply balloc | ((with_reducible refine bset ?_ ?_ _); rotate_left; (first | omega | (simp <;> omega)))))) A8 (withV o.pre (q : Int)) c8 (hI8.below (by repeat (first | with_reducible exact Below.refl _ _ | with_reducible apply bdrew | with_reducible apply bdrewN | with_reducible apply balloc | ((with_reducible refine bset ?_ ?_ _); rotate_left; (first | omega | (simp <;> omega)))))) hll (by omega) HRG.out).mono ?_
                              rintro e w9 ⟨he, hB9⟩
                              rw [hvv.out] at he
                              subst he
                              have D9 := dstep w hB9 (by repeat (first | with_reducible exact D8 | with_reducible apply bdrew | with_reducible apply bdrewN | with_reducible apply balloc | ((with_reducible refine bset ?_ ?_ _); rotate_left; (first | omega | (simp <;> omega)))))
                              have d9s := D9.size
                              have Ew3_9 := dstep w3 hB9 (by repeat (first | with_reducible exact Ew3_8 | with_reducible apply bdrew | with_reducible apply bdrewN | with_reducible apply balloc | ((with_reducible refine bset ?_ ?_ _); rotate_left; (first | omega | (simp <;> omega)))))
                              have Ew6_9 := dstep w6 hB9 (by repeat (first | with_reducible exact Ew6_8 | with_reducible apply bdrew | with_reducible apply bdrewN | with_reducible apply balloc | ((with_reducible refine bset ?_ ?_ _); rotate_left; (first | omega | (simp <;> omega)))))
                              have Ew7_9 := dstep w7 hB9 (by repeat (first | with_reducible exact Ew7_8 | with_reducible apply bdrew | with_reducible apply bdrewN | with_reducible apply balloc | ((with_reducible refine bset ?_ ?_ _); rotate_left; (first | omega | (simp <;> omega)))))
                              have Ew8_9 := dstep w8 hB9 (by repeat (first | with_reducible exact Below.refl _ _ | with_reducible apply bdrew | with_reducible apply bdrewN | with_reducible apply balloc | ((with_reducible refine bset ?_ ?_ _); rotate_left; (first | omega | (simp <;> omega)))))
                              have C9 := Cls.below (l := [(w.heap.size, 0, .int .i64 (n : Int)), (w.heap.size, 1, .slice Ai t.init.length ci), (w.heap.size, 2, .slice Ag t.goal.length cg), (w.heap.size, 3, .slice (some ao) t.ops.length co), (g, q, .int .i64 y), (w6.heap.size, 0, .slice B0 o.pre.length d0), (w6.heap.size, 1, .slice B1 o.add.length d1), (w6.heap.size, 2, .slice B2 o.del.length d2), (w6.heap.size, 3, .int .i64 o.cost)]) hB9 (by simp [Cls, go_sem, F8, y8g0, y8gp1, y8gp2, y8w0, y8wp1, y8wp2, y8w60, y8w6p1, y8w6p2])
                              have F9 := C9
                              simp only [Cls, and_true] at F9
                              have y9g0 : g < w9.heap.size := C9.blk (b := g) (k := q) (v := .int .i64 y) (by simp)
                              have y9gp1 : g < w9.heap.size + 1 := (by omega)
                              have y9gp2 : g < w9.heap.size + 1 + 1 := (by omega)
                              have y9w0 : w.heap.size < w9.heap.size := C9.blk (b := w.heap.size) (k := 0) (v := .int .i64 (n : Int)) (by simp)
                              have y9wp1 : w.heap.size < w9.heap.size + 1 := (by omega)
                              have y9wp2 : w.heap.size < w9.heap.size + 1 + 1 := (by omega)
                              have y9w60 : w6.heap.size < w9.heap.size := C9.blk (b := w6.heap.size) (k := 0) (v := .slice B0 o.pre.length d0) (by simp)
                              have y9w6p1 : w6.heap.size < w9.heap.size + 1 := (by omega)
                              have y9w6p2 : w6.heap.size < w9.heap.size + 1 + 1 := (by omega)
                              have hSS : w9.cell? ⟨w6.heap.size, 3, none⟩ = some (.int .i64 o.cost) := (by have q := C9; simp only [Cls, and_true] at q; simp [q])
                              go_wp2_with fail
                              refine hK.out _ _ hSS (fun hHeld => ?_)
                              clear hK K
                              try simp only [Act.put, List.getElem_toArray, List.getElem_cons_succ, List.getElem_cons_zero, List.setIfInBounds_toArray, List.set_cons_zero, List.set_cons_succ]
                              refine wpAnyH_ready (rs := [11]) (by kernel_rfl) (by simp) ?_
                              refine (AllReadyH.cons rfl (fun K hK => ?bo23x11) AllReadyH.nil)
                              case bo23x11 =>
                                go_simp
                                go_at_call 64
                                refine (rplus_any vv o.cost _ HVI.out HCI.out).mono ?_
                                rintro e w9 ⟨he, hW⟩
                                rw [hpp.out] at he
                                subst he
                                rw [← hW]
                                clear hW w9
                                have hSS := hHeld
                                go_wp2_with fail
                                refine hK.out _ _ hSS (fun hHeld => ?_)
                                clear hK K
                                try simp only [Act.put, List.getElem_toArray, List.getElem_cons_succ, List.getElem_cons_zero, List.setIfInBounds_toArray, List.set_cons_zero, List.set_cons_succ]
                                refine wpAnyH_take (i := 12) (v := ?vo2e412) rfl (by kernel_rfl) (by kernel_rfl) (by kernel_rfl) (fun _ _ _ h => h) (Or.inl ⟨by rfl, ?ho2e412⟩) (by assumption) ?ro2e412
                                case ho2e412 => (intro w hSw; (try dsimp only at hSw); go_simp; (try with_reducible rfl))
                                try simp only [Act.put, List.getElem_toArray, List.getElem_cons_succ, List.getElem_cons_zero, List.setIfInBounds_toArray, List.set_cons_zero, List.set_cons_succ]
                                refine wpAnyH_take (i := 13) (v := ?vo2l513) rfl (by kernel_rfl) (by kernel_rfl) (by kernel_rfl) (fun _ _ _ h => h) (Or.inl ⟨by rfl, ?ho2l513⟩) (by assumption) ?ro2l513
                                case ho2l513 => (intro w hSw; (try dsimp only at hSw); go_simp; (try with_reducible rfl))
                                try simp only [Act.put, List.getElem_toArray, List.getElem_cons_succ, List.getElem_cons_zero, List.setIfInBounds_toArray, List.set_cons_zero, List.set_cons_succ]
                                refine wpAnyH_ready (rs := [14]) (by kernel_rfl) (by simp) ?_
                                refine AllReadyH.cons rfl (fun K hK => ?_) AllReadyH.nil
                                go_simp
                                have hgne : ¬ g = w6.heap.size := (by omega)
                                have hgne2 : ¬ w6.heap.size = g := (by omega)
                                have hSS : (w9.setCell ⟨g, q, none⟩ (.int .i64 (min y pp))).cell? ⟨w6.heap.size, 3, none⟩ = some (.int .i64 o.cost) := (by simp [go_sem, hHeld, hgne, hgne2, F9, y9g0, y9gp1, y9gp2, y9w0, y9wp1, y9wp2, y9w60, y9w6p1, y9w6p2])
                                go_wp2_with fail
                                refine hK.out _ _ hSS (fun hHeld => ?_)
                                clear hK K
                                try simp only [Act.put, List.getElem_toArray, List.getElem_cons_succ, List.getElem_cons_zero, List.setIfInBounds_toArray, List.set_cons_zero, List.set_cons_succ]
                                refine wpAnyH_done (by kernel_rfl) ?_ _
                                go_wp2
                                go_roundg (g6 - 1)
                                case measure => exact hj1.out.2
                                case rel => exact ⟨j + 1, by go_num, Lib.hid hj1.out.1, by rw [← HMX.out]; exact OwnI.set_ (OwnI.below HROW.out (by repeat (first | with_reducible exact Ew6_9 | with_reducible apply bdrew | with_reducible apply bdrewN | with_reducible apply balloc | ((with_reducible refine bset ?_ ?_ _); rotate_left; (first | omega | (simp <;> omega)))))) (rowV_len _ _) q _, (by repeat (first | with_reducible exact Ew3_9 | with_reducible apply bdrew | with_reducible apply bdrewN | with_reducible apply balloc | ((with_reducible refine bset ?_ ?_ _); rotate_left; (first | omega | (simp <;> omega))))), (by (first | omega | (simp <;> omega))), (by repeat (first | with_reducible exact D9 | with_reducible apply bdrew | with_reducible apply bdrewN | with_reducible apply balloc | ((with_reducible refine bset ?_ ?_ _); rotate_left; (first | omega | (simp <;> omega))))), (by simp [Cls, go_sem, F9, y9g0, y9gp1, y9gp2, y9w0, y9wp1, y9wp2, y9w60, y9w6p1, y9w6p2]; try omega)⟩
                          case bo21x8 =>
                            go_simp
                            go_at_call 65
                            refine (setval_any _ (some ad) n c V ((hL.below hB23).below (by repeat (first | with_reducible exact Ew3_8 | with_reducible apply bdrew | with_reducible apply bdrewN | with_reducible apply balloc | ((with_reducible refine bset ?_ ?_ _); rotate_left; (first | omega | (simp <;> omega)))))) A8 (withV o.pre (q : Int)) c8 (hI8.below (by repeat (first | with_reducible exact Below.refl _ _ | with_reducible apply bdrew | with_reducible apply bdrewN | with_reducible apply balloc | ((with_reducible refine bset ?_ ?_ _); rotate_left; (first | omega | (simp <;> omega)))))) hll (by omega) HRG.out).mono ?_
                            rintro e w9 ⟨he, hB9⟩
                            rw [hvv.out] at he
                            subst he
                            have D9 := dstep w hB9 (by repeat (first | with_reducible exact D8 | with_reducible apply bdrew | with_reducible apply bdrewN | with_reducible apply balloc | ((with_reducible refine bset ?_ ?_ _); rotate_left; (first | omega | (simp <;> omega)))))
                            have d9s := D9.size
                            have Ew3_9 := dstep w3 hB9 (by repeat (first | with_reducible exact Ew3_8 | with_reducible apply bdrew | with_reducible apply bdrewN | with_reducible apply balloc | ((with_reducible refine bset ?_ ?_ _); rotate_left; (first | omega | (simp <;> omega)))))
                            have Ew6_9 := dstep w6 hB9 (by repeat (first | with_reducible exact Ew6_8 | with_reducible apply bdrew | with_reducible apply bdrewN | with_reducible apply balloc | ((with_reducible refine bset ?_ ?_ _); rotate_left; (first | omega | (simp <;> omega)))))
                            have Ew7_9 := dstep w7 hB9 (by repeat (first | with_reducible exact Ew7_8 | with_reducible apply bdrew | with_reducible apply bdrewN | with_reducible apply balloc | ((with_reducible refine bset ?_ ?_ _); rotate_left; (first | omega | (simp <;> omega)))))
                            have Ew8_9 := dstep w8 hB9 (by repeat (first | with_reducible exact Below.refl _ _ | with_reducible apply bdrew | with_reducible apply bdrewN | with_reducible apply balloc | ((with_reducible refine bset ?_ ?_ _); rotate_left; (first | omega | (simp <;> omega)))))
                            have C9 := Cls.below (l := [(w.heap.size, 0, .int .i64 (n : Int)), (w.heap.size, 1, .slice Ai t.init.length ci), (w.heap.size, 2, .slice Ag t.goal.length cg), (w.heap.size, 3, .slice (some ao) t.ops.length co), (g, q, .int .i64 y), (w6.heap.size, 0, .slice B0 o.pre.length d0), (w6.heap.size, 1, .slice B1 o.add.length d1), (w6.heap.size, 2, .slice B2 o.del.length d2), (w6.heap.size, 3, .int .i64 o.cost)]) hB9 (by simp [Cls, go_sem, F8, y8g0, y8gp1, y8gp2, y8w0, y8wp1, y8wp2, y8w60, y8w6p1, y8w6p2])
                            have F9 := C9
                            simp only [Cls, and_true] at F9
                            have y9g0 : g < w9.heap.size := C9.blk (b := g) (k := q) (v := .int .i64 y) (by simp)
                            have y9gp1 : g < w9.heap.size + 1 := (by omega)
                            have y9gp2 : g < w9.heap.size + 1 + 1 := (by omega)
                            have y9w0 : w.heap.size < w9.heap.size := C9.blk (b := w.heap.size) (k := 0) (v := .int .i64 (n : Int)) (by simp)
                            have y9wp1 : w.heap.size < w9.heap.size + 1 := (by omega)
                            have y9wp2 : w.heap.size < w9.heap.size + 1 + 1 := (by omega)
                            have y9w60 : w6.heap.size < w9.heap.size := C9.blk (b := w6.heap.size) (k := 0) (v := .slice B0 o.pre.length d0) (by simp)
                            have y9w6p1 : w6.heap.size < w9.heap.size + 1 := (by omega)
                            have y9w6p2 : w6.heap.size < w9.heap.size + 1 + 1 := (by omega)
                            have hSS : w9.cell? ⟨w6.heap.size, 3, none⟩ = some (.int .i64 o.cost) := (by have q := C9; simp only [Cls, and_true] at q; simp [q])
                            go_wp2_with fail
                            refine hK.out _ _ hSS (fun hHeld => ?_)
                            clear hK K
                            try simp only [Act.put, List.getElem_toArray, List.getElem_cons_succ, List.getElem_cons_zero, List.setIfInBounds_toArray, List.set_cons_zero, List.set_cons_succ]
                            refine wpAnyH_ready (rs := [5, 11]) (by kernel_rfl) (by simp) ?_
                            refine (AllReadyH.cons rfl (fun K hK => ?bo27x5) (AllReadyH.cons rfl (fun K hK => ?bo27x11) AllReadyH.nil))
                            case bo27x5 =>
                              go_simp
                              have hSS := hHeld
                              go_wp2_with fail
                              refine hK.out _ _ hSS (fun hHeld => ?_)
                              clear hK K
                              try simp only [Act.put, List.getElem_toArray, List.getElem_cons_succ, List.getElem_cons_zero, List.setIfInBounds_toArray, List.set_cons_zero, List.set_cons_succ]
                              refine wpAnyH_ready (rs := [11]) (by kernel_rfl) (by simp) ?_
                              refine (AllReadyH.cons rfl (fun K hK => ?bo28x11) AllReadyH.nil)
                              case bo28x11 =>
                                go_simp
                                go_at_call 64
                                refine (rplus_any vv o.cost _ HVI.out HCI.out).mono ?_
                                rintro e w9 ⟨he, hW⟩
                                rw [hpp.out] at he
                                subst he
                                rw [← hW]
                                clear hW w9
                                have hSS := hHeld
                                go_wp2_with fail
                                refine hK.out _ _ hSS (fun hHeld => ?_)
                                clear hK K
                                try simp only [Act.put, List.getElem_toArray, List.getElem_cons_succ, List.getElem_cons_zero, List.setIfInBounds_toArray, List.set_cons_zero, List.set_cons_succ]
                                refine wpAnyH_take (i := 12) (v := ?vo2e912) rfl (by kernel_rfl) (by kernel_rfl) (by kernel_rfl) (fun _ _ _ h => h) (Or.inl ⟨by rfl, ?ho2e912⟩) (by assumption) ?ro2e912
                                case ho2e912 => (intro w hSw; (try dsimp only at hSw); go_simp; (try with_reducible rfl))
                                try simp only [Act.put, List.getElem_toArray, List.getElem_cons_succ, List.getElem_cons_zero, List.setIfInBounds_toArray, List.set_cons_zero, List.set_cons_succ]
                                refine wpAnyH_take (i := 13) (v := ?vo2l1013) rfl (by kernel_rfl) (by kernel_rfl) (by kernel_rfl) (fun _ _ _ h => h) (Or.inl ⟨by rfl, ?ho2l1013⟩) (by assumption) ?ro2l1013
                                case ho2l1013 => (intro w hSw; (try dsimp only at hSw); go_simp; (try with_reducible rfl))
                                try simp only [Act.put, List.getElem_toArray, List.getElem_cons_succ, List.getElem_cons_zero, List.setIfInBounds_toArray, List.set_cons_zero, List.set_cons_succ]
                                refine wpAnyH_ready (rs := [14]) (by kernel_rfl) (by simp) ?_
                                refine AllReadyH.cons rfl (fun K hK => ?_) AllReadyH.nil
                                go_simp
                                have hgne : ¬ g = w6.heap.size := (by omega)
                                have hgne2 : ¬ w6.heap.size = g := (by omega)
                                have hSS : (w9.setCell ⟨g, q, none⟩ (.int .i64 (min y pp))).cell? ⟨w6.heap.size, 3, none⟩ = some (.int .i64 o.cost) := (by simp [go_sem, hHeld, hgne, hgne2, F9, y9g0, y9gp1, y9gp2, y9w0, y9wp1, y9wp2, y9w60, y9w6p1, y9w6p2])
                                go_wp2_with fail
                                refine hK.out _ _ hSS (fun hHeld => ?_)
                                clear hK K
                                try simp only [Act.put, List.getElem_toArray, List.getElem_cons_succ, List.getElem_cons_zero, List.setIfInBounds_toArray, List.set_cons_zero, List.set_cons_succ]
                                refine wpAnyH_done (by kernel_rfl) ?_ _
                                go_wp2
                                go_roundg (g6 - 1)
                                case measure => exact hj1.out.2
                                case rel => exact ⟨j + 1, by go_num, Lib.hid hj1.out.1, by rw [← HMX.out]; exact OwnI.set_ (OwnI.below HROW.out (by repeat (first | with_reducible exact Ew6_9 | with_reducible apply bdrew | with_reducible apply bdrewN | with_reducible apply balloc | ((with_reducible refine bset ?_ ?_ _); rotate_left; (first | omega | (simp <;> omega)))))) (rowV_len _ _) q _, (by repeat (first | with_reducible exact Ew3_9 | with_reducible apply bdrew | with_reducible apply bdrewN | with_reducible apply balloc | ((with_reducible refine bset ?_ ?_ _); rotate_left; (first | omega | (simp <;> omega))))), (by (first | omega | (simp <;> omega))), (by repeat (first | with_reducible exact D9 | with_reducible apply bdrew | with_reducible apply bdrewN | with_reducible apply balloc | ((with_reducible refine bset ?_ ?_ _); rotate_left; (first | omega | (simp <;> omega))))), (by simp [Cls, go_sem, F9, y9g0, y9gp1, y9gp2, y9w0, y9wp1, y9wp2, y9w60, y9w6p1, y9w6p2]; try omega)⟩
                            case bo27x11 =>
                              go_simp
                              go_at_call 64
                              refine (rplus_any vv o.cost _ HVI.out HCI.out).mono ?_
                              rintro e w9 ⟨he, hW⟩
                              rw [hpp.out] at he
                              subst he
                              rw [← hW]
                              clear hW w9
                              have hSS := hHeld
                              go_wp2_with fail
                              refine hK.out _ _ hSS (fun hHeld => ?_)
                              clear hK K
                              try simp only [Act.put, List.getElem_toArray, List.getElem_cons_succ, List.getElem_cons_zero, List.setIfInBounds_toArray, List.set_cons_zero, List.set_cons_succ]
                              refine wpAnyH_ready (rs := [5]) (by kernel_rfl) (by simp) ?_
                              refine (AllReadyH.cons rfl (fun K hK => ?bo212x5) AllReadyH.nil)
                              case bo212x5 =>
                                go_simp
                                have hSS := hHeld
                                go_wp2_with fail
                                refine hK.out _ _ hSS (fun hHeld => ?_)
                                clear hK K
                                try simp only [Act.put, List.getElem_toArray, List.getElem_cons_succ, List.getElem_cons_zero, List.setIfInBounds_toArray, List.set_cons_zero, List.set_cons_succ]
                                refine wpAnyH_take (i := 12) (v := ?vo2e1312) rfl (by kernel_rfl) (by kernel_rfl) (by kernel_rfl) (fun _ _ _ h => h) (Or.inl ⟨by rfl, ?ho2e1312⟩) (by assumption) ?ro2e1312
                                case ho2e1312 => (intro w hSw; (try dsimp only at hSw); go_simp; (try with_reducible rfl))
                                try simp only [Act.put, List.getElem_toArray, List.getElem_cons_succ, List.getElem_cons_zero, List.setIfInBounds_toArray, List.set_cons_zero, List.set_cons_succ]
                                refine wpAnyH_take (i := 13) (v := ?vo2l1413) rfl (by kernel_rfl) (by kernel_rfl) (by kernel_rfl) (fun _ _ _ h => h) (Or.inl ⟨by rfl, ?ho2l1413⟩) (by assumption) ?ro2l1413
                                case ho2l1413 => (intro w hSw; (try dsimp only at hSw); go_simp; (try with_reducible rfl))
                                try simp only [Act.put, List.getElem_toArray, List.getElem_cons_succ, List.getElem_cons_zero, List.setIfInBounds_toArray, List.set_cons_zero, List.set_cons_succ]
                                refine wpAnyH_ready (rs := [14]) (by kernel_rfl) (by simp) ?_
                                refine AllReadyH.cons rfl (fun K hK => ?_) AllReadyH.nil
                                go_simp
                                have hgne : ¬ g = w6.heap.size := (by omega)
                                have hgne2 : ¬ w6.heap.size = g := (by omega)
                                have hSS : (w9.setCell ⟨g, q, none⟩ (.int .i64 (min y pp))).cell? ⟨w6.heap.size, 3, none⟩ = some (.int .i64 o.cost) := (by simp [go_sem, hHeld, hgne, hgne2, F9, y9g0, y9gp1, y9gp2, y9w0, y9wp1, y9wp2, y9w60, y9w6p1, y9w6p2])
                                go_wp2_with fail
                                refine hK.out _ _ hSS (fun hHeld => ?_)
                                clear hK K
                                try simp only [Act.put, List.getElem_toArray, List.getElem_cons_succ, List.getElem_cons_zero, List.setIfInBounds_toArray, List.set_cons_zero, List.set_cons_succ]
                                refine wpAnyH_done (by kernel_rfl) ?_ _
                                go_wp2
                                go_roundg (g6 - 1)
                                case measure => exact hj1.out.2
                                case rel => exact ⟨j + 1, by go_num, Lib.hid hj1.out.1, by rw [← HMX.out]; exact OwnI.set_ (OwnI.below HROW.out (by repeat (first | with_reducible exact Ew6_9 | with_reducible apply bdrew | with_reducible apply bdrewN | with_reducible apply balloc | ((with_reducible refine bset ?_ ?_ _); rotate_left; (first | omega | (simp <;> omega)))))) (rowV_len _ _) q _, (by repeat (first | with_reducible exact Ew3_9 | with_reducible apply bdrew | with_reducible apply bdrewN | with_reducible apply balloc | ((with_reducible refine bset ?_ ?_ _); rotate_left; (first | omega | (simp <;> omega))))), (by (first | omega | (simp <;> omega))), (by repeat (first | with_reducible exact D9 | with_reducible apply bdrew | with_reducible apply bdrewN | with_reducible apply balloc | ((with_reducible refine bset ?_ ?_ _); rotate_left; (first | omega | (simp <;> omega))))), (by simp [Cls, go_sem, F9, y9g0, y9gp1, y9gp2, y9w0, y9wp1, y9wp2, y9w60, y9w6p1, y9w6p2]; try omega)⟩
                    · have HA := Lib.hid ha
                      by_cases hb : (q : Int) ∈ o.add
                      · have HB := Lib.hid hb
                        by_cases hd : (k : Int) ∈ o.del
                        · have HD := Lib.hid hd
                          have HARC := Lib.hid (arcV_none (p := (k : Int)) (q := (q : Int)) (fun h => ha h.1) (fun h => h.2.2 hd) (fun h => ha h.1))
                          clear ha hb hd
                          go_wp2_with fail
                          go_quiet ((go_at_call 40; first | (with_reducible show Calls _ _ #[_, .int .i64 (k : Int)] _ _; exact Calls.quiet_of_same ((has_no _ _ _ (k : Int) _ (hm.add.below (by repeat (first | with_reducible exact hBt | with_reducible apply bdrew | with_reducible apply bdrewN | with_reducible apply balloc | ((with_reducible refine bset ?_ ?_ _); rotate_left; (first | omega | (simp <;> omega)))))) hla HA.out).mono fun _ _ h => ⟨h.1, h.2.symm⟩)) | (with_reducible show Calls _ _ #[_, .int .i64 (q : Int)] _ _; exact Calls.quiet_of_same ((has_yes _ _ _ (q : Int) _ (hm.add.below (by repeat (first | with_reducible exact hBt | with_reducible apply bdrew | with_reducible apply bdrewN | with_reducible apply balloc | ((with_reducible refine bset ?_ ?_ _); rotate_left; (first | omega | (simp <;> omega)))))) hla HB.out).mono fun _ _ h => ⟨h.1, h.2.symm⟩))))
                          have DQ : Below w.heap.size w ((w6.alloc (.cells #[.slice B0 o.pre.length d0, .slice B1 o.add.length d1, .slice B2 o.del.length d2, .int .i64 o.cost] 61)).drewN nq) := by repeat (first | with_reducible exact hBt | with_reducible apply bdrew | with_reducible apply bdrewN | with_reducible apply balloc | ((with_reducible refine bset ?_ ?_ _); rotate_left; (first | omega | (simp <;> omega))))
                          have E3 : Below w3.heap.size w3 ((w6.alloc (.cells #[.slice B0 o.pre.length d0, .slice B1 o.add.length d1, .slice B2 o.del.length d2, .int .i64 o.cost] 61)).drewN nq) := by repeat (first | with_reducible exact hB36 | with_reducible apply bdrew | with_reducible apply bdrewN | with_reducible apply balloc | ((with_reducible refine bset ?_ ?_ _); rotate_left; (first | omega | (simp <;> omega))))
                          have E6 : Below w6.heap.size w6 ((w6.alloc (.cells #[.slice B0 o.pre.length d0, .slice B1 o.add.length d1, .slice B2 o.del.length d2, .int .i64 o.cost] 61)).drewN nq) := by repeat (first | with_reducible exact Below.refl _ _ | with_reducible apply bdrew | with_reducible apply bdrewN | with_reducible apply balloc | ((with_reducible refine bset ?_ ?_ _); rotate_left; (first | omega | (simp <;> omega))))
                          have CQ : Cls ((w6.alloc (.cells #[.slice B0 o.pre.length d0, .slice B1 o.add.length d1, .slice B2 o.del.length d2, .int .i64 o.cost] 61)).drewN nq) [(w.heap.size, 0, .int .i64 (n : Int)), (w.heap.size, 1, .slice Ai t.init.length ci), (w.heap.size, 2, .slice Ag t.goal.length cg), (w.heap.size, 3, .slice (some ao) t.ops.length co), (g, q, .int .i64 y), (w6.heap.size, 0, .slice B0 o.pre.length d0), (w6.heap.size, 1, .slice B1 o.add.length d1), (w6.heap.size, 2, .slice B2 o.del.length d2), (w6.heap.size, 3, .int .i64 o.cost)] := Cls.below (w := (w6.alloc (.cells #[.slice B0 o.pre.length d0, .slice B1 o.add.length d1, .slice B2 o.del.length d2, .int .i64 o.cost] 61))) (by repeat (first | with_reducible exact Below.refl _ _ | with_reducible apply bdrew | with_reducible apply bdrewN | with_reducible apply balloc | ((with_reducible refine bset ?_ ?_ _); rotate_left; (first | omega | (simp <;> omega))))) (by simp [Cls, go_sem, Ft, ytw0, ytwp1, ytwp2, hcy, hfy, hg6])
                          obtain ⟨w7, hw7⟩ : ∃ wo : World, wo = (w6.alloc (.cells #[.slice B0 o.pre.length d0, .slice B1 o.add.length d1, .slice B2 o.del.length d2, .int .i64 o.cost] 61)).drewN nq := ⟨_, rfl⟩
                          rw [← hw7] at DQ E3 E6 CQ ⊢
                          clear hw7
                          have dqs := DQ.size
                          have e6s := E6.size
                          have Fq7 := CQ
                          simp only [Cls, and_true] at Fq7
                          have yq7g0 : g < w7.heap.size := CQ.blk (b := g) (k := q) (v := .int .i64 y) (by simp)
                          have yq7gp1 : g < w7.heap.size + 1 := (by omega)
                          have yq7gp2 : g < w7.heap.size + 1 + 1 := (by omega)
                          have yq7w0 : w.heap.size < w7.heap.size := CQ.blk (b := w.heap.size) (k := 0) (v := .int .i64 (n : Int)) (by simp)
                          have yq7wp1 : w.heap.size < w7.heap.size + 1 := (by omega)
                          have yq7wp2 : w.heap.size < w7.heap.size + 1 + 1 := (by omega)
                          have yq7w60 : w6.heap.size < w7.heap.size := CQ.blk (b := w6.heap.size) (k := 0) (v := .slice B0 o.pre.length d0) (by simp)
                          have yq7w6p1 : w6.heap.size < w7.heap.size + 1 := (by omega)
                          have yq7w6p2 : w6.heap.size < w7.heap.size + 1 + 1 := (by omega)
                          go_wp2_with fail
                          refine (has_yes _ _ _ (k : Int) _ (hm.del.below (by repeat (first | with_reducible exact DQ | with_reducible apply bdrew | with_reducible apply bdrewN | with_reducible apply balloc | ((with_reducible refine bset ?_ ?_ _); rotate_left; (first | omega | (simp <;> omega)))))) hld HD.out).mono ?_
                          rintro e w9 ⟨rfl, hW⟩
                          rw [← hW]
                          clear hW w9
                          have HMS := Lib.hid (mix_same (n := n) (show toO V t.ops (k : Int) (q : Int) (j + 1) = toO V t.ops (k : Int) (q : Int) j by rw [HTS.out, stepO_none HARC.out]))
                          go_wp2
                          go_roundg (g6 - 1)
                          case measure => exact hj1.out.2
                          case rel => exact ⟨j + 1, by go_num, Lib.hid hj1.out.1, by rw [HMS.out]; exact OwnI.below HROW.out (by repeat (first | with_reducible exact E6 | with_reducible apply bdrew | with_reducible apply bdrewN | with_reducible apply balloc | ((with_reducible refine bset ?_ ?_ _); rotate_left; (first | omega | (simp <;> omega))))), (by repeat (first | with_reducible exact E3 | with_reducible apply bdrew | with_reducible apply bdrewN | with_reducible apply balloc | ((with_reducible refine bset ?_ ?_ _); rotate_left; (first | omega | (simp <;> omega))))), (by omega), (by repeat (first | with_reducible exact DQ | with_reducible apply bdrew | with_reducible apply bdrewN | with_reducible apply balloc | ((with_reducible refine bset ?_ ?_ _); rotate_left; (first | omega | (simp <;> omega))))), (by simp [Cls, go_sem, Fq7, yq7g0, yq7gp1, yq7gp2, yq7w0, yq7wp1, yq7wp2, yq7w60, yq7w6p1, yq7w6p2])⟩
                        · have HD := Lib.hid hd
                          have HARC := Lib.hid (arcV_right (p := (k : Int)) (q := (q : Int)) ⟨hb, ha, hd⟩)
                          clear ha hb hd
                          go_wp2_with fail
                          go_quiet ((go_at_call 40; first | (with_reducible show Calls _ _ #[_, .int .i64 (k : Int)] _ _; exact Calls.quiet_of_same ((has_no _ _ _ (k : Int) _ (hm.add.below (by repeat (first | with_reducible exact hBt | with_reducible apply bdrew | with_reducible apply bdrewN | with_reducible apply balloc | ((with_reducible refine bset ?_ ?_ _); rotate_left; (first | omega | (simp <;> omega)))))) hla HA.out).mono fun _ _ h => ⟨h.1, h.2.symm⟩)) | (with_reducible show Calls _ _ #[_, .int .i64 (q : Int)] _ _; exact Calls.quiet_of_same ((has_yes _ _ _ (q : Int) _ (hm.add.below (by repeat (first | with_reducible exact hBt | with_reducible apply bdrew | with_reducible apply bdrewN | with_reducible apply balloc | ((with_reducible refine bset ?_ ?_ _); rotate_left; (first | omega | (simp <;> omega)))))) hla HB.out).mono fun _ _ h => ⟨h.1, h.2.symm⟩))))
                          have DQ : Below w.heap.size w ((w6.alloc (.cells #[.slice B0 o.pre.length d0, .slice B1 o.add.length d1, .slice B2 o.del.length d2, .int .i64 o.cost] 61)).drewN nq) := by repeat (first | with_reducible exact hBt | with_reducible apply bdrew | with_reducible apply bdrewN | with_reducible apply balloc | ((with_reducible refine bset ?_ ?_ _); rotate_left; (first | omega | (simp <;> omega))))
                          have E3 : Below w3.heap.size w3 ((w6.alloc (.cells #[.slice B0 o.pre.length d0, .slice B1 o.add.length d1, .slice B2 o.del.length d2, .int .i64 o.cost] 61)).drewN nq) := by repeat (first | with_reducible exact hB36 | with_reducible apply bdrew | with_reducible apply bdrewN | with_reducible apply balloc | ((with_reducible refine bset ?_ ?_ _); rotate_left; (first | omega | (simp <;> omega))))
                          have E6 : Below w6.heap.size w6 ((w6.alloc (.cells #[.slice B0 o.pre.length d0, .slice B1 o.add.length d1, .slice B2 o.del.length d2, .int .i64 o.cost] 61)).drewN nq) := by repeat (first | with_reducible exact Below.refl _ _ | with_reducible apply bdrew | with_reducible apply bdrewN | with_reducible apply balloc | ((with_reducible refine bset ?_ ?_ _); rotate_left; (first | omega | (simp <;> omega))))
                          have CQ : Cls ((w6.alloc (.cells #[.slice B0 o.pre.length d0, .slice B1 o.add.length d1, .slice B2 o.del.length d2, .int .i64 o.cost] 61)).drewN nq) [(w.heap.size, 0, .int .i64 (n : Int)), (w.heap.size, 1, .slice Ai t.init.length ci), (w.heap.size, 2, .slice Ag t.goal.length cg), (w.heap.size, 3, .slice (some ao) t.ops.length co), (g, q, .int .i64 y), (w6.heap.size, 0, .slice B0 o.pre.length d0), (w6.heap.size, 1, .slice B1 o.add.length d1), (w6.heap.size, 2, .slice B2 o.del.length d2), (w6.heap.size, 3, .int .i64 o.cost)] := Cls.below (w := (w6.alloc (.cells #[.slice B0 o.pre.length d0, .slice B1 o.add.length d1, .slice B2 o.del.length d2, .int .i64 o.cost] 61))) (by repeat (first | with_reducible exact Below.refl _ _ | with_reducible apply bdrew | with_reducible apply bdrewN | with_reducible apply balloc | ((with_reducible refine bset ?_ ?_ _); rotate_left; (first | omega | (simp <;> omega))))) (by simp [Cls, go_sem, Ft, ytw0, ytwp1, ytwp2, hcy, hfy, hg6])
                          obtain ⟨w7, hw7⟩ : ∃ wo : World, wo = (w6.alloc (.cells #[.slice B0 o.pre.length d0, .slice B1 o.add.length d1, .slice B2 o.del.length d2, .int .i64 o.cost] 61)).drewN nq := ⟨_, rfl⟩
                          rw [← hw7] at DQ E3 E6 CQ ⊢
                          clear hw7
                          have dqs := DQ.size
                          have e6s := E6.size
                          have Fq7 := CQ
                          simp only [Cls, and_true] at Fq7
                          have yq7g0 : g < w7.heap.size := CQ.blk (b := g) (k := q) (v := .int .i64 y) (by simp)
                          have yq7gp1 : g < w7.heap.size + 1 := (by omega)
                          have yq7gp2 : g < w7.heap.size + 1 + 1 := (by omega)
                          have yq7w0 : w.heap.size < w7.heap.size := CQ.blk (b := w.heap.size) (k := 0) (v := .int .i64 (n : Int)) (by simp)
                          have yq7wp1 : w.heap.size < w7.heap.size + 1 := (by omega)
                          have yq7wp2 : w.heap.size < w7.heap.size + 1 + 1 := (by omega)
                          have yq7w60 : w6.heap.size < w7.heap.size := CQ.blk (b := w6.heap.size) (k := 0) (v := .slice B0 o.pre.length d0) (by simp)
                          have yq7w6p1 : w6.heap.size < w7.heap.size + 1 := (by omega)
                          have yq7w6p2 : w6.heap.size < w7.heap.size + 1 + 1 := (by omega)
                          go_wp2_with fail
                          refine (has_no _ _ _ (k : Int) _ (hm.del.below (by repeat (first | with_reducible exact DQ | with_reducible apply bdrew | with_reducible apply bdrewN | with_reducible apply balloc | ((with_reducible refine bset ?_ ?_ _); rotate_left; (first | omega | (simp <;> omega)))))) hld HD.out).mono ?_
                          rintro e w9 ⟨rfl, hW⟩
                          rw [← hW]
                          clear hW w9
                          go_wp2_with fail
                          refine (with_any _ B0 d0 o.pre.length o.pre (k : Int) (hm.pre.below (by repeat (first | with_reducible exact DQ | with_reducible apply bdrew | with_reducible apply bdrewN | with_reducible apply balloc | ((with_reducible refine bset ?_ ?_ _); rotate_left; (first | omega | (simp <;> omega)))))) rfl hnp.out.2.1 hnp.out.2.2 (fun e => (hnp.out.1 e).2) (by omega) HSP.out.pairwise).mono ?_
                          rintro e w8 ⟨v8, rfl, ho8, hB8⟩
                          have D8 := dstep w hB8 (by repeat (first | with_reducible exact DQ | with_reducible apply bdrew | with_reducible apply bdrewN | with_reducible apply balloc | ((with_reducible refine bset ?_ ?_ _); rotate_left; (first | omega | (simp <;> omega)))))
                          have d8s := D8.size
                          have Ew3_8 := dstep w3 hB8 (by repeat (first | with_reducible exact E3 | with_reducible apply bdrew | with_reducible apply bdrewN | with_reducible apply balloc | ((with_reducible refine bset ?_ ?_ _); rotate_left; (first | omega | (simp <;> omega)))))
                          have Ew6_8 := dstep w6 hB8 (by repeat (first | with_reducible exact E6 | with_reducible apply bdrew | with_reducible apply bdrewN | with_reducible apply balloc | ((with_reducible refine bset ?_ ?_ _); rotate_left; (first | omega | (simp <;> omega)))))
                          have Ew7_8 := dstep w7 hB8 (by repeat (first | with_reducible exact Below.refl _ _ | with_reducible apply bdrew | with_reducible apply bdrewN | with_reducible apply balloc | ((with_reducible refine bset ?_ ?_ _); rotate_left; (first | omega | (simp <;> omega)))))
                          have C8 := Cls.below (l := [(w.heap.size, 0, .int .i64 (n : Int)), (w.heap.size, 1, .slice Ai t.init.length ci), (w.heap.size, 2, .slice Ag t.goal.length cg), (w.heap.size, 3, .slice (some ao) t.ops.length co), (g, q, .int .i64 y), (w6.heap.size, 0, .slice B0 o.pre.length d0), (w6.heap.size, 1, .slice B1 o.add.length d1), (w6.heap.size, 2, .slice B2 o.del.length d2), (w6.heap.size, 3, .int .i64 o.cost)]) hB8 (by simp [Cls, go_sem, Fq7, yq7g0, yq7gp1, yq7gp2, yq7w0, yq7wp1, yq7wp2, yq7w60, yq7w6p1, yq7w6p2])
                          have F8 := C8
                          simp only [Cls, and_true] at F8
                          have y8g0 : g < w8.heap.size := C8.blk (b := g) (k := q) (v := .int .i64 y) (by simp)
                          have y8gp1 : g < w8.heap.size + 1 := (by omega)
                          have y8gp2 : g < w8.heap.size + 1 + 1 := (by omega)
                          have y8w0 : w.heap.size < w8.heap.size := C8.blk (b := w.heap.size) (k := 0) (v := .int .i64 (n : Int)) (by simp)
                          have y8wp1 : w.heap.size < w8.heap.size + 1 := (by omega)
                          have y8wp2 : w.heap.size < w8.heap.size + 1 + 1 := (by omega)
                          have y8w60 : w6.heap.size < w8.heap.size := C8.blk (b := w6.heap.size) (k := 0) (v := .slice B0 o.pre.length d0) (by simp)
                          have y8w6p1 : w6.heap.size < w8.heap.size + 1 := (by omega)
                          have y8w6p2 : w6.heap.size < w8.heap.size + 1 + 1 := (by omega)
                          obtain ⟨A8, c8, rfl, -, hI8⟩ := ho8.form
                          obtain ⟨vv, hvv⟩ : ∃ vv, Hid (valP V (withV o.pre (k : Int)) = vv) := ⟨_, Lib.hid rfl⟩
                          have HRG := Lib.hid (fun x hx => by rcases withV_mem.1 hx with h | h; (subst h; exact hkI'.out); exact hoo.out.1 x h : ∀ x ∈ (withV o.pre (k : Int)), 0 ≤ x ∧ x < (n : Int))
                          have hll : (withV o.pre (k : Int)).length ≤ 1000000 := withV_short (k : Int) (by omega)
                          have HVI := Lib.hid (show InV vv by rw [← hvv.out]; exact valP_in hV.out.all HRG.out)
                          obtain ⟨pp, hpp⟩ : ∃ pp, Hid (plusV vv o.cost = pp) := ⟨_, Lib.hid rfl⟩
                          have HCI := Lib.hid (costIn HOPS.out HMO.out)
                          have HMX := Lib.hid (mix_set (n := n) (show toO V t.ops (k : Int) (q : Int) (j + 1) = min y pp by rw [HTS.out, stepO_some HARC.out, HY.out, hvv.out, hpp.out]))
                          have hb1 : (q : Int) < (n : Int) := hqI.out.2
                          have hb0 : (0 : Int) ≤ (q : Int) := hqI.out.1
                          go_wp2_with fail
                          refine wp_region_held_drew (S := fun W => W.cell? ⟨w6.heap.size, 3, none⟩ = some (.int .i64 o.cost)) (by kernel_rfl) (by simp [go_sem, F8, y8g0, y8gp1, y8gp2, y8w0, y8wp1, y8wp2, y8w60, y8w6p1, y8w6p2]) (fun hHeld => ?_)
                          refine wpAnyH_take (i := 0) (v := ?vo30) rfl (by kernel_rfl) (by kernel_rfl) (by kernel_rfl) (fun _ _ _ h => h) (Or.inl ⟨by rfl, ?ho30⟩) (by assumption) ?ro30
                          case ho30 => (intro w hSw; (try dsimp only at hSw); go_simp; (try with_reducible rfl))
                          try simp only [Act.put, List.getElem_toArray, List.getElem_cons_succ, List.getElem_cons_zero, List.setIfInBounds_toArray, List.set_cons_zero, List.set_cons_succ]
                          refine wpAnyH_take (i := 1) (v := ?vo31) rfl (by kernel_rfl) (by kernel_rfl) (by kernel_rfl) (fun _ _ _ h => h) (Or.inl ⟨by rfl, ?ho31⟩) (by assumption) ?ro31
                          case ho31 => (intro w hSw; (try dsimp only at hSw); go_simp; (try with_reducible rfl))
                          try simp only [Act.put, List.getElem_toArray, List.getElem_cons_succ, List.getElem_cons_zero, List.setIfInBounds_toArray, List.set_cons_zero, List.set_cons_succ]
                          refine wpAnyH_take (i := 2) (v := ?vo32) rfl (by kernel_rfl) (by kernel_rfl) (by kernel_rfl) (fun _ _ _ h => h) (Or.inl ⟨by rfl, ?ho32⟩) (by assumption) ?ro32
                          case ho32 => (intro w hSw; (try dsimp only at hSw); go_simp; (try with_reducible rfl))
                          try simp only [Act.put, List.getElem_toArray, List.getElem_cons_succ, List.getElem_cons_zero, List.setIfInBounds_toArray, List.set_cons_zero, List.set_cons_succ]
                          refine wpAnyH_take (i := 3) (v := ?vo33) rfl (by kernel_rfl) (by kernel_rfl) (by kernel_rfl) (fun _ _ _ h => h) (Or.inl ⟨by rfl, ?ho33⟩) (by assumption) ?ro33
                          case ho33 => (intro w hSw; (try dsimp only at hSw); go_simp; (try with_reducible rfl))
                          try simp only [Act.put, List.getElem_toArray, List.getElem_cons_succ, List.getElem_cons_zero, List.setIfInBounds_toArray, List.set_cons_zero, List.set_cons_succ]
                          refine wpAnyH_take (i := 4) (v := ?vo34) rfl (by kernel_rfl) (by kernel_rfl) (by kernel_rfl) (fun _ _ _ h => h) (Or.inl ⟨by rfl, ?ho34⟩) (by assumption) ?ro34
                          case ho34 => (intro w hSw; (try dsimp only at hSw); go_simp; (try with_reducible rfl))
                          try simp only [Act.put, List.getElem_toArray, List.getElem_cons_succ, List.getElem_cons_zero, List.setIfInBounds_toArray, List.set_cons_zero, List.set_cons_succ]
                          refine wpAnyH_take (i := 6) (v := ?vo36) rfl (by kernel_rfl) (by kernel_rfl) (by kernel_rfl) (fun _ _ _ h => h) (Or.inl ⟨by rfl, ?ho36⟩) (by assumption) ?ro36
                          case ho36 => (intro w hSw; (try dsimp only at hSw); go_simp; (try with_reducible rfl))
                          try simp only [Act.put, List.getElem_toArray, List.getElem_cons_succ, List.getElem_cons_zero, List.setIfInBounds_toArray, List.set_cons_zero, List.set_cons_succ]
                          refine wpAnyH_take (i := 7) (v := ?vo37) rfl (by kernel_rfl) (by kernel_rfl) (by kernel_rfl) (fun _ _ _ h => h) (Or.inl ⟨by rfl, ?ho37⟩) (by assumption) ?ro37
                          case ho37 => (intro w hSw; (try dsimp only at hSw); go_simp; (try with_reducible rfl))
                          try simp only [Act.put, List.getElem_toArray, List.getElem_cons_succ, List.getElem_cons_zero, List.setIfInBounds_toArray, List.set_cons_zero, List.set_cons_succ]
                          refine wpAnyH_take (i := 9) (v := ?vo39) rfl (by kernel_rfl) (by kernel_rfl) (by kernel_rfl) (fun _ _ _ h => h) (Or.inl ⟨by rfl, ?ho39⟩) (by assumption) ?ro39
                          case ho39 => (intro w hSw; (try dsimp only at hSw); go_simp; (try with_reducible rfl))
                          try simp only [Act.put, List.getElem_toArray, List.getElem_cons_succ, List.getElem_cons_zero, List.setIfInBounds_toArray, List.set_cons_zero, List.set_cons_succ]
                          refine wpAnyH_take (i := 10) (v := ?vo310) rfl (by kernel_rfl) (by kernel_rfl) (by kernel_rfl) (fun _ _ _ h => h) (Or.inl ⟨by rfl, ?ho310⟩) (by assumption) ?ro310
                          case ho310 => (intro w hSw; (try dsimp only at hSw); go_simp; (try with_reducible rfl))
                          try simp only [Act.put, List.getElem_toArray, List.getElem_cons_succ, List.getElem_cons_zero, List.setIfInBounds_toArray, List.set_cons_zero, List.set_cons_succ]
                          refine wpAnyH_ready (rs := [5, 8]) (by kernel_rfl) (by simp) ?_
                          refine (AllReadyH.cons rfl (fun K hK => ?bo31x5) (AllReadyH.cons rfl (fun K hK => ?bo31x8) AllReadyH.nil))
                          case bo31x5 =>
                            go_simp
                            have hSS := hHeld
                            go_wp2_with fail
                            refine hK.out _ _ hSS (fun hHeld => ?_)
                            clear hK K
                            try simp only [Act.put, List.getElem_toArray, List.getElem_cons_succ, List.getElem_cons_zero, List.setIfInBounds_toArray, List.set_cons_zero, List.set_cons_succ]
                            refine wpAnyH_ready (rs := [8]) (by kernel_rfl) (by simp) ?_
                            refine (AllReadyH.cons rfl (fun K hK => ?bo32x8) AllReadyH.nil)
                            case bo32x8 =>
                              go_simp
                              go_at_call 65
                              refine (setval_any _ (some ad) n c V ((hL.below hB23).below (by repeat (first | with_reducible exact Ew3_8 | with_reducible apply bdrew | with_reducible apply bdrewN | with_reducible apply balloc | ((with_reducible refine bset ?_ ?_ _); rotate_left; (first | omega | (simp <;> omega)))))) A8 (withV o.pre (k : Int)) c8 (hI8.below (by repeat (first | with_reducible exact Below.refl _ _ | with_reducible apply bdrew | with_reducible apply bdrewN | with_reducible apply balloc | ((with_reducible refine bset ?_ ?_ _); rotate_left; (first | omega | (simp <;> omega)))))) hll (by omega) HRG.out).mono ?_
                              rintro e w9 ⟨he, hB9⟩
                              rw [hvv.out] at he
                              subst he
                              have D9 := dstep w hB9 (by repeat (first | with_reducible exact D8 | with_reducible apply bdrew | with_reducible apply bdrewN | with_reducible apply balloc | ((with_reducible refine bset ?_ ?_ _); rotate_left; (first | omega | (simp <;> omega)))))
                              have d9s := D9.size
                              have Ew3_9 := dstep w3 hB9 (by repeat (first | with_reducible exact Ew3_8 | with_reducible apply bdrew | with_reducible apply bdrewN | with_reducible apply balloc | ((with_reducible refine bset ?_ ?_ _); rotate_left; (first | omega | (simp <;> omega)))))
                              have Ew6_9 := dstep w6 hB9 (by repeat (first | with_reducible exact Ew6_8 | with_reducible apply bdrew | with_reducible apply bdrewN | with_reducible apply balloc | ((with_reducible refine bset ?_ ?_ _); rotate_left; (first | omega | (simp <;> omega)))))
                              have Ew7_9 := dstep w7 hB9 (by repeat (first | with_reducible exact Ew7_8 | with_reducible apply bdrew | with_reducible apply bdrewN | with_reducible apply balloc | ((with_reducible refine bset ?_ ?_ _); rotate_left; (first | omega | (simp <;> omega)))))
                              have Ew8_9 := dstep w8 hB9 (by repeat (first | with_reducible exact Below.refl _ _ | with_reducible apply bdrew | with_reducible apply bdrewN | with_reducible apply balloc | ((with_reducible refine bset ?_ ?_ _); rotate_left; (first | omega | (simp <;> omega)))))
                              have C9 := Cls.below (l := [(w.heap.size, 0, .int .i64 (n : Int)), (w.heap.size, 1, .slice Ai t.init.length ci), (w.heap.size, 2, .slice Ag t.goal.length cg), (w.heap.size, 3, .slice (some ao) t.ops.length co), (g, q, .int .i64 y), (w6.heap.size, 0, .slice B0 o.pre.length d0), (w6.heap.size, 1, .slice B1 o.add.length d1), (w6.heap.size, 2, .slice B2 o.del.length d2), (w6.heap.size, 3, .int .i64 o.cost)]) hB9 (by simp [Cls, go_sem, F8, y8g0, y8gp1, y8gp2, y8w0, y8wp1, y8wp2, y8w60, y8w6p1, y8w6p2])
                              have F9 := C9
                              simp only [Cls, and_true] at F9
                              have y9g0 : g < w9.heap.size := C9.blk (b := g) (k := q) (v := .int .i64 y) (by simp)
                              have y9gp1 : g < w9.heap.size + 1 := (by omega)
                              have y9gp2 : g < w9.heap.size + 1 + 1 := (by omega)
                              have y9w0 : w.heap.size < w9.heap.size := C9.blk (b := w.heap.size) (k := 0) (v := .int .i64 (n : Int)) (by simp)
                              have y9wp1 : w.heap.size < w9.heap.size + 1 := (by omega)
                              have y9wp2 : w.heap.size < w9.heap.size + 1 + 1 := (by omega)
                              have y9w60 : w6.heap.size < w9.heap.size := C9.blk (b := w6.heap.size) (k := 0) (v := .slice B0 o.pre.length d0) (by simp)
                              have y9w6p1 : w6.heap.size < w9.heap.size + 1 := (by omega)
                              have y9w6p2 : w6.heap.size < w9.heap.size + 1 + 1 := (by omega)
                              have hSS : w9.cell? ⟨w6.heap.size, 3, none⟩ = some (.int .i64 o.cost) := (by have q := C9; simp only [Cls, and_true] at q; simp [q])
                              go_wp2_with fail
                              refine hK.out _ _ hSS (fun hHeld => ?_)
                              clear hK K
                              try simp only [Act.put, List.getElem_toArray, List.getElem_cons_succ, List.getElem_cons_zero, List.setIfInBounds_toArray, List.set_cons_zero, List.set_cons_succ]
                              refine wpAnyH_ready (rs := [11]) (by kernel_rfl) (by simp) ?_
                              refine (AllReadyH.cons rfl (fun K hK => ?bo33x11) AllReadyH.nil)
                              case bo33x11 =>
                                go_simp
                                go_at_call 64
                                refine (rplus_any vv o.cost _ HVI.out HCI.out).mono ?_
                                rintro e w9 ⟨he, hW⟩
                                rw [hpp.out] at he
                                subst he
                                rw [← hW]
                                clear hW w9
                                have hSS := hHeld
                                go_wp2_with fail
                                refine hK.out _ _ hSS (fun hHeld => ?_)
                                clear hK K
                                try simp only [Act.put, List.getElem_toArray, List.getElem_cons_succ, List.getElem_cons_zero, List.setIfInBounds_toArray, List.set_cons_zero, List.set_cons_succ]
                                refine wpAnyH_take (i := 12) (v := ?vo3e412) rfl (by kernel_rfl) (by kernel_rfl) (by kernel_rfl) (fun _ _ _ h => h) (Or.inl ⟨by rfl, ?ho3e412⟩) (by assumption) ?ro3e412
                                case ho3e412 => (intro w hSw; (try dsimp only at hSw); go_simp; (try with_reducible rfl))
                                try simp only [Act.put, List.getElem_toArray, List.getElem_cons_succ, List.getElem_cons_zero, List.setIfInBounds_toArray, List.set_cons_zero, List.set_cons_succ]
                                refine wpAnyH_take (i := 13) (v := ?vo3l513) rfl (by kernel_rfl) (by kernel_rfl) (by kernel_rfl) (fun _ _ _ h => h) (Or.inl ⟨by rfl, ?ho3l513⟩) (by assumption) ?ro3l513
                                case ho3l513 => (intro w hSw; (try dsimp only at hSw); go_simp; (try with_reducible rfl))
                                try simp only [Act.put, List.getElem_toArray, List.getElem_cons_succ, List.getElem_cons_zero, List.setIfInBounds_toArray, List.set_cons_zero, List.set_cons_succ]
                                refine wpAnyH_ready (rs := [14]) (by kernel_rfl) (by simp) ?_
                                refine AllReadyH.cons rfl (fun K hK => ?_) AllReadyH.nil
                                go_simp
                                have hgne : ¬ g = w6.heap.size := (by omega)
                                have hgne2 : ¬ w6.heap.size = g := (by omega)
                                have hSS : (w9.setCell ⟨g, q, none⟩ (.int .i64 (min y pp))).cell? ⟨w6.heap.size, 3, none⟩ = some (.int .i64 o.cost) := (by simp [go_sem, hHeld, hgne, hgne2, F9, y9g0, y9gp1, y9gp2, y9w0, y9wp1, y9wp2, y9w60, y9w6p1, y9w6p2])
                                go_wp2_with fail
                                refine hK.out _ _ hSS (fun hHeld => ?_)
                                clear hK K
                                try simp only [Act.put, List.getElem_toArray, List.getElem_cons_succ, List.getElem_cons_zero, List.setIfInBounds_toArray, List.set_cons_zero, List.set_cons_succ]
                                refine wpAnyH_done (by kernel_rfl) ?_ _
                                go_wp2
                                go_roundg (g6 - 1)
                                case measure => exact hj1.out.2
                                case rel => exact ⟨j + 1, by go_num, Lib.hid hj1.out.1, by rw [← HMX.out]; exact OwnI.set_ (OwnI.below HROW.out (by repeat (first | with_reducible exact Ew6_9 | with_reducible apply bdrew | with_reducible apply bdrewN | with_reducible apply balloc | ((with_reducible refine bset ?_ ?_ _); rotate_left; (first | omega | (simp <;> omega)))))) (rowV_len _ _) q _, (by repeat (first | with_reducible exact Ew3_9 | with_reducible apply bdrew | with_reducible apply bdrewN | with_reducible apply balloc | ((with_reducible refine bset ?_ ?_ _); rotate_left; (first | omega | (simp <;> omega))))), (by (first | omega | (simp <;> omega))), (by repeat (first | with_reducible exact D9 | with_reducible apply bdrew | with_reducible apply bdrewN | with_reducible apply balloc | ((with_reducible refine bset ?_ ?_ _); rotate_left; (first | omega | (simp <;> omega))))), (by simp [Cls, go_sem, F9, y9g0, y9gp1, y9gp2, y9w0, y9wp1, y9wp2, y9w60, y9w6p1, y9w6p2]; try omega)⟩
                          case bo31x8 =>
                            go_simp
                            go_at_call 65
                            refine (setval_any _ (some ad) n c V ((hL.below hB23).below (by repeat (first | with_reducible exact Ew3_8 | with_reducible apply bdrew | with_reducible apply bdrewN | with_reducible apply balloc | ((with_reducible refine bset ?_ ?_ _); rotate_left; (first | omega | (simp <;> omega)))))) A8 (withV o.pre (k : Int)) c8 (hI8.below (by repeat (first | with_reducible exact Below.refl _ _ | with_reducible apply bdrew | with_reducible apply bdrewN | with_reducible apply balloc | ((with_reducible refine bset ?_ ?_ _); rotate_left; (first | omega | (simp <;> omega)))))) hll (by omega) HRG.out).mono ?_
                            rintro e w9 ⟨he, hB9⟩
                            rw [hvv.out] at he
                            subst he
                            have D9 := dstep w hB9 (by repeat (first | with_reducible exact D8 | with_reducible apply bdrew | with_reducible apply bdrewN | with_reducible apply balloc | ((with_reducible refine bset ?_ ?_ _); rotate_left; (first | omega | (simp <;> omega)))))
                            have d9s := D9.size
                            have Ew3_9 := dstep w3 hB9 (by repeat (first | with_reducible exact Ew3_8 | with_reducible apply bdrew | with_reducible apply bdrewN | with_reducible apply balloc | ((with_reducible refine bset ?_ ?_ _); rotate_left; (first | omega | (simp <;> omega)))))
                            have Ew6_9 := dstep w6 hB9 (by repeat (first | with_reducible exact Ew6_8 | with_reducible apply bdrew | with_reducible apply bdrewN | with_reducible apply balloc | ((with_reducible refine bset ?_ ?_ _); rotate_left; (first | omega | (simp <;> omega)))))
                            have Ew7_9 := dstep w7 hB9 (by repeat (first | with_reducible exact Ew7_8 | with_reducible apply bdrew | with_reducible apply bdrewN | with_reducible apply balloc | ((with_reducible refine bset ?_ ?_ _); rotate_left; (first | omega | (simp <;> omega)))))
                            have Ew8_9 := dstep w8 hB9 (by repeat (first | with_reducible exact Below.refl _ _ | with_reducible apply bdrew | with_reducible apply bdrewN | with_reducible apply balloc | ((with_reducible refine bset ?_ ?_ _); rotate_left; (first | omega | (simp <;> omega)))))
                            have C9 := Cls.below (l := [(w.heap.size, 0, .int .i64 (n : Int)), (w.heap.size, 1, .slice Ai t.init.length ci), (w.heap.size, 2, .slice Ag t.goal.length cg), (w.heap.size, 3, .slice (some ao) t.ops.length co), (g, q, .int .i64 y), (w6.heap.size, 0, .slice B0 o.pre.length d0), (w6.heap.size, 1, .slice B1 o.add.length d1), (w6.heap.size, 2, .slice B2 o.del.length d2), (w6.heap.size, 3, .int .i64 o.cost)]) hB9 (by simp [Cls, go_sem, F8, y8g0, y8gp1, y8gp2, y8w0, y8wp1, y8wp2, y8w60, y8w6p1, y8w6p2])
                            have F9 := C9
                            simp only [Cls, and_true] at F9
                            have y9g0 : g < w9.heap.size := C9.blk (b := g) (k := q) (v := .int .i64 y) (by simp)
                            have y9gp1 : g < w9.heap.size + 1 := (by omega)
                            have y9gp2 : g < w9.heap.size + 1 + 1 := (by omega)
                            have y9w0 : w.heap.size < w9.heap.size := C9.blk (b := w.heap.size) (k := 0) (v := .int .i64 (n : Int)) (by simp)
                            have y9wp1 : w.heap.size < w9.heap.size + 1 := (by omega)
                            have y9wp2 : w.heap.size < w9.heap.size + 1 + 1 := (by omega)
                            have y9w60 : w6.heap.size < w9.heap.size := C9.blk (b := w6.heap.size) (k := 0) (v := .slice B0 o.pre.length d0) (by simp)
                            have y9w6p1 : w6.heap.size < w9.heap.size + 1 := (by omega)
                            have y9w6p2 : w6.heap.size < w9.heap.size + 1 + 1 := (by omega)
                            have hSS : w9.cell? ⟨w6.heap.size, 3, none⟩ = some (.int .i64 o.cost) := (by have q := C9; simp only [Cls, and_true] at q; simp [q])
                            go_wp2_with fail
                            refine hK.out _ _ hSS (fun hHeld => ?_)
                            clear hK K
                            try simp only [Act.put, List.getElem_toArray, List.getElem_cons_succ, List.getElem_cons_zero, List.setIfInBounds_toArray, List.set_cons_zero, List.set_cons_succ]
                            refine wpAnyH_ready (rs := [5, 11]) (by kernel_rfl) (by simp) ?_
                            refine (AllReadyH.cons rfl (fun K hK => ?bo37x5) (AllReadyH.cons rfl (fun K hK => ?bo37x11) AllReadyH.nil))
                            case bo37x5 =>
                              go_simp
                              have hSS := hHeld
                              go_wp2_with fail
                              refine hK.out _ _ hSS (fun hHeld => ?_)
                              clear hK K
                              try simp only [Act.put, List.getElem_toArray, List.getElem_cons_succ, List.getElem_cons_zero, List.setIfInBounds_toArray, List.set_cons_zero, List.set_cons_succ]
                              refine wpAnyH_ready (rs := [11]) (by kernel_rfl) (by simp) ?_
                              refine (AllReadyH.cons rfl (fun K hK => ?bo38x11) AllReadyH.nil)
                              case bo38x11 =>
                                go_simp
                                go_at_call 64
                                refine (rplus_any vv o.cost _ HVI.out HCI.out).mono ?_
                                rintro e w9 ⟨he, hW⟩
                                rw [hpp.out] at he
                                subst he
                                rw [← hW]
                                clear hW w9
                                have hSS := hHeld
                                go_wp2_with fail
                                refine hK.out _ _ hSS (fun hHeld => ?_)
                                clear hK K
                                try simp only [Act.put, List.getElem_toArray, List.getElem_cons_succ, List.getElem_cons_zero, List.setIfInBounds_toArray, List.set_cons_zero, List.set_cons_succ]
                                refine wpAnyH_take (i := 12) (v := ?vo3e912) rfl (by kernel_rfl) (by kernel_rfl) (by kernel_rfl) (fun _ _ _ h => h) (Or.inl ⟨by rfl, ?ho3e912⟩) (by assumption) ?ro3e912
                                case ho3e912 => (intro w hSw; (try dsimp only at hSw); go_simp; (try with_reducible rfl))
                                try simp only [Act.put, List.getElem_toArray, List.getElem_cons_succ, List.getElem_cons_zero, List.setIfInBounds_toArray, List.set_cons_zero, List.set_cons_succ]
                                refine wpAnyH_take (i := 13) (v := ?vo3l1013) rfl (by kernel_rfl) (by kernel_rfl) (by kernel_rfl) (fun _ _ _ h => h) (Or.inl ⟨by rfl, ?ho3l1013⟩) (by assumption) ?ro3l1013
                                case ho3l1013 => (intro w hSw; (try dsimp only at hSw); go_simp; (try with_reducible rfl))
                                try simp only [Act.put, List.getElem_toArray, List.getElem_cons_succ, List.getElem_cons_zero, List.setIfInBounds_toArray, List.set_cons_zero, List.set_cons_succ]
                                refine wpAnyH_ready (rs := [14]) (by kernel_rfl) (by simp) ?_
                                refine AllReadyH.cons rfl (fun K hK => ?_) AllReadyH.nil
                                go_simp
                                have hgne : ¬ g = w6.heap.size := (by omega)
                                have hgne2 : ¬ w6.heap.size = g := (by omega)
                                have hSS : (w9.setCell ⟨g, q, none⟩ (.int .i64 (min y pp))).cell? ⟨w6.heap.size, 3, none⟩ = some (.int .i64 o.cost) := (by simp [go_sem, hHeld, hgne, hgne2, F9, y9g0, y9gp1, y9gp2, y9w0, y9wp1, y9wp2, y9w60, y9w6p1, y9w6p2])
                                go_wp2_with fail
                                refine hK.out _ _ hSS (fun hHeld => ?_)
                                clear hK K
                                try simp only [Act.put, List.getElem_toArray, List.getElem_cons_succ, List.getElem_cons_zero, List.setIfInBounds_toArray, List.set_cons_zero, List.set_cons_succ]
                                refine wpAnyH_done (by kernel_rfl) ?_ _
                                go_wp2
                                go_roundg (g6 - 1)
                                case measure => exact hj1.out.2
                                case rel => exact ⟨j + 1, by go_num, Lib.hid hj1.out.1, by rw [← HMX.out]; exact OwnI.set_ (OwnI.below HROW.out (by repeat (first | with_reducible exact Ew6_9 | with_reducible apply bdrew | with_reducible apply bdrewN | with_reducible apply balloc | ((with_reducible refine bset ?_ ?_ _); rotate_left; (first | omega | (simp <;> omega)))))) (rowV_len _ _) q _, (by repeat (first | with_reducible exact Ew3_9 | with_reducible apply bdrew | with_reducible apply bdrewN | with_reducible apply balloc | ((with_reducible refine bset ?_ ?_ _); rotate_left; (first | omega | (simp <;> omega))))), (by (first | omega | (simp <;> omega))), (by repeat (first | with_reducible exact D9 | with_reducible apply bdrew | with_reducible apply bdrewN | with_reducible apply balloc | ((with_reducible refine bset ?_ ?_ _); rotate_left; (first | omega | (simp <;> omega))))), (by simp [Cls, go_sem, F9, y9g0, y9gp1, y9gp2, y9w0, y9wp1, y9wp2, y9w60, y9w6p1, y9w6p2]; try omega)⟩
                            case bo37x11 =>
                              go_simp
                              go_at_call 64
                              refine (rplus_any vv o.cost _ HVI.out HCI.out).mono ?_
                              rintro e w9 ⟨he, hW⟩
                              rw [hpp.out] at he
                              subst he
                              rw [← hW]
                              clear hW w9
                              have hSS := hHeld
                              go_wp2_with fail
                              refine hK.out _ _ hSS (fun hHeld => ?_)
                              clear hK K
                              try simp only [Act.put, List.getElem_toArray, List.getElem_cons_succ, List.getElem_cons_zero, List.setIfInBounds_toArray, List.set_cons_zero, List.set_cons_succ]
                              refine wpAnyH_ready (rs := [5]) (by kernel_rfl) (by simp) ?_
                              refine (AllReadyH.cons rfl (fun K hK => ?bo312x5) AllReadyH.nil)
                              case bo312x5 =>
                                go_simp
                                have hSS := hHeld
                                go_wp2_with fail
                                refine hK.out _ _ hSS (fun hHeld => ?_)
                                clear hK K
                                try simp only [Act.put, List.getElem_toArray, List.getElem_cons_succ, List.getElem_cons_zero, List.setIfInBounds_toArray, List.set_cons_zero, List.set_cons_succ]
                                refine wpAnyH_take (i := 12) (v := ?vo3e1312) rfl (by kernel_rfl) (by kernel_rfl) (by kernel_rfl) (fun _ _ _ h => h) (Or.inl ⟨by rfl, ?ho3e1312⟩) (by assumption) ?ro3e1312
                                case ho3e1312 => (intro w hSw; (try dsimp only at hSw); go_simp; (try with_reducible rfl))
                                try simp only [Act.put, List.getElem_toArray, List.getElem_cons_succ, List.getElem_cons_zero, List.setIfInBounds_toArray, List.set_cons_zero, List.set_cons_succ]
                                refine wpAnyH_take (i := 13) (v := ?vo3l1413) rfl (by kernel_rfl) (by kernel_rfl) (by kernel_rfl) (fun _ _ _ h => h) (Or.inl ⟨by rfl, ?ho3l1413⟩) (by assumption) ?ro3l1413
                                case ho3l1413 => (intro w hSw; (try dsimp only at hSw); go_simp; (try with_reducible rfl))
                                try simp only [Act.put, List.getElem_toArray, List.getElem_cons_succ, List.getElem_cons_zero, List.setIfInBounds_toArray, List.set_cons_zero, List.set_cons_succ]
                                refine wpAnyH_ready (rs := [14]) (by kernel_rfl) (by simp) ?_
                                refine AllReadyH.cons rfl (fun K hK => ?_) AllReadyH.nil
                                go_simp
                                have hgne : ¬ g = w6.heap.size := (by omega)
                                have hgne2 : ¬ w6.heap.size = g := (by omega)
                                have hSS : (w9.setCell ⟨g, q, none⟩ (.int .i64 (min y pp))).cell? ⟨w6.heap.size, 3, none⟩ = some (.int .i64 o.cost) := (by simp [go_sem, hHeld, hgne, hgne2, F9, y9g0, y9gp1, y9gp2, y9w0, y9wp1, y9wp2, y9w60, y9w6p1, y9w6p2])
                                go_wp2_with fail
                                refine hK.out _ _ hSS (fun hHeld => ?_)
                                clear hK K
                                try simp only [Act.put, List.getElem_toArray, List.getElem_cons_succ, List.getElem_cons_zero, List.setIfInBounds_toArray, List.set_cons_zero, List.set_cons_succ]
                                refine wpAnyH_done (by kernel_rfl) ?_ _
                                go_wp2
                                go_roundg (g6 - 1)
                                case measure => exact hj1.out.2
                                case rel => exact ⟨j + 1, by go_num, Lib.hid hj1.out.1, by rw [← HMX.out]; exact OwnI.set_ (OwnI.below HROW.out (by repeat (first | with_reducible exact Ew6_9 | with_reducible apply bdrew | with_reducible apply bdrewN | with_reducible apply balloc | ((with_reducible refine bset ?_ ?_ _); rotate_left; (first | omega | (simp <;> omega)))))) (rowV_len _ _) q _, (by repeat (first | with_reducible exact Ew3_9 | with_reducible apply bdrew | with_reducible apply bdrewN | with_reducible apply balloc | ((with_reducible refine bset ?_ ?_ _); rotate_left; (first | omega | (simp <;> omega))))), (by (first | omega | (simp <;> omega))), (by repeat (first | with_reducible exact D9 | with_reducible apply bdrew | with_reducible apply bdrewN | with_reducible apply balloc | ((with_reducible refine bset ?_ ?_ _); rotate_left; (first | omega | (simp <;> omega))))), (by simp [Cls, go_sem, F9, y9g0, y9gp1, y9gp2, y9w0, y9wp1, y9wp2, y9w60, y9w6p1, y9w6p2]; try omega)⟩
                      · have HB := Lib.hid hb
                        have HARC := Lib.hid (arcV_none (p := (k : Int)) (q := (q : Int)) (fun h => ha h.1) (fun h => hb h.1) (fun h => ha h.1))
                        clear ha hb
                        go_wp2_with fail
                        go_quiet ((go_at_call 40; first | (with_reducible show Calls _ _ #[_, .int .i64 (k : Int)] _ _; exact Calls.quiet_of_same ((has_no _ _ _ (k : Int) _ (hm.add.below (by repeat (first | with_reducible exact hBt | with_reducible apply bdrew | with_reducible apply bdrewN | with_reducible apply balloc | ((with_reducible refine bset ?_ ?_ _); rotate_left; (first | omega | (simp <;> omega)))))) hla HA.out).mono fun _ _ h => ⟨h.1, h.2.symm⟩)) | (with_reducible show Calls _ _ #[_, .int .i64 (q : Int)] _ _; exact Calls.quiet_of_same ((has_no _ _ _ (q : Int) _ (hm.add.below (by repeat (first | with_reducible exact hBt | with_reducible apply bdrew | with_reducible apply bdrewN | with_reducible apply balloc | ((with_reducible refine bset ?_ ?_ _); rotate_left; (first | omega | (simp <;> omega)))))) hla HB.out).mono fun _ _ h => ⟨h.1, h.2.symm⟩))))
                        have DQ : Below w.heap.size w ((w6.alloc (.cells #[.slice B0 o.pre.length d0, .slice B1 o.add.length d1, .slice B2 o.del.length d2, .int .i64 o.cost] 61)).drewN nq) := by repeat (first | with_reducible exact hBt | with_reducible apply bdrew | with_reducible apply bdrewN | with_reducible apply balloc | ((with_reducible refine bset ?_ ?_ _); rotate_left; (first | omega | (simp <;> omega))))
                        have E3 : Below w3.heap.size w3 ((w6.alloc (.cells #[.slice B0 o.pre.length d0, .slice B1 o.add.length d1, .slice B2 o.del.length d2, .int .i64 o.cost] 61)).drewN nq) := by repeat (first | with_reducible exact hB36 | with_reducible apply bdrew | with_reducible apply bdrewN | with_reducible apply balloc | ((with_reducible refine bset ?_ ?_ _); rotate_left; (first | omega | (simp <;> omega))))
                        have E6 : Below w6.heap.size w6 ((w6.alloc (.cells #[.slice B0 o.pre.length d0, .slice B1 o.add.length d1, .slice B2 o.del.length d2, .int .i64 o.cost] 61)).drewN nq) := by repeat (first | with_reducible exact Below.refl _ _ | with_reducible apply bdrew | with_reducible apply bdrewN | with_reducible apply balloc | ((with_reducible refine bset ?_ ?_ _); rotate_left; (first | omega | (simp <;> omega))))
                        have CQ : Cls ((w6.alloc (.cells #[.slice B0 o.pre.length d0, .slice B1 o.add.length d1, .slice B2 o.del.length d2, .int .i64 o.cost] 61)).drewN nq) [(w.heap.size, 0, .int .i64 (n : Int)), (w.heap.size, 1, .slice Ai t.init.length ci), (w.heap.size, 2, .slice Ag t.goal.length cg), (w.heap.size, 3, .slice (some ao) t.ops.length co), (g, q, .int .i64 y), (w6.heap.size, 0, .slice B0 o.pre.length d0), (w6.heap.size, 1, .slice B1 o.add.length d1), (w6.heap.size, 2, .slice B2 o.del.length d2), (w6.heap.size, 3, .int .i64 o.cost)] := Cls.below (w := (w6.alloc (.cells #[.slice B0 o.pre.length d0, .slice B1 o.add.length d1, .slice B2 o.del.length d2, .int .i64 o.cost] 61))) (by repeat (first | with_reducible exact Below.refl _ _ | with_reducible apply bdrew | with_reducible apply bdrewN | with_reducible apply balloc | ((with_reducible refine bset ?_ ?_ _); rotate_left; (first | omega | (simp <;> omega))))) (by simp [Cls, go_sem, Ft, ytw0, ytwp1, ytwp2, hcy, hfy, hg6])
                        obtain ⟨w7, hw7⟩ : ∃ wo : World, wo = (w6.alloc (.cells #[.slice B0 o.pre.length d0, .slice B1 o.add.length d1, .slice B2 o.del.length d2, .int .i64 o.cost] 61)).drewN nq := ⟨_, rfl⟩
                        rw [← hw7] at DQ E3 E6 CQ ⊢
                        clear hw7
                        have dqs := DQ.size
                        have e6s := E6.size
                        have Fq7 := CQ
                        simp only [Cls, and_true] at Fq7
                        have yq7g0 : g < w7.heap.size := CQ.blk (b := g) (k := q) (v := .int .i64 y) (by simp)
                        have yq7gp1 : g < w7.heap.size + 1 := (by omega)
                        have yq7gp2 : g < w7.heap.size + 1 + 1 := (by omega)
                        have yq7w0 : w.heap.size < w7.heap.size := CQ.blk (b := w.heap.size) (k := 0) (v := .int .i64 (n : Int)) (by simp)
                        have yq7wp1 : w.heap.size < w7.heap.size + 1 := (by omega)
                        have yq7wp2 : w.heap.size < w7.heap.size + 1 + 1 := (by omega)
                        have yq7w60 : w6.heap.size < w7.heap.size := CQ.blk (b := w6.heap.size) (k := 0) (v := .slice B0 o.pre.length d0) (by simp)
                        have yq7w6p1 : w6.heap.size < w7.heap.size + 1 := (by omega)
                        have yq7w6p2 : w6.heap.size < w7.heap.size + 1 + 1 := (by omega)
                        have HMS := Lib.hid (mix_same (n := n) (show toO V t.ops (k : Int) (q : Int) (j + 1) = toO V t.ops (k : Int) (q : Int) j by rw [HTS.out, stepO_none HARC.out]))
                        go_wp2
                        go_roundg (g6 - 1)
                        case measure => exact hj1.out.2
                        case rel => exact ⟨j + 1, by go_num, Lib.hid hj1.out.1, by rw [HMS.out]; exact OwnI.below HROW.out (by repeat (first | with_reducible exact E6 | with_reducible apply bdrew | with_reducible apply bdrewN | with_reducible apply balloc | ((with_reducible refine bset ?_ ?_ _); rotate_left; (first | omega | (simp <;> omega))))), (by repeat (first | with_reducible exact E3 | with_reducible apply bdrew | with_reducible apply bdrewN | with_reducible apply balloc | ((with_reducible refine bset ?_ ?_ _); rotate_left; (first | omega | (simp <;> omega))))), (by omega), (by repeat (first | with_reducible exact DQ | with_reducible apply bdrew | with_reducible apply bdrewN | with_reducible apply balloc | ((with_reducible refine bset ?_ ?_ _); rotate_left; (first | omega | (simp <;> omega))))), (by simp [Cls, go_sem, Fq7, yq7g0, yq7gp1, yq7gp2, yq7w0, yq7wp1, yq7wp2, yq7w60, yq7w6p1, yq7w6p2])⟩
                  · have HMN := Lib.hid (mix_next (V := V) (n := n) (p := k) (q := q) (ops := t.ops) (j := j) (by omega))
                    go_wp2
                    go_roundg (g5 - 1)
                    case measure => exact hq1.out.2
                    case rel => exact ⟨q + 1, by go_num, Lib.hid hq1.out.1, by rw [← HMN.out]; exact hrow6, hB36, hg6, hBt, (by simp [Cls, go_sem, Ft, ytw0, ytwp1, ytwp2])⟩
              · obtain rfl : n = q := by have := hq.out; omega
                rw [mix_end] at hrow
                obtain ⟨ad2, bd2, cr2, e2, hrc2, -, hri2⟩ := tab_at ((hL.below hB23).below hB35) (p := (k : Int)) (q := (k : Int)) hkI'.out hkI'.out
                injection e2 with e2
                subst e2
                rw [Int.toNat_natCast] at hrc2
                have hB25 := hB23.trans (Below.mono hB35 hB23.size)
                have hs25 := hB25.size
                have hs35 := hB35.size
                have hrowb : ∀ b, u9.ownBlock = some b → b < w3.heap.size := fun b hb => (OwnEs.lt hnx b hb).2
                have hlen : ((tabR n (fullO V t.ops)).take k).length < 1000000000000 := by rw [List.length_take]; omega
                have HT1 := Lib.hid (tabR_take (V := fullO V t.ops) hlt)
                have hnl := rowV_len n (fullO V t.ops (k : Int))
                cases b with
                | false =>
                  have HSN := Lib.hid (show ¬ SameTo n t.ops V (k + 1) from fun h => by have := hsm.out.2 (fun p hp => h p (by omega)); cases this)
                  have HY := Lib.hid (plist_of (B := w2.heap.size) (row := u9.ownBlock) (OwnI.below hrow (by repeat (first | with_reducible exact Below.refl _ _ | with_reducible apply bdrew | with_reducible apply bdrewN | with_reducible apply balloc | ((with_reducible refine bset ?_ ?_ _); rotate_left; (first | omega | (simp <;> omega)))))) hB23.size hrowb)
                  have hownS := OwnLL.below hnx (by repeat (first | with_reducible exact hB35 | with_reducible apply bdrew | with_reducible apply bdrewN | with_reducible apply balloc | ((with_reducible refine bset ?_ ?_ _); rotate_left; (first | omega | (simp <;> omega)))))
                  go_wp2_with (at_builtin; go_must (refine wpList_el (plist_stable _) 27 24 (.slice none 0 0) Try.underlying27 info_list rfl (by decide) (by decide) rfl (.tmp 151) (.tmp 153) rfl w2 [(w.heap.size, 0, .int .i64 (n : Int)), (w.heap.size, 1, .slice Ai t.init.length ci), (w.heap.size, 2, .slice Ag t.goal.length cg), (w.heap.size, 3, .slice Ao t.ops.length co)] rfl (OwnLL.below hownS ?p1) ⟨w5.heap.size, 0, none⟩ 1 rfl [.slice (some ⟨g, 0, none⟩) n c4] (rowV n (fullO V t.ops (k : Int))) rfl (cells_one ?p2) ?p8 ((plist_stable _).below HY.out ?p9) hlen ?p3 ?p4 ?p5 ?p6 ?p7 ?_; (case p1 => repeat (first | with_reducible exact Below.refl _ _ | with_reducible apply bdrew | with_reducible apply bdrewN | with_reducible apply balloc | ((with_reducible refine bset ?_ ?_ _); rotate_left; (first | omega | (simp <;> omega))))); (case p2 => simp [go_sem]); (case p3 => (simp <;> omega)); (case p4 => omega); (case p5 => repeat (first | with_reducible exact hB25 | with_reducible apply bdrew | with_reducible apply bdrewN | with_reducible apply balloc | ((with_reducible refine bset ?_ ?_ _); rotate_left; (first | omega | (simp <;> omega))))); (case p6 => simp [Cls, go_sem, Fs, ysw0, yswp1, yswp2]); (case p7 => (simp <;> omega)); (case p8 => intro u hu; simp at hu; subst hu; rfl); (case p9 => repeat (first | with_reducible exact Below.refl _ _ | with_reducible apply bdrew | with_reducible apply bdrewN | with_reducible apply balloc | ((with_reducible refine bset ?_ ?_ _); rotate_left; (first | omega | (simp <;> omega))))); intro v7 w7 o7 D7 C7 sz7 G7 at7; clear G7 at7; have d7s := D7.size))
                  go_roundg (g3 - 1)
                  case measure => exact hk1.out.2
                  case rel => exact ⟨k + 1, false, by go_num, rfl, Lib.hid hk1.out.1, by rw [← HT1.out]; exact o7, Lib.hid ⟨fun h => (by cases h), fun h => absurd h HSN.out⟩, D7, hBp.trans (D7.mono hBp.size), C7⟩
                | true =>
                  have HSK := Lib.hid (hsm.out.1 rfl)
                  by_cases hre : rowV n (fullO V t.ops (k : Int)) = rowV n (V (k : Int))
                  · have HV1 := Lib.hid (decide_eq_true hre).symm
                    have HSN := Lib.hid (same_yes HSK.out hre)
                    clear hre
                    go_wp2_with fail
                    refine (ints_at _ _ _ _ n _ _ _ (OwnI.ints_at (hrow.below (by repeat (first | with_reducible exact Below.refl _ _ | with_reducible apply bdrew | with_reducible apply bdrewN | with_reducible apply balloc | ((with_reducible refine bset ?_ ?_ _); rotate_left; (first | omega | (simp <;> omega))))))) (hri2.below (by repeat (first | with_reducible exact Below.refl _ _ | with_reducible apply bdrew | with_reducible apply bdrewN | with_reducible apply balloc | ((with_reducible refine bset ?_ ?_ _); rotate_left; (first | omega | (simp <;> omega)))))) hnl (rowV_len _ _) (by omega) true HV1.out).mono ?_
                    rintro e w6 ⟨rfl, hB6⟩
                    have D6 := dstep w hB6 (by repeat (first | with_reducible exact hBs | with_reducible apply bdrew | with_reducible apply bdrewN | with_reducible apply balloc | ((with_reducible refine bset ?_ ?_ _); rotate_left; (first | omega | (simp <;> omega)))))
                    have d6s := D6.size
                    have Ew2_6 := dstep w2 hB6 (by repeat (first | with_reducible exact hB25 | with_reducible apply bdrew | with_reducible apply bdrewN | with_reducible apply balloc | ((with_reducible refine bset ?_ ?_ _); rotate_left; (first | omega | (simp <;> omega)))))
                    have Ew3_6 := dstep w3 hB6 (by repeat (first | with_reducible exact hB35 | with_reducible apply bdrew | with_reducible apply bdrewN | with_reducible apply balloc | ((with_reducible refine bset ?_ ?_ _); rotate_left; (first | omega | (simp <;> omega)))))
                    have Ew5_6 := dstep w5 hB6 (by repeat (first | with_reducible exact Below.refl _ _ | with_reducible apply bdrew | with_reducible apply bdrewN | with_reducible apply balloc | ((with_reducible refine bset ?_ ?_ _); rotate_left; (first | omega | (simp <;> omega)))))
                    have C6 := Cls.below (l := [(w.heap.size, 0, .int .i64 (n : Int)), (w.heap.size, 1, .slice Ai t.init.length ci), (w.heap.size, 2, .slice Ag t.goal.length cg), (w.heap.size, 3, .slice Ao t.ops.length co)]) hB6 (by simp [Cls, go_sem, Fs, ysw0, yswp1, yswp2])
                    have F6 := C6
                    simp only [Cls, and_true] at F6
                    have y6w0 : w.heap.size < w6.heap.size := C6.blk (b := w.heap.size) (k := 0) (v := .int .i64 (n : Int)) (by simp)
                    have y6wp1 : w.heap.size < w6.heap.size + 1 := (by omega)
                    have y6wp2 : w.heap.size < w6.heap.size + 1 + 1 := (by omega)
                    have hq56 := Ew5_6.size
                    have HY := Lib.hid (plist_of (B := w2.heap.size) (row := u9.ownBlock) (OwnI.below hrow (by repeat (first | with_reducible exact Ew5_6 | with_reducible apply bdrew | with_reducible apply bdrewN | with_reducible apply balloc | ((with_reducible refine bset ?_ ?_ _); rotate_left; (first | omega | (simp <;> omega)))))) hB23.size hrowb)
                    have hownS := OwnLL.below hnx (by repeat (first | with_reducible exact Ew3_6 | with_reducible apply bdrew | with_reducible apply bdrewN | with_reducible apply balloc | ((with_reducible refine bset ?_ ?_ _); rotate_left; (first | omega | (simp <;> omega)))))
                    go_wp2_with (at_builtin; go_must (refine wpList_el (plist_stable _) 27 24 (.slice none 0 0) Try.underlying27 info_list rfl (by decide) (by decide) rfl (.tmp 151) (.tmp 153) rfl w2 [(w.heap.size, 0, .int .i64 (n : Int)), (w.heap.size, 1, .slice Ai t.init.length ci), (w.heap.size, 2, .slice Ag t.goal.length cg), (w.heap.size, 3, .slice Ao t.ops.length co)] rfl (OwnLL.below hownS ?p1) ⟨w6.heap.size, 0, none⟩ 1 rfl [.slice (some ⟨g, 0, none⟩) n c4] (rowV n (fullO V t.ops (k : Int))) rfl (cells_one ?p2) ?p8 ((plist_stable _).below HY.out ?p9) hlen ?p3 ?p4 ?p5 ?p6 ?p7 ?_; (case p1 => repeat (first | with_reducible exact Below.refl _ _ | with_reducible apply bdrew | with_reducible apply bdrewN | with_reducible apply balloc | ((with_reducible refine bset ?_ ?_ _); rotate_left; (first | omega | (simp <;> omega))))); (case p2 => simp [go_sem]); (case p3 => (simp <;> omega)); (case p4 => omega); (case p5 => repeat (first | with_reducible exact Ew2_6 | with_reducible apply bdrew | with_reducible apply bdrewN | with_reducible apply balloc | ((with_reducible refine bset ?_ ?_ _); rotate_left; (first | omega | (simp <;> omega))))); (case p6 => simp [Cls, go_sem, F6, y6w0, y6wp1, y6wp2]); (case p7 => (simp <;> omega)); (case p8 => intro u hu; simp at hu; subst hu; rfl); (case p9 => repeat (first | with_reducible exact Below.refl _ _ | with_reducible apply bdrew | with_reducible apply bdrewN | with_reducible apply balloc | ((with_reducible refine bset ?_ ?_ _); rotate_left; (first | omega | (simp <;> omega))))); intro v7 w7 o7 D7 C7 sz7 G7 at7; clear G7 at7; have d7s := D7.size))
                    go_roundg (g3 - 1)
                    case measure => exact hk1.out.2
                    case rel => exact ⟨k + 1, true, by go_num, rfl, Lib.hid hk1.out.1, by rw [← HT1.out]; exact o7, Lib.hid ⟨fun _ => HSN.out, fun _ => rfl⟩, D7, hBp.trans (D7.mono hBp.size), C7⟩
                  · have HV1 := Lib.hid (decide_eq_false hre).symm
                    have HSN := Lib.hid (show ¬ SameTo n t.ops V (k + 1) from fun h => hre (h k (by omega)))
                    clear hre
                    go_wp2_with fail
                    refine (ints_at _ _ _ _ n _ _ _ (OwnI.ints_at (hrow.below (by repeat (first | with_reducible exact Below.refl _ _ | with_reducible apply bdrew | with_reducible apply bdrewN | with_reducible apply balloc | ((with_reducible refine bset ?_ ?_ _); rotate_left; (first | omega | (simp <;> omega))))))) (hri2.below (by repeat (first | with_reducible exact Below.refl _ _ | with_reducible apply bdrew | with_reducible apply bdrewN | with_reducible apply balloc | ((with_reducible refine bset ?_ ?_ _); rotate_left; (first | omega | (simp <;> omega)))))) hnl (rowV_len _ _) (by omega) false HV1.out).mono ?_
                    rintro e w6 ⟨rfl, hB6⟩
                    have D6 := dstep w hB6 (by repeat (first | with_reducible exact hBs | with_reducible apply bdrew | with_reducible apply bdrewN | with_reducible apply balloc | ((with_reducible refine bset ?_ ?_ _); rotate_left; (first | omega | (simp <;> omega)))))
                    have d6s := D6.size
                    have Ew2_6 := dstep w2 hB6 (by repeat (first | with_reducible exact hB25 | with_reducible apply bdrew | with_reducible apply bdrewN | with_reducible apply balloc | ((with_reducible refine bset ?_ ?_ _); rotate_left; (first | omega | (simp <;> omega)))))
                    have Ew3_6 := dstep w3 hB6 (by repeat (first | with_reducible exact hB35 | with_reducible apply bdrew | with_reducible apply bdrewN | with_reducible apply balloc | ((with_reducible refine bset ?_ ?_ _); rotate_left; (first | omega | (simp <;> omega)))))
                    have Ew5_6 := dstep w5 hB6 (by repeat (first | with_reducible exact Below.refl _ _ | with_reducible apply bdrew | with_reducible apply bdrewN | with_reducible apply balloc | ((with_reducible refine bset ?_ ?_ _); rotate_left; (first | omega | (simp <;> omega)))))
                    have C6 := Cls.below (l := [(w.heap.size, 0, .int .i64 (n : Int)), (w.heap.size, 1, .slice Ai t.init.length ci), (w.heap.size, 2, .slice Ag t.goal.length cg), (w.heap.size, 3, .slice Ao t.ops.length co)]) hB6 (by simp [Cls, go_sem, Fs, ysw0, yswp1, yswp2])
                    have F6 := C6
                    simp only [Cls, and_true] at F6
                    have y6w0 : w.heap.size < w6.heap.size := C6.blk (b := w.heap.size) (k := 0) (v := .int .i64 (n : Int)) (by simp)
                    have y6wp1 : w.heap.size < w6.heap.size + 1 := (by omega)
                    have y6wp2 : w.heap.size < w6.heap.size + 1 + 1 := (by omega)
                    have hq56 := Ew5_6.size
                    have HY := Lib.hid (plist_of (B := w2.heap.size) (row := u9.ownBlock) (OwnI.below hrow (by repeat (first | with_reducible exact Ew5_6 | with_reducible apply bdrew | with_reducible apply bdrewN | with_reducible apply balloc | ((with_reducible refine bset ?_ ?_ _); rotate_left; (first | omega | (simp <;> omega)))))) hB23.size hrowb)
                    have hownS := OwnLL.below hnx (by repeat (first | with_reducible exact Ew3_6 | with_reducible apply bdrew | with_reducible apply bdrewN | with_reducible apply balloc | ((with_reducible refine bset ?_ ?_ _); rotate_left; (first | omega | (simp <;> omega)))))
                    go_wp2_with (at_builtin; go_must (refine wpList_el (plist_stable _) 27 24 (.slice none 0 0) Try.underlying27 info_list rfl (by decide) (by decide) rfl (.tmp 151) (.tmp 153) rfl w2 [(w.heap.size, 0, .int .i64 (n : Int)), (w.heap.size, 1, .slice Ai t.init.length ci), (w.heap.size, 2, .slice Ag t.goal.length cg), (w.heap.size, 3, .slice Ao t.ops.length co)] rfl (OwnLL.below hownS ?p1) ⟨w6.heap.size, 0, none⟩ 1 rfl [.slice (some ⟨g, 0, none⟩) n c4] (rowV n (fullO V t.ops (k : Int))) rfl (cells_one ?p2) ?p8 ((plist_stable _).below HY.out ?p9) hlen ?p3 ?p4 ?p5 ?p6 ?p7 ?_; (case p1 => repeat (first | with_reducible exact Below.refl _ _ | with_reducible apply bdrew | with_reducible apply bdrewN | with_reducible apply balloc | ((with_reducible refine bset ?_ ?_ _); rotate_left; (first | omega | (simp <;> omega))))); (case p2 => simp [go_sem]); (case p3 => (simp <;> omega)); (case p4 => omega); (case p5 => repeat (first | with_reducible exact Ew2_6 | with_reducible apply bdrew | with_reducible apply bdrewN | with_reducible apply balloc | ((with_reducible refine bset ?_ ?_ _); rotate_left; (first | omega | (simp <;> omega))))); (case p6 => simp [Cls, go_sem, F6, y6w0, y6wp1, y6wp2]); (case p7 => (simp <;> omega)); (case p8 => intro u hu; simp at hu; subst hu; rfl); (case p9 => repeat (first | with_reducible exact Below.refl _ _ | with_reducible apply bdrew | with_reducible apply bdrewN | with_reducible apply balloc | ((with_reducible refine bset ?_ ?_ _); rotate_left; (first | omega | (simp <;> omega))))); intro v7 w7 o7 D7 C7 sz7 G7 at7; clear G7 at7; have d7s := D7.size))
                    go_roundg (g3 - 1)
                    case measure => exact hk1.out.2
                    case rel => exact ⟨k + 1, false, by go_num, rfl, Lib.hid hk1.out.1, by rw [← HT1.out]; exact o7, Lib.hid ⟨fun h => (by cases h), fun h => absurd h HSN.out⟩, D7, hBp.trans (D7.mono hBp.size), C7⟩
          · have hke : (tabR n (fullO V t.ops)).take k = tabR n (fullO V t.ops) := List.take_of_length_le (by rw [tabR_len]; omega)
            have hkn : k = n := by have := hk.out; omega
            rw [hke] at hnx
            rw [hkn] at hsm
            clear hke
            obtain ⟨A6, c6, hv6⟩ := OwnEs.form hnx
            rw [tabR_len] at hv6
            subst hv6
            have hL6 := OwnLL.llr hnx
            clear hnx
            cases b with
            | true =>
              have HBE := Lib.hid (same_best hV.out HOPS.out (hsm.out.1 rfl))
              have hL3 := hL.below hB23
              go_wp2_with fail
              refine bodyPost_ret (v := .slice A n c) ?_ rfl ⟨V, A, ⟨c, rfl⟩, hL3.below (by repeat (first | with_reducible exact Below.refl _ _ | with_reducible apply bdrew | with_reducible apply bdrewN | with_reducible apply balloc | ((with_reducible refine bset ?_ ?_ _); rotate_left; (first | omega | (simp <;> omega))))), HBE, (by repeat (first | with_reducible exact hBq | with_reducible apply bdrew | with_reducible apply bdrewN | with_reducible apply balloc | ((with_reducible refine bset ?_ ?_ _); rotate_left; (first | omega | (simp <;> omega)))))⟩
              simp [results, Try.results22, go_sem, Fq, yqw0, yqwp1, yqwp2]
            | false =>
              have HLS := Lib.hid (same_less hV.out HOPS.out (fun h => by have := hsm.out.2 h; cases this))
              have HRB := Lib.hid (hV.out.full HOPS.out HST.out)
              go_wp2
              go_roundg (sumT n (fullO V t.ops))
              case measure => rw [hgk.out]; exact HLS.out
              case rel => exact ⟨fullO V t.ops, A6, c6, rfl, Lib.hid rfl, hL6.below (by repeat (first | with_reducible exact Below.refl _ _ | with_reducible apply bdrew | with_reducible apply bdrewN | with_reducible apply balloc | ((with_reducible refine bset ?_ ?_ _); rotate_left; (first | omega | (simp <;> omega))))), HRB, (by repeat (first | with_reducible exact hBq | with_reducible apply bdrew | with_reducible apply bdrewN | with_reducible apply balloc | ((with_reducible refine bset ?_ ?_ _); rotate_left; (first | omega | (simp <;> omega))))), (by simp [Cls, go_sem, Fq, yqw0, yqwp1, yqwp2])⟩


end Go.Proofs.Ytihkgdlanfemcaa
