/-
  R.ReachedFrom: what it returns.
-/
import Derived.Test.YtihkgdlanfemcaaBf3
namespace Go.Proofs.Ytihkgdlanfemcaa
open Go.RowKit
set_option linter.unusedVariables false
set_option linter.unusedSimpArgs false

theorem plist_neq {B : Nat} {w : World} {row : Option Nat} {A : Option Addr} {n c : Nat} {r : List Int} (h : PList B w row [.slice A n c] r) {ad : Addr} (hA : A = some ad) : some ad.block ≠ row := by
  obtain ⟨A', c', e, _, _, _, _, h7⟩ := h
  injection e with e
  injection e with e2 e3 e4
  subst e2
  exact (h7 ad hA).1
theorem has_m (A : Option Addr) (c m : Nat) (xs : List Int) (n : Int) (w : World) (v : Bool) (hI : Ints w A xs) (hm : xs.length = m) (hl : xs.length ≤ 9223372036854775807) (hv : decide (n ∈ xs) = v) :
    Calls Try.prog 40 #[.slice A m c, .int .i64 n] w fun e w' => e = .returned (.bool v) ∧ w = w' := by
  subst hm
  exact (has_any A c xs n w hI hl).mono fun e w' h => ⟨by rw [h.1, hv], h.2⟩
theorem OwnI.blk_of {base : Nat} {w : World} {v : Value} {xs : List Int} (h : OwnI base w v xs) : ∀ k, v.ownBlock = some k → base ≤ k := fun k hk => (h.lt k hk).1
set_option maxRecDepth 100000 in
set_option maxHeartbeats 2000000 in
theorem reached_any (w : World) (t : TaskV) (Ai Ag Ao : Option Addr) (ci cg co : Nat) (hT : TaskMem w Ai Ag Ao t) (S : Option Addr) (cs : Nat) (st : List Int) (hS : Ints w S st) (n : Nat) (hn : t.facts = n) (hv : Valid t) (hst : SetP st (n : Int)) :
    Calls Try.prog 35 #[.agg #[.int .i64 t.facts, .slice Ai t.init.length ci, .slice Ag t.goal.length cg, .slice Ao t.ops.length co], .slice S st.length cs] w fun e w' => (∃ A c ls, e = .returned (.tuple #[.slice A ls.length c, .bool true]) ∧ RSt n t.ops st ls ls.length 0 ∧ ls.length ≤ 2000 ∧ LLR w' A ls ∧ Below w.heap.size w w') ∨ (e = .returned (.tuple #[.slice none 0 0, .bool false]) ∧ (∃ ls : List (List Int), ls.Nodup ∧ ls.length = 2001 ∧ ∀ l ∈ ls, Rch n t.ops st l) ∧ Below w.heap.size w w') := by
  have HV := Lib.hid hv
  have HN := Lib.hid hn
  have hn24 : n ≤ 24 := by have := hv.f1; omega
  have h40 : t.ops.length ≤ 40 := hv.nops
  have h40b : t.ops.length ≤ 1000000 := by omega
  have HST := Lib.hid hst
  have hlS : st.length ≤ 24 := by have := SetP.length hst (by omega); omega
  clear hv hn hst
  go_enter Try.func35, Try.ntmps35
  go_wp2_with fail
  refine (word_any _ _ st _ (hS.below (by repeat (first | with_reducible exact Below.refl _ _ | with_reducible apply bdrew | with_reducible apply bdrewN | with_reducible apply balloc | ((with_reducible refine bset ?_ ?_ _); rotate_left; (first | omega | (simp <;> omega)))))) n HST.out hn24).mono ?_
  rintro e w9 ⟨rfl, rfl⟩
  have H0 : Hid (OwnW (some (w.heap.size + 1 + 1)) (w.heap.size + 1) (((w.alloc (.cells #[.int .i64 t.facts, .slice Ai t.init.length ci, .slice Ag t.goal.length cg, .slice Ao t.ops.length co] 25)).alloc (.cells #[.slice S st.length cs] 22)).alloc (.cells #[.int .i64 (wordV st)] 3)) (.slice (some ⟨w.heap.size + 1, 0, none⟩) 1 1) [st]) := Lib.hid (by
    refine OwnEs.below (pwl_stable _) (w := (w.alloc (.cells #[.int .i64 t.facts, .slice Ai t.init.length ci, .slice Ag t.goal.length cg, .slice Ao t.ops.length co] 25)).alloc (.cells #[.slice S st.length cs] 22)) ?_ ((Below.refl _ _).alloc (Nat.le_refl _) _)
    refine ⟨[.slice S st.length cs], ⟨by simp, .inr ⟨w.heap.size + 1, 1, #[.slice S st.length cs], rfl, Nat.le_refl _, ?_, by simp, by decide, by simp, by simp⟩⟩, fun i a ha => ?_⟩
    · have h := Arr.new (w.alloc (.cells #[.int .i64 t.facts, .slice Ai t.init.length ci, .slice Ag t.goal.length cg, .slice Ao t.ops.length co] 25)) 22 [.slice S st.length cs]
      simpa [Arr] using h
    · cases i with
      | succ i => simp at ha
      | zero =>
        simp at ha
        subst ha
        refine pwl_of (hS.below (by repeat (first | with_reducible exact Below.refl _ _ | with_reducible apply bdrew | with_reducible apply bdrewN | with_reducible apply balloc | ((with_reducible refine bset ?_ ?_ _); rotate_left; (first | omega | (simp <;> omega)))))) (fun hne ad he => ?_)
        have hb : ad.block < w.heap.size := by
          obtain ⟨ad', x, e2, _, hc⟩ := hS.at_ (k := 0) (List.length_pos_iff.2 hne)
          rw [he] at e2
          injection e2 with e2
          have h1 := World.block_lt_of_cell? w _ hc
          rw [add_block] at h1
          rw [e2]; exact h1
        refine ⟨fun e => ?_, fun e => ?_, by simp; omega⟩
        · have e2 : ad.block = w.heap.size + 1 := by simpa [Value.ownBlock] using e
          omega
        · injection e with e
          omega)
  have HW0 := Lib.hid (own_one_int ((w.alloc (.cells #[.int .i64 t.facts, .slice Ai t.init.length ci, .slice Ag t.goal.length cg, .slice Ao t.ops.length co] 25)).alloc (.cells #[.slice S st.length cs] 22)) (w.heap.size + 1) (wordV st) (w.heap.size + 1 + 1) (by simp) (by omega))
  have HR0 := Lib.hid (RSt.start (ops := t.ops) HST.out)
  go_wp2_with fail
  go_loopw [6, 7, 8] (fun a b i wr => ∃ (ls : List (List Int)) (k : Nat), k ≤ ls.length ∧ ls.length ≤ 2000 ∧ i = .int .i64 k ∧ OwnW (b).ownBlock (w.heap.size + 1) wr a ls ∧ OwnI (w.heap.size + 1) wr b (ls.map wordV) ∧ Hid (Sep b a) ∧ Hid (RSt n t.ops st ls k 0) ∧ Below w.heap.size w wr ∧ Cls wr [(w.heap.size, 0, .int .i64 t.facts), (w.heap.size, 1, .slice Ai t.init.length ci), (w.heap.size, 2, .slice Ag t.goal.length cg), (w.heap.size, 3, .slice Ao t.ops.length co)]) (fun _ _ i _ => 2001 - (intOf i).toNat)
  case atStart => exact ⟨[st], 0, by simp, by simp, rfl, H0.out.below (by repeat (first | with_reducible exact Below.refl _ _ | with_reducible apply bdrew | with_reducible apply bdrewN | with_reducible apply balloc | ((with_reducible refine bset ?_ ?_ _); rotate_left; (first | omega | (simp <;> omega))))), HW0.out.below (by repeat (first | with_reducible exact Below.refl _ _ | with_reducible apply bdrew | with_reducible apply bdrewN | with_reducible apply balloc | ((with_reducible refine bset ?_ ?_ _); rotate_left; (first | omega | (simp <;> omega))))), Lib.hid (fun k h1 h2 => by simp [Value.ownBlock] at h1 h2; omega), HR0, (by repeat (first | with_reducible exact Below.refl _ _ | with_reducible apply bdrew | with_reducible apply bdrewN | with_reducible apply balloc | ((with_reducible refine bset ?_ ?_ _); rotate_left; (first | omega | (simp <;> omega))))), (by simp [Cls, go_sem])⟩
  case round =>
    obtain ⟨ls, k, hk, hl2, rfl, hO, hW, hSep, hR, hBr, hCr⟩ := hrel
    obtain ⟨w1, rfl⟩ : ∃ wo : World, wo = wr := ⟨_, rfl⟩
    have drs := hBr.size
    have Fr := hCr
    simp only [Cls, and_true] at Fr
    have yrw0 : w.heap.size < w1.heap.size := hCr.blk (b := w.heap.size) (k := 0) (v := .int .i64 t.facts) (by simp)
    have yrwp1 : w.heap.size < w1.heap.size + 1 := (by omega)
    have yrwp2 : w.heap.size < w1.heap.size + 1 + 1 := (by omega)
    by_cases hlt : k < ls.length
    · obtain ⟨A1, c1, rfl⟩ := OwnEs.form hO
      go_wp2_with fail
      go_loopw [6, 7, 9] (fun a b i wr => ∃ (ls : List (List Int)) (p : Nat), k < ls.length ∧ p ≤ t.ops.length ∧ ls.length ≤ 2000 ∧ i = .int .i64 p ∧ OwnW (b).ownBlock (w.heap.size + 1) wr a ls ∧ OwnI (w.heap.size + 1) wr b (ls.map wordV) ∧ Hid (Sep b a) ∧ Hid (RSt n t.ops st ls k p) ∧ Below w.heap.size w wr ∧ Cls wr [(w.heap.size, 0, .int .i64 t.facts), (w.heap.size, 1, .slice Ai t.init.length ci), (w.heap.size, 2, .slice Ag t.goal.length cg), (w.heap.size, 3, .slice Ao t.ops.length co)]) (fun _ _ i _ => t.ops.length - (intOf i).toNat)
      case atStart => exact ⟨ls, 0, hlt, Nat.zero_le _, hl2, rfl, hO.below (by repeat (first | with_reducible exact Below.refl _ _ | with_reducible apply bdrew | with_reducible apply bdrewN | with_reducible apply balloc | ((with_reducible refine bset ?_ ?_ _); rotate_left; (first | omega | (simp <;> omega))))), hW.below (by repeat (first | with_reducible exact Below.refl _ _ | with_reducible apply bdrew | with_reducible apply bdrewN | with_reducible apply balloc | ((with_reducible refine bset ?_ ?_ _); rotate_left; (first | omega | (simp <;> omega))))), hSep, hR, (by repeat (first | with_reducible exact hBr | with_reducible apply bdrew | with_reducible apply bdrewN | with_reducible apply balloc | ((with_reducible refine bset ?_ ?_ _); rotate_left; (first | omega | (simp <;> omega))))), (Cls.below (w := w1) (by repeat (first | with_reducible exact Below.refl _ _ | with_reducible apply bdrew | with_reducible apply bdrewN | with_reducible apply balloc | ((with_reducible refine bset ?_ ?_ _); rotate_left; (first | omega | (simp <;> omega))))) hCr)⟩
      case round =>
        clear hO hW hSep hR hk hl2 hlt
        obtain ⟨ls, p, hkl, hp, hl2, rfl, hO, hW, hSep, hR, hBs, hCs⟩ := hrel
        obtain ⟨w2, rfl⟩ : ∃ wo : World, wo = wr := ⟨_, rfl⟩
        have dss := hBs.size
        have Fs := hCs
        simp only [Cls, and_true] at Fs
        have ysw0 : w.heap.size < w2.heap.size := hCs.blk (b := w.heap.size) (k := 0) (v := .int .i64 t.facts) (by simp)
        have yswp1 : w.heap.size < w2.heap.size + 1 := (by omega)
        have yswp2 : w.heap.size < w2.heap.size + 1 + 1 := (by omega)
        obtain ⟨A2, c2, rfl⟩ := OwnEs.form hO
        by_cases hlp : p < t.ops.length
        · obtain ⟨ad, r, Br, cr, rfl, hr, hrc, hrI⟩ := hO.llr.at_ hkl
          have HRS := Lib.hid (hR.out.set r (List.mem_of_getElem? hr.out))
          have hrl : r.length ≤ 9223372036854775807 := by have := SetP.length HRS.out (by omega); omega
          have hab : ad.block < w2.heap.size := by have := World.block_lt_of_cell? w2 _ hrc; rw [add_block] at this; exact this
          by_cases hcan : CanV t.ops r (p : Int)
          · have HC := Lib.hid hcan
            clear hcan
            obtain ⟨nx, hnx⟩ : ∃ x, Hid (nextV n r (opAt t.ops (p : Int)) = x) := ⟨_, Lib.hid rfl⟩
            have HNS := Lib.hid (show SetP nx (n : Int) by rw [← hnx.out]; exact nextV_set n r _)
            have hnl : nx.length ≤ 24 := by have := SetP.length HNS.out (by omega); omega
            go_wp2_with fail
            refine region_still_tail 6 (by kernel_rfl) (by kernel_rfl) ?_
            simp only [List.take_succ_cons, List.take_zero, List.drop_succ_cons, List.drop_zero]
            repeat still_step
            refine wpStill_nil ?_
            go_wp2_with fail
            refine (applies_any _ t Ai Ag Ao ci cg co (hT.below (by repeat (first | with_reducible exact hBs | with_reducible apply bdrew | with_reducible apply bdrewN | with_reducible apply balloc | ((with_reducible refine bset ?_ ?_ _); rotate_left; (first | omega | (simp <;> omega)))))) _ _ _ (hrI.below (by repeat (first | with_reducible exact Below.refl _ _ | with_reducible apply bdrew | with_reducible apply bdrewN | with_reducible apply balloc | ((with_reducible refine bset ?_ ?_ _); rotate_left; (first | omega | (simp <;> omega)))))) hrl h40b p hlp true ⟨fun _ => rfl, fun _ => HC.out⟩).mono ?_
            rintro e w3 ⟨rfl, hB3⟩
            have E3 := dstep w2 hB3 (by repeat (first | with_reducible exact Below.refl _ _ | with_reducible apply bdrew | with_reducible apply bdrewN | with_reducible apply balloc | ((with_reducible refine bset ?_ ?_ _); rotate_left; (first | omega | (simp <;> omega)))))
            have D3 := hBs.trans (E3.mono hBs.size)
            have C3 := Cls.below (w := w2) E3 hCs
            have hrc3 := (E3.cell (World.block_lt_of_cell? w2 _ hrc)).trans hrc
            have hrI3 := hrI.below E3
            have d3s := E3.size
            have hab3 : ad.block < w3.heap.size := by omega
            have hO3 := hO.below E3
            have hW3 := hW.below E3
            clear hrc hrI hO hW hCs hBs
            have F3 := C3
            simp only [Cls, and_true] at F3
            have y3w0 : w.heap.size < w3.heap.size := C3.blk (b := w.heap.size) (k := 0) (v := .int .i64 t.facts) (by simp)
            have y3wp1 : w.heap.size < w3.heap.size + 1 := (by omega)
            have y3wp2 : w.heap.size < w3.heap.size + 1 + 1 := (by omega)
            go_wp2_with fail
            refine region_still_tail 6 (by kernel_rfl) (by kernel_rfl) ?_
            simp only [List.take_succ_cons, List.take_zero, List.drop_succ_cons, List.drop_zero]
            repeat still_step
            refine wpStill_nil ?_
            go_wp2_with fail
            refine (after_any _ t Ai Ag Ao ci cg co (hT.below (by repeat (first | with_reducible exact D3 | with_reducible apply bdrew | with_reducible apply bdrewN | with_reducible apply balloc | ((with_reducible refine bset ?_ ?_ _); rotate_left; (first | omega | (simp <;> omega)))))) _ _ _ (hrI3.below (by repeat (first | with_reducible exact Below.refl _ _ | with_reducible apply bdrew | with_reducible apply bdrewN | with_reducible apply balloc | ((with_reducible refine bset ?_ ?_ _); rotate_left; (first | omega | (simp <;> omega)))))) hrl h40b n HN.out (by omega) p hlp).mono ?_
            rintro e w4 ⟨v4, rfl, ho4, hB4⟩
            have E4 := dstep w3 hB4 (by repeat (first | with_reducible exact Below.refl _ _ | with_reducible apply bdrew | with_reducible apply bdrewN | with_reducible apply balloc | ((with_reducible refine bset ?_ ?_ _); rotate_left; (first | omega | (simp <;> omega)))))
            have D4 := D3.trans (E4.mono D3.size)
            have C4 := Cls.below (w := w3) E4 C3
            have hO4 := hO3.below E4
            have hW4 := hW3.below E4
            rw [hnx.out] at ho4
            have HPL := Lib.hid (plist_of (B := 0) (row := (Value.slice (some ad) ls.length c2).ownBlock) ho4 (Nat.zero_le _) (fun k hk => by have h1 := (OwnEs.lt hO3 k hk).2; simp; omega))
            have HAW := Lib.hid (fun k (hk : u7.ownBlock = some k) => show k < w3.heap.size from hW3.bnd k hk)
            have HB4' := Lib.hid (OwnI.blk_of (OwnI.mono (base' := w3.heap.size) ho4 (by simp)))
            have HB4U := Lib.hid (OwnI.bnd ho4)
            obtain ⟨A4, c4, rfl, hn4, hI4⟩ := ho4.form
            have HB4L := Lib.hid (fun (ad' : Addr) (he : A4 = some ad') => show ad'.block < w4.heap.size from HB4U.out ad'.block (by rw [he]; rfl))
            have hs4 := E4.size
            clear hn4 hO3 hW3 hrc3 hrI3
            have F4 := C4
            simp only [Cls, and_true] at F4
            have y4w0 : w.heap.size < w4.heap.size := C4.blk (b := w.heap.size) (k := 0) (v := .int .i64 t.facts) (by simp)
            have y4wp1 : w.heap.size < w4.heap.size + 1 := (by omega)
            have y4wp2 : w.heap.size < w4.heap.size + 1 + 1 := (by omega)
            obtain ⟨A7, c7, he7, hn7, hI7⟩ := hW4.form
            rw [he7] at hW4 hSep HAW hO4 ⊢
            rw [List.length_map] at hW4 hSep HAW hO4 ⊢
            have HWI := Lib.hid hI7
            have HWM := Lib.hid (show (ls.map wordV).length = ls.length from List.length_map _)
            have HWL := Lib.hid (show (ls.map wordV).length ≤ 9223372036854775807 by rw [List.length_map]; omega)
            clear hn7 hI7 he7
            by_cases hin : nx ∈ ls
            · have HIN := Lib.hid (decide_eq_true ((hR.out.word HNS.out).2 hin))
              have HR2 := Lib.hid (hR.out.skip hr.out (fun _ => by rw [hnx.out]; exact hin))
              clear hin
              go_wp2_with fail
              refine (word_any _ _ nx _ (hI4.below (by repeat (first | with_reducible exact Below.refl _ _ | with_reducible apply bdrew | with_reducible apply bdrewN | with_reducible apply balloc | ((with_reducible refine bset ?_ ?_ _); rotate_left; (first | omega | (simp <;> omega)))))) n HNS.out hn24).mono ?_
              rintro e w9 ⟨rfl, hW9⟩
              rw [← hW9]
              clear hW9 w9
              go_wp2_with fail
              refine (has_m _ _ _ _ _ _ true (HWI.out.below (by repeat (first | with_reducible exact Below.refl _ _ | with_reducible apply bdrew | with_reducible apply bdrewN | with_reducible apply balloc | ((with_reducible refine bset ?_ ?_ _); rotate_left; (first | omega | (simp <;> omega)))))) HWM.out HWL.out HIN.out).mono ?_
              rintro e w9 ⟨rfl, hW9⟩
              rw [← hW9]
              clear hW9 w9
              go_wp2
              go_roundw
              case rel => exact ⟨ls, p + 1, hkl, by omega, hl2, by go_num, hO4.below (by repeat (first | with_reducible exact Below.refl _ _ | with_reducible apply bdrew | with_reducible apply bdrewN | with_reducible apply balloc | ((with_reducible refine bset ?_ ?_ _); rotate_left; (first | omega | (simp <;> omega))))), hW4.below (by repeat (first | with_reducible exact Below.refl _ _ | with_reducible apply bdrew | with_reducible apply bdrewN | with_reducible apply balloc | ((with_reducible refine bset ?_ ?_ _); rotate_left; (first | omega | (simp <;> omega))))), hSep, HR2, (by repeat (first | with_reducible exact D4 | with_reducible apply bdrew | with_reducible apply bdrewN | with_reducible apply balloc | ((with_reducible refine bset ?_ ?_ _); rotate_left; (first | omega | (simp <;> omega))))), (Cls.below (w := w4) (by repeat (first | with_reducible exact Below.refl _ _ | with_reducible apply bdrew | with_reducible apply bdrewN | with_reducible apply balloc | ((with_reducible refine bset ?_ ?_ _); rotate_left; (first | omega | (simp <;> omega))))) C4)⟩
              case measure => simp [intOf]; omega
            · have HIN := Lib.hid (decide_eq_false (fun h => hin ((hR.out.word HNS.out).1 h)))
              have HR2 := Lib.hid (hR.out.add hr.out hlp HC.out (by rw [hnx.out]; exact hin))
              rw [hnx.out] at HR2
              clear hin
              go_wp2_with fail
              refine (word_any _ _ nx _ (hI4.below (by repeat (first | with_reducible exact Below.refl _ _ | with_reducible apply bdrew | with_reducible apply bdrewN | with_reducible apply balloc | ((with_reducible refine bset ?_ ?_ _); rotate_left; (first | omega | (simp <;> omega)))))) n HNS.out hn24).mono ?_
              rintro e w9 ⟨rfl, hW9⟩
              rw [← hW9]
              clear hW9 w9
              go_wp2_with fail
              refine (has_m _ _ _ _ _ _ false (HWI.out.below (by repeat (first | with_reducible exact Below.refl _ _ | with_reducible apply bdrew | with_reducible apply bdrewN | with_reducible apply balloc | ((with_reducible refine bset ?_ ?_ _); rotate_left; (first | omega | (simp <;> omega)))))) HWM.out HWL.out HIN.out).mono ?_
              rintro e w9 ⟨rfl, hW9⟩
              rw [← hW9]
              clear hW9 w9
              by_cases hfull : ls.length = 2000
              · have hfe : ((ls.length : Int) == 2000) = true := by simp; omega
                have HFU := Lib.hid hfull
                clear hfull
                go_wp2
                refine bodyPost_ret (v := .tuple #[.slice none 0 0, .bool false]) ?_ rfl (.inr ⟨rfl, ⟨ls ++ [nx], HR2.out.nodup, by rw [List.length_append, HFU.out]; rfl, HR2.out.rch⟩, by repeat (first | with_reducible exact D4 | with_reducible apply bdrew | with_reducible apply bdrewN | with_reducible apply balloc | ((with_reducible refine bset ?_ ?_ _); rotate_left; (first | omega | (simp <;> omega))))⟩)
                simp [results, Try.results35, go_sem]
              · have hfe : ((ls.length : Int) == 2000) = false := by simp; omega
                have hl3 : ls.length + 1 ≤ 2000 := by omega
                have hlen : ls.length < 1000000000000 := by omega
                have HY : Hid (PWl (Value.slice A7 ls.length c7).ownBlock w4 (Value.slice (some ad) ls.length c2).ownBlock [.slice A4 nx.length c4] nx) := Lib.hid (pwl_of hI4 (fun _ ad' he => ⟨plist_neq HPL.out he, fun hc => by
                  have h1 := HB4'.out ad'.block (by rw [he]; rfl)
                  have h2 := HAW.out ad'.block hc.symm
                  omega, (HB4L.out ad' he)⟩))
                have HPN := Lib.hid (fun (ad' : Addr) (he : A4 = some ad') => plist_neq HPL.out he)
                have HWB := Lib.hid (fun k (hk : (Value.slice A7 ls.length c7).ownBlock = some k) => show k < w4.heap.size from hW4.bnd k hk)
                have HOB := Lib.hid (fun k (hk : (Value.slice (some ad) ls.length c2).ownBlock = some k) => show k < w4.heap.size from (OwnEs.lt hO4 k hk).2)
                have HMA := Lib.hid (show (ls ++ [nx]).map wordV = ls.map wordV ++ [wordV nx] by simp)
                have HLA := Lib.hid (show (ls ++ [nx]).length = ls.length + 1 by simp)
                clear hfull HIN HPL HAW HB4'
                go_wp2_with (at_builtin; go_must (refine wpList_el (pwl_stable _) 27 24 (.slice none 0 0) Try.underlying27 info_list rfl (by decide) (by decide) rfl (.tmp 51) (.tmp 53) rfl w [(w.heap.size, 0, .int .i64 t.facts), (w.heap.size, 1, .slice Ai t.init.length ci), (w.heap.size, 2, .slice Ag t.goal.length cg), (w.heap.size, 3, .slice Ao t.ops.length co)] rfl (OwnW.below hO4 ?p1) ⟨w4.heap.size, 0, none⟩ 1 rfl [.slice A4 nx.length c4] nx rfl (cells_one ?p2) ?p8 ((pwl_stable _).below HY.out ?p9) hlen ?p3 ?p4 ?p5 ?p6 ?p7 ?_; (case p1 => repeat (first | with_reducible exact Below.refl _ _ | with_reducible apply bdrew | with_reducible apply bdrewN | with_reducible apply balloc | ((with_reducible refine bset ?_ ?_ _); rotate_left; (first | omega | (simp <;> omega))))); (case p2 => simp [go_sem]); (case p3 => (first | omega | (simp <;> omega))); (case p4 => (first | omega | (simp <;> omega))); (case p5 => repeat (first | with_reducible exact D4 | with_reducible apply bdrew | with_reducible apply bdrewN | with_reducible apply balloc | ((with_reducible refine bset ?_ ?_ _); rotate_left; (first | omega | (simp <;> omega))))); (case p6 => simp [Cls, go_sem, F4, y4w0, y4wp1, y4wp2]); (case p7 => (simp <;> omega)); (case p8 => intro u hu; simp at hu; subst hu; rfl); (case p9 => repeat (first | with_reducible exact Below.refl _ _ | with_reducible apply bdrew | with_reducible apply bdrewN | with_reducible apply balloc | ((with_reducible refine bset ?_ ?_ _); rotate_left; (first | omega | (simp <;> omega))))); intro v6 w6 o6 D6 C6 sz6 G6 at6; have d6s := D6.size; have HI6 := Lib.hid (Ints.grown (hI4.below (balloc (Below.refl _ _) : Below w4.heap.size w4 (w4.alloc (.cells #[.slice A4 nx.length c4] 22)))) G6 HPN.out); have HW6 := Lib.hid (own_grown_i (OwnI.below hW4 (balloc (Below.refl _ _) : Below w4.heap.size w4 (w4.alloc (.cells #[.slice A4 nx.length c4] 22)))) G6 hSep.out.symm); have HS6 := Lib.hid (Sep.next hSep.out at6 (fun k hk => by have := HWB.out k hk; simp; omega)); have HO6 := Lib.hid (fun k (hk : v6.ownBlock = some k) => show k < w6.heap.size from (OwnEs.lt o6 k hk).2); clear G6 at6))
                have d6t := D6.size
                have hlw : (ls.map wordV).length < 1000000000000 := by rw [List.length_map]; omega
                go_wp2_with fail
                refine (word_any _ _ nx _ (HI6.out.below (by repeat (first | with_reducible exact Below.refl _ _ | with_reducible apply bdrew | with_reducible apply bdrewN | with_reducible apply balloc | ((with_reducible refine bset ?_ ?_ _); rotate_left; (first | omega | (simp <;> omega)))))) n HNS.out hn24).mono ?_
                rintro e w9 ⟨rfl, hW9⟩
                rw [← hW9]
                clear hW9 w9
                go_wp2_with (at_builtin; go_must (refine wpList_push_at rfl (.tmp 55) (.tmp 58) rfl w [(w.heap.size, 0, .int .i64 t.facts), (w.heap.size, 1, .slice Ai t.init.length ci), (w.heap.size, 2, .slice Ag t.goal.length cg), (w.heap.size, 3, .slice Ao t.ops.length co)] (w.heap.size + 1) (.slice A7 ls.length c7) (ls.map wordV) (wordV nx) rfl (OwnI.below HW6.out ?p1) ⟨w6.heap.size, 0, none⟩ 1 rfl ?p2 hlw ?p3 ?p4 ?p5 ?p6 ?p7 ?_; (case p1 => repeat (first | with_reducible exact Below.refl _ _ | with_reducible apply bdrew | with_reducible apply bdrewN | with_reducible apply balloc | ((with_reducible refine bset ?_ ?_ _); rotate_left; (first | omega | (simp <;> omega))))); (case p2 => simp [go_sem]); (case p3 => (first | omega | (simp <;> omega))); (case p4 => (first | omega | (simp <;> omega))); (case p5 => repeat (first | with_reducible exact D6 | with_reducible apply bdrew | with_reducible apply bdrewN | with_reducible apply balloc | ((with_reducible refine bset ?_ ?_ _); rotate_left; (first | omega | (simp <;> omega))))); (case p6 => exact Cls.below (w := w6) (by repeat (first | with_reducible exact Below.refl _ _ | with_reducible apply bdrew | with_reducible apply bdrewN | with_reducible apply balloc | ((with_reducible refine bset ?_ ?_ _); rotate_left; (first | omega | (simp <;> omega))))) C6); (case p7 => (simp <;> omega)); intro v8 w8 o8 D8 C8 sz8 G8 at8; have HO8 := Lib.hid (OwnW.other (OwnW.below o6 (balloc (Below.refl _ _) : Below w6.heap.size w6 (w6.alloc (.cells #[.int .i64 (wordV nx)] 3)))) G8 HS6.out at8); have HS8 := Lib.hid ((Sep.next HS6.out.symm at8 (fun k hk => by have := HO6.out k hk; simp; omega)).symm); clear G8 at8))
                rw [← HMA.out] at o8
                go_roundw
                case rel => exact ⟨ls ++ [nx], p + 1, by rw [HLA.out]; omega, by omega, by rw [HLA.out]; exact hl3, by go_num, HO8.out, o8, HS8, HR2, D8, C8⟩
                case measure => simp [intOf]; omega
          · have HC := Lib.hid hcan
            clear hcan
            go_wp2_with fail
            refine region_still_tail 6 (by kernel_rfl) (by kernel_rfl) ?_
            simp only [List.take_succ_cons, List.take_zero, List.drop_succ_cons, List.drop_zero]
            repeat still_step
            refine wpStill_nil ?_
            go_wp2_with fail
            refine (applies_any _ t Ai Ag Ao ci cg co (hT.below (by repeat (first | with_reducible exact hBs | with_reducible apply bdrew | with_reducible apply bdrewN | with_reducible apply balloc | ((with_reducible refine bset ?_ ?_ _); rotate_left; (first | omega | (simp <;> omega)))))) _ _ _ (hrI.below (by repeat (first | with_reducible exact Below.refl _ _ | with_reducible apply bdrew | with_reducible apply bdrewN | with_reducible apply balloc | ((with_reducible refine bset ?_ ?_ _); rotate_left; (first | omega | (simp <;> omega)))))) hrl h40b p hlp false ⟨fun h => absurd h HC.out, fun h => by cases h⟩).mono ?_
            rintro e w3 ⟨rfl, hB3⟩
            have E3 := dstep w2 hB3 (by repeat (first | with_reducible exact Below.refl _ _ | with_reducible apply bdrew | with_reducible apply bdrewN | with_reducible apply balloc | ((with_reducible refine bset ?_ ?_ _); rotate_left; (first | omega | (simp <;> omega)))))
            go_wp2
            go_roundw
            case rel => exact ⟨ls, p + 1, hkl, by omega, hl2, by go_num, hO.below (by repeat (first | with_reducible exact E3 | with_reducible apply bdrew | with_reducible apply bdrewN | with_reducible apply balloc | ((with_reducible refine bset ?_ ?_ _); rotate_left; (first | omega | (simp <;> omega))))), hW.below (by repeat (first | with_reducible exact E3 | with_reducible apply bdrew | with_reducible apply bdrewN | with_reducible apply balloc | ((with_reducible refine bset ?_ ?_ _); rotate_left; (first | omega | (simp <;> omega))))), hSep, Lib.hid (hR.out.skip hr.out (fun h => absurd h HC.out)), (by repeat (first | with_reducible exact (hBs.trans (E3.mono hBs.size)) | with_reducible apply bdrew | with_reducible apply bdrewN | with_reducible apply balloc | ((with_reducible refine bset ?_ ?_ _); rotate_left; (first | omega | (simp <;> omega))))), (Cls.below (w := w2) (by repeat (first | with_reducible exact E3 | with_reducible apply bdrew | with_reducible apply bdrewN | with_reducible apply balloc | ((with_reducible refine bset ?_ ?_ _); rotate_left; (first | omega | (simp <;> omega))))) hCs)⟩
            case measure => simp [intOf]; omega
        · have HR2 := Lib.hid (hR.out.row (by omega))
          go_wp2
          go_roundw
          case rel => exact ⟨ls, k + 1, by omega, hl2, by go_num, hO, hW, hSep, HR2, hBs, hCs⟩
          case measure => simp [intOf]; omega
    · have HE := Lib.hid (show k = ls.length by omega)
      have HR2 := Lib.hid (show RSt n t.ops st ls ls.length 0 by have h := hR.out; rw [HE.out] at h; exact h)
      obtain ⟨A1, c1, rfl⟩ := OwnEs.form hO
      have hLL := hO.llr
      go_wp2
      refine bodyPost_ret (v := .tuple #[.slice A1 ls.length c1, .bool true]) ?_ rfl (.inl ⟨A1, c1, ls, rfl, HR2.out, hl2, hLL, by repeat (first | with_reducible exact hBr | with_reducible apply bdrew | with_reducible apply bdrewN | with_reducible apply balloc | ((with_reducible refine bset ?_ ?_ _); rotate_left; (first | omega | (simp <;> omega))))⟩)
      simp [results, Try.results35, go_sem]


end Go.Proofs.Ytihkgdlanfemcaa
