/-
  With more sets the cost is not less, and sets that are hit already do not change the result.
-/
import Derived.Test.YtihkgdlanfemcaaZ22
import Derived.Test.YtihkgdlanfemcaaZ15
import Derived.Test.YtihkgdlanfemcaaZ23
import Derived.Test.YtihkgdlanfemcaaZ1
import Derived.Test.YtihkgdlanfemcaaZ24
namespace Go.Proofs.Ytihkgdlanfemcaa
open Go.RowKit
set_option linter.unusedVariables false
set_option linter.unusedSimpArgs false

theorem hok_more {sets : List (List Int)} {set cs : List Int} (h : HOk (sets ++ [set]) cs) : HOk sets cs := ⟨by have := h.nsets; rw [List.length_append] at this; omega, h.ncosts, h.costs, fun s hs => h.sets s (List.mem_append_left _ hs)⟩
theorem more_le {sets : List (List Int)} {set cs : List Int} {N : Nat} {n k : Int} {v u : Nat} (h : Least (costW cs) (AllHit sets N) n v) (h' : Least (costW cs) (AllHit (sets ++ [set]) N) k u) : n ≤ k := by
  have h1 := h.least u ⟨h'.is.1, fun s hs => h'.is.2 s (List.mem_append_left _ hs)⟩
  have h2 := h.eq
  have h3 := h'.eq
  omega
theorem more_same {sets : List (List Int)} {set cs : List Int} {N : Nat} {n k : Int} {v u : Nat} (h : Least (costW cs) (AllHit sets N) n v) (h' : Least (costW cs) (AllHit (sets ++ [set]) N) k u) (hh : HitW set v) : n = k ∧ v = u := by
  refine Least.uniq (P := AllHit (sets ++ [set]) N) ⟨⟨h.is.1, fun s hs => ?_⟩, h.eq, fun w hw => h.least w ⟨hw.1, fun s hs => hw.2 s (List.mem_append_left _ hs)⟩⟩ h'
  rcases List.mem_append.1 hs with hs | hs
  · exact h.is.2 s hs
  · simp at hs; subst hs; exact hh
set_option maxRecDepth 100000 in
set_option maxHeartbeats 2000000 in
theorem walk_hms_1 (w : World) (A : Option Addr) (ca : Nat) (sets : List (List Int)) (hR : RowsRead w A sets) (hnl : A = none → sets = [] ∧ ca = 0) (hl : sets.length ≤ 9223372036854775807) (hroom : sets.length * 24 ≤ 140737488351232) (C : Option Addr) (cc : Nat) (cs : List Int) (hC : Ints w C cs) (hcl : cs.length ≤ 9223372036854775807) (S : Option Addr) (cz : Nat) (set : List Int) (hS : Ints w S set) (hSn : NilOk S set cz) (c j : Int) (hf : hfault sets cs = (c, j)) (hc0 : ¬ c = 0) (d e : Int) (hg : hfault (sets ++ [set]) cs = (d, e)) (hd0 : ¬ d = 0) :
    Calls Try.prog 13 #[.slice A sets.length ca, .slice C cs.length cc, .slice S set.length cz] w fun e w' => e = .returned (.bool true) ∧ Below w.heap.size w w' := by
  have hL := hR.llr
  have HSL := Lib.hid hR.lens
  have HNL := Lib.hid hnl
  have HSN := Lib.hid hSn
  have hsn2 : set.length ≤ 9223372036854775807 := Nat.le_trans hSn.2.1 hSn.2.2
  have HSL2 := Lib.hid (show ∀ s ∈ sets ++ [set], s.length ≤ 9223372036854775807 from fun s hs => by
    rcases List.mem_append.1 hs with hs | hs
    · exact hR.lens s hs
    · simp at hs; subst hs; exact hsn2)
  have hl24 : ([] ++ sets : List (List Int)).length * 24 ≤ 140737488355328 := by rw [List.nil_append]; omega
  have hr1 : ([] : List (List Int)).length + sets.length = sets.length := by simp
  have HR1 : (([] : List (List Int)).length + sets.length) * 24 ≤ 140737488355328 := by rw [hr1]; omega
  have HR2 : (sets.length + 1) * 24 ≤ 140737488355328 := by omega
  clear hr1 hl24
  obtain ⟨ms, hms⟩ : ∃ l, Hid (sets ++ [set] = l) := ⟨_, Lib.hid rfl⟩
  have HML := Lib.hid (show ms.length ≤ 9223372036854775807 by rw [← hms.out, List.length_append]; simp; omega)
  have HF := Lib.hid hf
  have N := bb_no hc0
  have N' := bn_yes hc0
  have HG := Lib.hid hg
  have M := bb_no hd0
  have M' := bn_yes hd0
  clear hf hg hnl hSn
  go_enter Try.func13, Try.ntmps13
  go_wp2_with fail
  refine (hexample_any _).mono ?_
  rintro e w1 ⟨rfl, hB1⟩
  have D1 := dstep w hB1 (by repeat (first | with_reducible exact Below.refl _ _ | with_reducible apply bdrew | with_reducible apply bdrewN | with_reducible apply balloc | ((with_reducible refine bset ?_ ?_ _); rotate_left; (first | omega | (simp <;> omega)))))
  have d1s := D1.size
  go_wp2_with fail
  refine (hBest_1 _ A ca sets (hL.below (by repeat (first | with_reducible exact D1 | with_reducible apply bdrew | with_reducible apply bdrewN | with_reducible apply balloc | ((with_reducible refine bset ?_ ?_ _); rotate_left; (first | omega | (simp <;> omega)))))) HSL.out hl C cc cs (hC.below (by repeat (first | with_reducible exact D1 | with_reducible apply bdrew | with_reducible apply bdrewN | with_reducible apply balloc | ((with_reducible refine bset ?_ ?_ _); rotate_left; (first | omega | (simp <;> omega)))))) hcl c j HF.out hc0).mono ?_
  rintro e w2 ⟨rfl, hB2⟩
  have D2 := dstep w hB2 (by repeat (first | with_reducible exact D1 | with_reducible apply bdrew | with_reducible apply bdrewN | with_reducible apply balloc | ((with_reducible refine bset ?_ ?_ _); rotate_left; (first | omega | (simp <;> omega)))))
  have d2s := D2.size
  go_wp2_with (first | (at_builtin; refine wpList_catL rfl (.const (.slice none 0 0)) (.tmp 23) rfl w [(w2.heap.size, 0, .int .i64 c), (w2.heap.size, 1, .int .i64 j)] (w2.heap.size + 1) (.slice none 0 0) [] rfl (OwnEs.nil _ _) A ca _ sets rfl rfl HNL.out ?p1 sets (List.nil_append _) (fun i r B cc hr hne hh k => by cases k) HR1 ?p4 ?p5 ?p6 ?p7 ?p8 ?_; (case p1 => exact hR.below (by repeat (first | with_reducible exact D2 | with_reducible apply bdrew | with_reducible apply bdrewN | with_reducible apply balloc | ((with_reducible refine bset ?_ ?_ _); rotate_left; (first | omega | (simp <;> omega)))))); (case p4 => (first | omega | (simp <;> omega))); (case p5 => (first | omega | (simp <;> omega))); (case p6 => repeat (first | with_reducible exact D2 | with_reducible apply bdrew | with_reducible apply bdrewN | with_reducible apply balloc | ((with_reducible refine bset ?_ ?_ _); rotate_left; (first | omega | (simp <;> omega))))); (case p7 => simp [Cls, go_sem]); (case p8 => (simp <;> omega)); intro v3 w3 o3 D3 C3 sz3; have d3s := D3.size; have F3 := C3; simp only [Cls, and_true] at F3; have y3w20 : w2.heap.size < w3.heap.size := C3.blk (b := w2.heap.size) (k := 0) (v := .int .i64 c) (by simp); have y3w2p1 : w2.heap.size < w3.heap.size + 1 := (by omega); have y3w2p2 : w2.heap.size < w3.heap.size + 1 + 1 := (by omega); have hfar3 : ∀ (i : Nat) (r : List Int) (B : Addr) (cc : Nat), [set][i]? = some r → r ≠ [] → (∃ ad, (some ⟨w3.heap.size, 0, none⟩ : Option Addr) = some ad ∧ (w3.alloc (.cells #[.slice S set.length cz] 22)).cell? (ad.add i) = some (.slice (some B) r.length cc)) → some B.block ≠ v3.ownBlock := fun i r B cc hr hne hh k => by (obtain ⟨ad, e, hc⟩ := hh; injection e with e; subst e; (match i, hr with | 0, hr => (simp at hr; subst hr; simp [go_sem, add_zero] at hc; (have h9 := OwnEs.lt o3 _ k.symm; obtain ⟨rfl, -⟩ := hc; have h8 := ints_lt hS hne; omega)) | i + 1, hr => simp at hr))) | (at_builtin; refine wpList_catL rfl (.tmp 24) (.tmp 26) rfl w [(w2.heap.size, 0, .int .i64 c), (w2.heap.size, 1, .int .i64 j)] (w2.heap.size + 1) (v3) sets rfl (o3.below (by repeat (first | with_reducible exact Below.refl _ _ | with_reducible apply bdrew | with_reducible apply bdrewN | with_reducible apply balloc | ((with_reducible refine bset ?_ ?_ _); rotate_left; (first | omega | (simp <;> omega)))))) (some ⟨w3.heap.size, 0, none⟩) 1 _ [set] rfl rfl (fun h => by cases h) ?p1 ms hms.out (fun i r B cc hr hne hh k => hfar3 i r B cc hr hne hh k) HR2 ?p4 ?p5 ?p6 ?p7 ?p8 ?_; (case p1 => exact rows_one (by simp [go_sem]) (hS.below (by repeat (first | with_reducible exact D3 | with_reducible apply bdrew | with_reducible apply bdrewN | with_reducible apply balloc | ((with_reducible refine bset ?_ ?_ _); rotate_left; (first | omega | (simp <;> omega)))))) HSN.out); (case p4 => (first | omega | (simp <;> omega))); (case p5 => (first | omega | (simp <;> omega))); (case p6 => repeat (first | with_reducible exact D3 | with_reducible apply bdrew | with_reducible apply bdrewN | with_reducible apply balloc | ((with_reducible refine bset ?_ ?_ _); rotate_left; (first | omega | (simp <;> omega))))); (case p7 => simp [Cls, go_sem, F3, y3w20, y3w2p1, y3w2p2]); (case p8 => (simp <;> omega)); intro v4 w4 o4 D4 C4 sz4; have d4s := D4.size; have F4 := C4; simp only [Cls, and_true] at F4; have y4w20 : w2.heap.size < w4.heap.size := C4.blk (b := w2.heap.size) (k := 0) (v := .int .i64 c) (by simp); have y4w2p1 : w2.heap.size < w4.heap.size + 1 := (by omega); have y4w2p2 : w2.heap.size < w4.heap.size + 1 + 1 := (by omega); obtain ⟨A4, c4, rfl⟩ := OwnEs.form o4))
  refine (hBest_1 _ A4 c4 ms ((OwnLA.read o4).llr.below (by repeat (first | with_reducible exact Below.refl _ _ | with_reducible apply bdrew | with_reducible apply bdrewN | with_reducible apply balloc | ((with_reducible refine bset ?_ ?_ _); rotate_left; (first | omega | (simp <;> omega)))))) (hms.out ▸ HSL2.out) HML.out C cc cs (hC.below (by repeat (first | with_reducible exact D4 | with_reducible apply bdrew | with_reducible apply bdrewN | with_reducible apply balloc | ((with_reducible refine bset ?_ ?_ _); rotate_left; (first | omega | (simp <;> omega)))))) hcl d e (hms.out ▸ HG.out) hd0).mono ?_
  rintro e w5 ⟨rfl, hB5⟩
  have D5 := dstep w hB5 (by repeat (first | with_reducible exact D4 | with_reducible apply bdrew | with_reducible apply bdrewN | with_reducible apply balloc | ((with_reducible refine bset ?_ ?_ _); rotate_left; (first | omega | (simp <;> omega)))))
  have d5s := D5.size
  have C5 := Cls.below (l := [(w2.heap.size, 0, .int .i64 c), (w2.heap.size, 1, .int .i64 j)]) hB5 (by simp [Cls, go_sem, F4, y4w20, y4w2p1, y4w2p2])
  have F5 := C5
  simp only [Cls, and_true] at F5
  have y5w20 : w2.heap.size < w5.heap.size := C5.blk (b := w2.heap.size) (k := 0) (v := .int .i64 c) (by simp)
  have y5w2p1 : w2.heap.size < w5.heap.size + 1 := (by omega)
  have y5w2p2 : w2.heap.size < w5.heap.size + 1 + 1 := (by omega)
  go_wp2
  go_ret
  exact ⟨by simp, by repeat (first | with_reducible exact D5 | with_reducible apply bdrew | with_reducible apply bdrewN | with_reducible apply balloc | ((with_reducible refine bset ?_ ?_ _); rotate_left; (first | omega | (simp <;> omega))))⟩

set_option maxRecDepth 100000 in
set_option maxHeartbeats 2000000 in
theorem walk_hms_2 (w : World) (A : Option Addr) (ca : Nat) (sets : List (List Int)) (hR : RowsRead w A sets) (hnl : A = none → sets = [] ∧ ca = 0) (hl : sets.length ≤ 9223372036854775807) (hroom : sets.length * 24 ≤ 140737488351232) (C : Option Addr) (cc : Nat) (cs : List Int) (hC : Ints w C cs) (hcl : cs.length ≤ 9223372036854775807) (S : Option Addr) (cz : Nat) (set : List Int) (hS : Ints w S set) (hSn : NilOk S set cz) (hok : HOk sets cs) (d e : Int) (hg : hfault (sets ++ [set]) cs = (d, e)) (hd0 : ¬ d = 0) :
    Calls Try.prog 13 #[.slice A sets.length ca, .slice C cs.length cc, .slice S set.length cz] w fun e w' => e = .returned (.bool true) ∧ Below w.heap.size w w' := by
  have hL := hR.llr
  have HSL := Lib.hid hR.lens
  have HNL := Lib.hid hnl
  have HSN := Lib.hid hSn
  have hsn2 : set.length ≤ 9223372036854775807 := Nat.le_trans hSn.2.1 hSn.2.2
  have HSL2 := Lib.hid (show ∀ s ∈ sets ++ [set], s.length ≤ 9223372036854775807 from fun s hs => by
    rcases List.mem_append.1 hs with hs | hs
    · exact hR.lens s hs
    · simp at hs; subst hs; exact hsn2)
  have hl24 : ([] ++ sets : List (List Int)).length * 24 ≤ 140737488355328 := by rw [List.nil_append]; omega
  have hr1 : ([] : List (List Int)).length + sets.length = sets.length := by simp
  have HR1 : (([] : List (List Int)).length + sets.length) * 24 ≤ 140737488355328 := by rw [hr1]; omega
  have HR2 : (sets.length + 1) * 24 ≤ 140737488355328 := by omega
  clear hr1 hl24
  obtain ⟨ms, hms⟩ : ∃ l, Hid (sets ++ [set] = l) := ⟨_, Lib.hid rfl⟩
  have HML := Lib.hid (show ms.length ≤ 9223372036854775807 by rw [← hms.out, List.length_append]; simp; omega)
  have HOK := Lib.hid hok
  have hc16 := hok.ncosts
  have HG := Lib.hid hg
  have M := bb_no hd0
  have M' := bn_yes hd0
  clear hok hg hnl hSn
  go_enter Try.func13, Try.ntmps13
  go_wp2_with fail
  refine (hexample_any _).mono ?_
  rintro e w1 ⟨rfl, hB1⟩
  have D1 := dstep w hB1 (by repeat (first | with_reducible exact Below.refl _ _ | with_reducible apply bdrew | with_reducible apply bdrewN | with_reducible apply balloc | ((with_reducible refine bset ?_ ?_ _); rotate_left; (first | omega | (simp <;> omega)))))
  have d1s := D1.size
  go_wp2_with fail
  refine (hBest_2 _ A ca sets (hL.below (by repeat (first | with_reducible exact D1 | with_reducible apply bdrew | with_reducible apply bdrewN | with_reducible apply balloc | ((with_reducible refine bset ?_ ?_ _); rotate_left; (first | omega | (simp <;> omega)))))) HSL.out hl C cc cs (hC.below (by repeat (first | with_reducible exact D1 | with_reducible apply bdrew | with_reducible apply bdrewN | with_reducible apply balloc | ((with_reducible refine bset ?_ ?_ _); rotate_left; (first | omega | (simp <;> omega)))))) hcl HOK.out).mono ?_
  rintro e w2 ⟨A', c', n, v, rfl, hlst, ho, hB2⟩
  have D2 := dstep w hB2 (by repeat (first | with_reducible exact D1 | with_reducible apply bdrew | with_reducible apply bdrewN | with_reducible apply balloc | ((with_reducible refine bset ?_ ?_ _); rotate_left; (first | omega | (simp <;> omega)))))
  have d2s := D2.size
  clear ho hlst
  go_wp2_with (first | (at_builtin; refine wpList_catL rfl (.const (.slice none 0 0)) (.tmp 23) rfl w [(w2.heap.size, 0, .int .i64 0), (w2.heap.size, 1, .int .i64 0)] (w2.heap.size + 1) (.slice none 0 0) [] rfl (OwnEs.nil _ _) A ca _ sets rfl rfl HNL.out ?p1 sets (List.nil_append _) (fun i r B cc hr hne hh k => by cases k) HR1 ?p4 ?p5 ?p6 ?p7 ?p8 ?_; (case p1 => exact hR.below (by repeat (first | with_reducible exact D2 | with_reducible apply bdrew | with_reducible apply bdrewN | with_reducible apply balloc | ((with_reducible refine bset ?_ ?_ _); rotate_left; (first | omega | (simp <;> omega)))))); (case p4 => (first | omega | (simp <;> omega))); (case p5 => (first | omega | (simp <;> omega))); (case p6 => repeat (first | with_reducible exact D2 | with_reducible apply bdrew | with_reducible apply bdrewN | with_reducible apply balloc | ((with_reducible refine bset ?_ ?_ _); rotate_left; (first | omega | (simp <;> omega))))); (case p7 => simp [Cls, go_sem]); (case p8 => (simp <;> omega)); intro v3 w3 o3 D3 C3 sz3; have d3s := D3.size; have F3 := C3; simp only [Cls, and_true] at F3; have y3w20 : w2.heap.size < w3.heap.size := C3.blk (b := w2.heap.size) (k := 0) (v := .int .i64 0) (by simp); have y3w2p1 : w2.heap.size < w3.heap.size + 1 := (by omega); have y3w2p2 : w2.heap.size < w3.heap.size + 1 + 1 := (by omega); have hfar3 : ∀ (i : Nat) (r : List Int) (B : Addr) (cc : Nat), [set][i]? = some r → r ≠ [] → (∃ ad, (some ⟨w3.heap.size, 0, none⟩ : Option Addr) = some ad ∧ (w3.alloc (.cells #[.slice S set.length cz] 22)).cell? (ad.add i) = some (.slice (some B) r.length cc)) → some B.block ≠ v3.ownBlock := fun i r B cc hr hne hh k => by (obtain ⟨ad, e, hc⟩ := hh; injection e with e; subst e; (match i, hr with | 0, hr => (simp at hr; subst hr; simp [go_sem, add_zero] at hc; (have h9 := OwnEs.lt o3 _ k.symm; obtain ⟨rfl, -⟩ := hc; have h8 := ints_lt hS hne; omega)) | i + 1, hr => simp at hr))) | (at_builtin; refine wpList_catL rfl (.tmp 24) (.tmp 26) rfl w [(w2.heap.size, 0, .int .i64 0), (w2.heap.size, 1, .int .i64 0)] (w2.heap.size + 1) (v3) sets rfl (o3.below (by repeat (first | with_reducible exact Below.refl _ _ | with_reducible apply bdrew | with_reducible apply bdrewN | with_reducible apply balloc | ((with_reducible refine bset ?_ ?_ _); rotate_left; (first | omega | (simp <;> omega)))))) (some ⟨w3.heap.size, 0, none⟩) 1 _ [set] rfl rfl (fun h => by cases h) ?p1 ms hms.out (fun i r B cc hr hne hh k => hfar3 i r B cc hr hne hh k) HR2 ?p4 ?p5 ?p6 ?p7 ?p8 ?_; (case p1 => exact rows_one (by simp [go_sem]) (hS.below (by repeat (first | with_reducible exact D3 | with_reducible apply bdrew | with_reducible apply bdrewN | with_reducible apply balloc | ((with_reducible refine bset ?_ ?_ _); rotate_left; (first | omega | (simp <;> omega)))))) HSN.out); (case p4 => (first | omega | (simp <;> omega))); (case p5 => (first | omega | (simp <;> omega))); (case p6 => repeat (first | with_reducible exact D3 | with_reducible apply bdrew | with_reducible apply bdrewN | with_reducible apply balloc | ((with_reducible refine bset ?_ ?_ _); rotate_left; (first | omega | (simp <;> omega))))); (case p7 => simp [Cls, go_sem, F3, y3w20, y3w2p1, y3w2p2]); (case p8 => (simp <;> omega)); intro v4 w4 o4 D4 C4 sz4; have d4s := D4.size; have F4 := C4; simp only [Cls, and_true] at F4; have y4w20 : w2.heap.size < w4.heap.size := C4.blk (b := w2.heap.size) (k := 0) (v := .int .i64 0) (by simp); have y4w2p1 : w2.heap.size < w4.heap.size + 1 := (by omega); have y4w2p2 : w2.heap.size < w4.heap.size + 1 + 1 := (by omega); obtain ⟨A4, c4, rfl⟩ := OwnEs.form o4))
  refine (hBest_1 _ A4 c4 ms ((OwnLA.read o4).llr.below (by repeat (first | with_reducible exact Below.refl _ _ | with_reducible apply bdrew | with_reducible apply bdrewN | with_reducible apply balloc | ((with_reducible refine bset ?_ ?_ _); rotate_left; (first | omega | (simp <;> omega)))))) (hms.out ▸ HSL2.out) HML.out C cc cs (hC.below (by repeat (first | with_reducible exact D4 | with_reducible apply bdrew | with_reducible apply bdrewN | with_reducible apply balloc | ((with_reducible refine bset ?_ ?_ _); rotate_left; (first | omega | (simp <;> omega)))))) hcl d e (hms.out ▸ HG.out) hd0).mono ?_
  rintro e w5 ⟨rfl, hB5⟩
  have D5 := dstep w hB5 (by repeat (first | with_reducible exact D4 | with_reducible apply bdrew | with_reducible apply bdrewN | with_reducible apply balloc | ((with_reducible refine bset ?_ ?_ _); rotate_left; (first | omega | (simp <;> omega)))))
  have d5s := D5.size
  have C5 := Cls.below (l := [(w2.heap.size, 0, .int .i64 0), (w2.heap.size, 1, .int .i64 0)]) hB5 (by simp [Cls, go_sem, F4, y4w20, y4w2p1, y4w2p2])
  have F5 := C5
  simp only [Cls, and_true] at F5
  have y5w20 : w2.heap.size < w5.heap.size := C5.blk (b := w2.heap.size) (k := 0) (v := .int .i64 0) (by simp)
  have y5w2p1 : w2.heap.size < w5.heap.size + 1 := (by omega)
  have y5w2p2 : w2.heap.size < w5.heap.size + 1 + 1 := (by omega)
  go_wp2
  go_ret
  exact ⟨by simp, by repeat (first | with_reducible exact D5 | with_reducible apply bdrew | with_reducible apply bdrewN | with_reducible apply balloc | ((with_reducible refine bset ?_ ?_ _); rotate_left; (first | omega | (simp <;> omega))))⟩

set_option maxRecDepth 100000 in
set_option maxHeartbeats 2000000 in
theorem walk_hms_3 (w : World) (A : Option Addr) (ca : Nat) (sets : List (List Int)) (hR : RowsRead w A sets) (hnl : A = none → sets = [] ∧ ca = 0) (hl : sets.length ≤ 9223372036854775807) (hroom : sets.length * 24 ≤ 140737488351232) (C : Option Addr) (cc : Nat) (cs : List Int) (hC : Ints w C cs) (hcl : cs.length ≤ 9223372036854775807) (S : Option Addr) (cz : Nat) (set : List Int) (hS : Ints w S set) (hSn : NilOk S set cz) (hok : HOk sets cs) (hok2 : HOk (sets ++ [set]) cs) :
    Calls Try.prog 13 #[.slice A sets.length ca, .slice C cs.length cc, .slice S set.length cz] w fun e w' => e = .returned (.bool true) ∧ Below w.heap.size w w' := by
  have hL := hR.llr
  have HSL := Lib.hid hR.lens
  have HNL := Lib.hid hnl
  have HSN := Lib.hid hSn
  have hsn2 : set.length ≤ 9223372036854775807 := Nat.le_trans hSn.2.1 hSn.2.2
  have HSL2 := Lib.hid (show ∀ s ∈ sets ++ [set], s.length ≤ 9223372036854775807 from fun s hs => by
    rcases List.mem_append.1 hs with hs | hs
    · exact hR.lens s hs
    · simp at hs; subst hs; exact hsn2)
  have hl24 : ([] ++ sets : List (List Int)).length * 24 ≤ 140737488355328 := by rw [List.nil_append]; omega
  have hr1 : ([] : List (List Int)).length + sets.length = sets.length := by simp
  have HR1 : (([] : List (List Int)).length + sets.length) * 24 ≤ 140737488355328 := by rw [hr1]; omega
  have HR2 : (sets.length + 1) * 24 ≤ 140737488355328 := by omega
  clear hr1 hl24
  obtain ⟨ms, hms⟩ : ∃ l, Hid (sets ++ [set] = l) := ⟨_, Lib.hid rfl⟩
  have HML := Lib.hid (show ms.length ≤ 9223372036854775807 by rw [← hms.out, List.length_append]; simp; omega)
  have HOK := Lib.hid hok
  have hc16 := hok.ncosts
  have HO2 := Lib.hid hok2
  clear hok hok2 hnl hSn
  go_enter Try.func13, Try.ntmps13
  go_wp2_with fail
  refine (hexample_any _).mono ?_
  rintro e w1 ⟨rfl, hB1⟩
  have D1 := dstep w hB1 (by repeat (first | with_reducible exact Below.refl _ _ | with_reducible apply bdrew | with_reducible apply bdrewN | with_reducible apply balloc | ((with_reducible refine bset ?_ ?_ _); rotate_left; (first | omega | (simp <;> omega)))))
  have d1s := D1.size
  go_wp2_with fail
  refine (hBest_2 _ A ca sets (hL.below (by repeat (first | with_reducible exact D1 | with_reducible apply bdrew | with_reducible apply bdrewN | with_reducible apply balloc | ((with_reducible refine bset ?_ ?_ _); rotate_left; (first | omega | (simp <;> omega)))))) HSL.out hl C cc cs (hC.below (by repeat (first | with_reducible exact D1 | with_reducible apply bdrew | with_reducible apply bdrewN | with_reducible apply balloc | ((with_reducible refine bset ?_ ?_ _); rotate_left; (first | omega | (simp <;> omega)))))) hcl HOK.out).mono ?_
  rintro e w2 ⟨A', c', n, v, rfl, hlst, ho, hB2⟩
  have D2 := dstep w hB2 (by repeat (first | with_reducible exact D1 | with_reducible apply bdrew | with_reducible apply bdrewN | with_reducible apply balloc | ((with_reducible refine bset ?_ ?_ _); rotate_left; (first | omega | (simp <;> omega)))))
  have d2s := D2.size
  have HLST := Lib.hid hlst
  have hbl16 := bitsL_len cs.length v
  have hR := hR.below D2
  have hS := hS.below D2
  have hC := hC.below D2
  have HV := Lib.hid hlst.is.1
  obtain ⟨A2, c2, e2, -, hI2⟩ := ho.form
  injection e2 with e2 e3 e4
  subst e2
  subst e4
  clear e3 ho hlst
  go_wp2_with (first | (at_builtin; refine wpList_catL rfl (.const (.slice none 0 0)) (.tmp 23) rfl w2 [(w2.heap.size, 0, .int .i64 0), (w2.heap.size, 1, .int .i64 0)] (w2.heap.size + 1) (.slice none 0 0) [] rfl (OwnEs.nil _ _) A ca _ sets rfl rfl HNL.out ?p1 sets (List.nil_append _) (fun i r B cc hr hne hh k => by cases k) HR1 ?p4 ?p5 ?p6 ?p7 ?p8 ?_; (case p1 => exact hR.below (by repeat (first | with_reducible exact Below.refl _ _ | with_reducible apply bdrew | with_reducible apply bdrewN | with_reducible apply balloc | ((with_reducible refine bset ?_ ?_ _); rotate_left; (first | omega | (simp <;> omega)))))); (case p4 => (first | omega | (simp <;> omega))); (case p5 => (first | omega | (simp <;> omega))); (case p6 => repeat (first | with_reducible exact Below.refl _ _ | with_reducible apply bdrew | with_reducible apply bdrewN | with_reducible apply balloc | ((with_reducible refine bset ?_ ?_ _); rotate_left; (first | omega | (simp <;> omega))))); (case p7 => simp [Cls, go_sem]); (case p8 => (simp <;> omega)); intro v3 w3 o3 D3 C3 sz3; have d3s := D3.size; have F3 := C3; simp only [Cls, and_true] at F3; have y3w20 : w2.heap.size < w3.heap.size := C3.blk (b := w2.heap.size) (k := 0) (v := .int .i64 0) (by simp); have y3w2p1 : w2.heap.size < w3.heap.size + 1 := (by omega); have y3w2p2 : w2.heap.size < w3.heap.size + 1 + 1 := (by omega); have hfar3 : ∀ (i : Nat) (r : List Int) (B : Addr) (cc : Nat), [set][i]? = some r → r ≠ [] → (∃ ad, (some ⟨w3.heap.size, 0, none⟩ : Option Addr) = some ad ∧ (w3.alloc (.cells #[.slice S set.length cz] 22)).cell? (ad.add i) = some (.slice (some B) r.length cc)) → some B.block ≠ v3.ownBlock := fun i r B cc hr hne hh k => by (obtain ⟨ad, e, hc⟩ := hh; injection e with e; subst e; (match i, hr with | 0, hr => (simp at hr; subst hr; simp [go_sem, add_zero] at hc; (have h9 := OwnEs.lt o3 _ k.symm; obtain ⟨rfl, -⟩ := hc; have h8 := ints_lt hS hne; omega)) | i + 1, hr => simp at hr))) | (at_builtin; refine wpList_catL rfl (.tmp 24) (.tmp 26) rfl w2 [(w2.heap.size, 0, .int .i64 0), (w2.heap.size, 1, .int .i64 0)] (w2.heap.size + 1) (v3) sets rfl (o3.below (by repeat (first | with_reducible exact Below.refl _ _ | with_reducible apply bdrew | with_reducible apply bdrewN | with_reducible apply balloc | ((with_reducible refine bset ?_ ?_ _); rotate_left; (first | omega | (simp <;> omega)))))) (some ⟨w3.heap.size, 0, none⟩) 1 _ [set] rfl rfl (fun h => by cases h) ?p1 ms hms.out (fun i r B cc hr hne hh k => hfar3 i r B cc hr hne hh k) HR2 ?p4 ?p5 ?p6 ?p7 ?p8 ?_; (case p1 => exact rows_one (by simp [go_sem]) (hS.below (by repeat (first | with_reducible exact D3 | with_reducible apply bdrew | with_reducible apply bdrewN | with_reducible apply balloc | ((with_reducible refine bset ?_ ?_ _); rotate_left; (first | omega | (simp <;> omega)))))) HSN.out); (case p4 => (first | omega | (simp <;> omega))); (case p5 => (first | omega | (simp <;> omega))); (case p6 => repeat (first | with_reducible exact D3 | with_reducible apply bdrew | with_reducible apply bdrewN | with_reducible apply balloc | ((with_reducible refine bset ?_ ?_ _); rotate_left; (first | omega | (simp <;> omega))))); (case p7 => simp [Cls, go_sem, F3, y3w20, y3w2p1, y3w2p2]); (case p8 => (simp <;> omega)); intro v4 w4 o4 D4 C4 sz4; have d4s := D4.size; have F4 := C4; simp only [Cls, and_true] at F4; have y4w20 : w2.heap.size < w4.heap.size := C4.blk (b := w2.heap.size) (k := 0) (v := .int .i64 0) (by simp); have y4w2p1 : w2.heap.size < w4.heap.size + 1 := (by omega); have y4w2p2 : w2.heap.size < w4.heap.size + 1 + 1 := (by omega); obtain ⟨A4, c4, rfl⟩ := OwnEs.form o4))
  refine (hBest_2 _ A4 c4 ms ((OwnLA.read o4).llr.below (by repeat (first | with_reducible exact Below.refl _ _ | with_reducible apply bdrew | with_reducible apply bdrewN | with_reducible apply balloc | ((with_reducible refine bset ?_ ?_ _); rotate_left; (first | omega | (simp <;> omega)))))) (hms.out ▸ HSL2.out) HML.out C cc cs (hC.below (by repeat (first | with_reducible exact D4 | with_reducible apply bdrew | with_reducible apply bdrewN | with_reducible apply balloc | ((with_reducible refine bset ?_ ?_ _); rotate_left; (first | omega | (simp <;> omega)))))) hcl (hms.out ▸ HO2.out)).mono ?_
  rintro e w5 ⟨A5, c5, k, u, rfl, hlst5, ho5, hB5⟩
  have D5 := dstep w2 hB5 (by repeat (first | with_reducible exact D4 | with_reducible apply bdrew | with_reducible apply bdrewN | with_reducible apply balloc | ((with_reducible refine bset ?_ ?_ _); rotate_left; (first | omega | (simp <;> omega)))))
  have d5s := D5.size
  have C5 := Cls.below (l := [(w2.heap.size, 0, .int .i64 0), (w2.heap.size, 1, .int .i64 0)]) hB5 (by simp [Cls, go_sem, F4, y4w20, y4w2p1, y4w2p2])
  have F5 := C5
  simp only [Cls, and_true] at F5
  have y5w20 : w2.heap.size < w5.heap.size := C5.blk (b := w2.heap.size) (k := 0) (v := .int .i64 0) (by simp)
  have y5w2p1 : w2.heap.size < w5.heap.size + 1 := (by omega)
  have y5w2p2 : w2.heap.size < w5.heap.size + 1 + 1 := (by omega)
  rw [← hms.out] at hlst5
  have hle := more_le HLST.out hlst5
  have hle' : decide (n ≤ k) = true := decide_eq_true hle
  obtain ⟨A6, c6, e6, -, hI6⟩ := ho5.form
  injection e6 with e6 e7 e8
  subst e6
  subst e8
  clear e7 ho5
  by_cases hd : ∀ x ∈ set, ¬ x ∈ bitsL cs.length v
  · have hdd : decide (∀ x ∈ set, ¬ x ∈ bitsL cs.length v) = true := decide_eq_true hd
    clear hlst5
    go_wp2_with fail
    refine (disjoint_any _ _ _ _ set (bitsL cs.length v) _ (hS.below (by repeat (first | with_reducible exact D5 | with_reducible apply bdrew | with_reducible apply bdrewN | with_reducible apply balloc | ((with_reducible refine bset ?_ ?_ _); rotate_left; (first | omega | (simp <;> omega)))))) (hI2.below (by repeat (first | with_reducible exact D5 | with_reducible apply bdrew | with_reducible apply bdrewN | with_reducible apply balloc | ((with_reducible refine bset ?_ ?_ _); rotate_left; (first | omega | (simp <;> omega)))))) hsn2 (by omega)).mono ?_
    rintro _ w' ⟨he, rfl⟩
    rw [hdd] at he
    subst he
    go_wp2
    go_ret
    exact ⟨by simp, D2.trans (Below.mono (by repeat (first | with_reducible exact D5 | with_reducible apply bdrew | with_reducible apply bdrewN | with_reducible apply balloc | ((with_reducible refine bset ?_ ?_ _); rotate_left; (first | omega | (simp <;> omega))))) D2.size)⟩
  · have hdd : decide (∀ x ∈ set, ¬ x ∈ bitsL cs.length v) = false := decide_eq_false hd
    have hhit : HitW set v := (hit_bits HV.out).2 (Classical.byContradiction fun h => hd fun x hx hb => h ⟨x, hx, hb⟩)
    obtain ⟨hk1, hk2⟩ := more_same HLST.out hlst5 hhit
    subst hk1
    subst hk2
    clear hlst5
    go_wp2_with fail
    refine (disjoint_any _ _ _ _ set (bitsL cs.length v) _ (hS.below (by repeat (first | with_reducible exact D5 | with_reducible apply bdrew | with_reducible apply bdrewN | with_reducible apply balloc | ((with_reducible refine bset ?_ ?_ _); rotate_left; (first | omega | (simp <;> omega)))))) (hI2.below (by repeat (first | with_reducible exact D5 | with_reducible apply bdrew | with_reducible apply bdrewN | with_reducible apply balloc | ((with_reducible refine bset ?_ ?_ _); rotate_left; (first | omega | (simp <;> omega)))))) hsn2 (by omega)).mono ?_
    rintro _ w' ⟨he, rfl⟩
    rw [hdd] at he
    subst he
    go_wp2_with fail
    refine (ints_at _ _ _ _ (bitsL cs.length v).length (bitsL cs.length v) (bitsL cs.length v) _ (hI2.below (by repeat (first | with_reducible exact D5 | with_reducible apply bdrew | with_reducible apply bdrewN | with_reducible apply balloc | ((with_reducible refine bset ?_ ?_ _); rotate_left; (first | omega | (simp <;> omega)))))) (hI6.below (by repeat (first | with_reducible exact Below.refl _ _ | with_reducible apply bdrew | with_reducible apply bdrewN | with_reducible apply balloc | ((with_reducible refine bset ?_ ?_ _); rotate_left; (first | omega | (simp <;> omega)))))) rfl rfl (by omega) true (by simp)).mono ?_
    rintro e w6 ⟨rfl, hB6⟩
    have D6 := dstep w2 hB6 (by repeat (first | with_reducible exact D5 | with_reducible apply bdrew | with_reducible apply bdrewN | with_reducible apply balloc | ((with_reducible refine bset ?_ ?_ _); rotate_left; (first | omega | (simp <;> omega)))))
    have d6s := D6.size
    have Ew5_6 := dstep w5 hB6 (by repeat (first | with_reducible exact Below.refl _ _ | with_reducible apply bdrew | with_reducible apply bdrewN | with_reducible apply balloc | ((with_reducible refine bset ?_ ?_ _); rotate_left; (first | omega | (simp <;> omega)))))
    have C6 := Cls.below (l := [(w2.heap.size, 0, .int .i64 0), (w2.heap.size, 1, .int .i64 0), (w5.heap.size, 0, .int .i64 0), (w5.heap.size, 1, .int .i64 0)]) hB6 (by simp [Cls, go_sem, F5, y5w20, y5w2p1, y5w2p2])
    have F6 := C6
    simp only [Cls, and_true] at F6
    have y6w20 : w2.heap.size < w6.heap.size := C6.blk (b := w2.heap.size) (k := 0) (v := .int .i64 0) (by simp)
    have y6w2p1 : w2.heap.size < w6.heap.size + 1 := (by omega)
    have y6w2p2 : w2.heap.size < w6.heap.size + 1 + 1 := (by omega)
    have y6w50 : w5.heap.size < w6.heap.size := C6.blk (b := w5.heap.size) (k := 0) (v := .int .i64 0) (by simp)
    have y6w5p1 : w5.heap.size < w6.heap.size + 1 := (by omega)
    have y6w5p2 : w5.heap.size < w6.heap.size + 1 + 1 := (by omega)
    go_wp2
    go_ret
    exact ⟨by simp, D2.trans (Below.mono (by repeat (first | with_reducible exact D6 | with_reducible apply bdrew | with_reducible apply bdrewN | with_reducible apply balloc | ((with_reducible refine bset ?_ ?_ _); rotate_left; (first | omega | (simp <;> omega))))) D2.size)⟩

theorem walk_hms (w : World) (A : Option Addr) (ca : Nat) (sets : List (List Int)) (hR : RowsRead w A sets) (hnl : A = none → sets = [] ∧ ca = 0) (hl : sets.length ≤ 9223372036854775807) (hroom : sets.length * 24 ≤ 140737488351232) (C : Option Addr) (cc : Nat) (cs : List Int) (hC : Ints w C cs) (hcl : cs.length ≤ 9223372036854775807) (S : Option Addr) (cz : Nat) (set : List Int) (hS : Ints w S set) (hSn : NilOk S set cz) :
    Calls Try.prog 13 #[.slice A sets.length ca, .slice C cs.length cc, .slice S set.length cz] w fun e w' => e = .returned (.bool true) ∧ Below w.heap.size w w' := by
  by_cases h : (hfault sets cs).1 = 0
  · by_cases h2 : (hfault (sets ++ [set]) cs).1 = 0
    · exact walk_hms_3 w A ca sets hR hnl hl hroom C cc cs hC hcl S cz set hS hSn (hfault_zero.1 h) (hfault_zero.1 h2)
    · exact walk_hms_2 w A ca sets hR hnl hl hroom C cc cs hC hcl S cz set hS hSn (hfault_zero.1 h) _ _ rfl h2
  · exact walk_hms_1 w A ca sets hR hnl hl hroom C cc cs hC hcl S cz set hS hSn _ _ rfl h _ _ rfl fun h2 => h (hfault_zero.2 (hok_more (hfault_zero.1 h2)))

namespace hittingMoreSets
open Go.ChangeShapes Go.WideShapes Go.ChangeAt Go.RowKit

set_option maxRecDepth 100000 in
theorem lifted (os : Os) (started : os.Started) (H : Type) (enc : TypeId × Value → H) :
    ReturnsInHanded {} Try.checked os 13 .any (Rows.hittingMoreSetsSpec.pre6 enc Try.prog Try.f13 Rows.hittingMoreSetsRow.domain false) (Rows.hittingMoreSetsSpec.post enc Try.prog Try.f13 false true false false) := by
  refine returnsInHanded_of_change_sized (C := Try.checked) own_knob started (by kernel_rfl) Try.func13
    (ChangeSpec.witness6 (enc := enc) (C := Try.checked) false ⟨#[], #[.slice none 0 0, .slice none 0 0, .slice none 0 0], []⟩ 8 (by kernel_rfl) (by kernel_rfl) (by kernel_rfl) (by kernel_rfl)) ?_
  intro W base args ds gs before hval0 hW _ hwt hsz
  have hval : ∀ (j : Nat) t v, Try.f13.params[j]? = some t → args[j]? = some v → Value.okWide Try.prog W .any base t v := hval0
  have hpost := fun (W' : World) (hfn : gs = [] → Rows.hittingMoreSetsSpec.fn H (ds ++ gs) = { results := [.lit (.bool true)], args := ds }) (hb : Below W.heap.size W W') => law_post (f := Try.f13) (tb := 4) laid_out_B Try.underlying4 rfl (by kernel_rfl) rfl hfn hW hb
  obtain ⟨p, q, hA0, hV, hpq, hfz, hnd⟩ := hW
  have hA : DataW.TrodAll enc Try.prog W 0 (fun _ => true) true Try.f13.params.toList args.toList ds p := hA0
  rw [Try.params13] at hA hval
  obtain ⟨v0, vs0, d0, ds0, p0, q0, hargs, rfl, hp0, h0, r0⟩ := trodAll_cons hA
  obtain ⟨v1, vs1, d1, ds1, p1, q1, rfl, rfl, hp1, h1, r1⟩ := trodAll_cons r0
  obtain ⟨v2, vs2, d2, ds2, p2, q2, rfl, rfl, hp2, h2, r2⟩ := trodAll_cons r1
  obtain ⟨rfl, rfl, hpn⟩ := trodAll_nil r2
  obtain rfl : args = #[v0, v1, v2] := by cases args; simp_all
  obtain ⟨A, ca, sets, rfl, hLc, hLl, hLn, hR, hsize⟩ := open_rowsS (hval 0 27 v0 rfl rfl) h0
  obtain ⟨S, cs, st, rfl, hSc, hSl, hSnn, hS, hSi⟩ := open_intsW (hval 1 22 v1 rfl rfl) h1
  obtain ⟨Sz, csz, stz, rfl, hScz, hSlz, hSnnz, hSz, hSiz⟩ := open_intsW (hval 2 22 v2 rfl rfl) h2
  have hroom := rows_room hwt (j := 0) (by rw [Try.params13]; rfl) rfl hsize
  refine (walk_hms W A ca sets hR hLn (Nat.le_trans hLc hLl) hroom S cs st hS (Nat.le_trans hSc hSl) Sz csz stz hSz ⟨hSnnz, hScz, hSlz⟩).mono fun e W' ⟨he, hb⟩ => ?_
  subst he
  exact ⟨_, rfl, hpost W' (fun hg => by subst hg; rfl) hb⟩

theorem closed : joinedFacts Try.checked.prog 13 Try.f13 Rows.hittingMoreSetsSpec Rows.hittingMoreSetsRow = true := by
  unfold joinedFacts
  rw [pf_enter, pf_lifts, pf_make]
  kernel_rfl
theorem proved : Rows.HittingMoreSetsSaid :=
  OpenClaim.holds_of_wide 13 Try.f13 rfl rfl rfl rfl rfl rfl rfl ⟨rfl, rfl, rfl, rfl, rfl⟩ rfl rfl rfl rfl rfl (by kernel_rfl) Try.func13 closed
    (of_decide_eq_true (by kernel_rfl)) (by unfold Func.isWrapper; first | (rw [if_pos (by decide +kernel)]; kernel_rfl) | (rw [if_neg (by decide +kernel)]; exact ⟨rfl, rfl⟩))
    (fun os started H enc _ => lifted os started H enc)
#print axioms proved
end hittingMoreSets

end Go.Proofs.Ytihkgdlanfemcaa
