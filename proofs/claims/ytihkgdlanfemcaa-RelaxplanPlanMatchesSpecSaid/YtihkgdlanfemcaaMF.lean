/-
  R.Copy, R.With: what they return.
  S.Within: what it returns.
  two, relaxedExample: what they return.
-/
import Derived.Test.YtihkgdlanfemcaaMC
import Derived.Test.YtihkgdlanfemcaaMA
import Derived.Test.YtihkgdlanfemcaaMB
import Derived.Test.YtihkgdlanfemcaaME
namespace Go.Proofs.Ytihkgdlanfemcaa
open Go.RowKit
set_option linter.unusedVariables false
set_option linter.unusedSimpArgs false

set_option maxRecDepth 100000 in
set_option maxHeartbeats 400000 in
theorem copy_any (w : World) (A : Option Addr) (c n : Nat) (xs : List Int) (hI : Ints w A xs) (hn : xs.length = n) (hnil : A = none → xs = [] ∧ c = 0) (hlen : n ≤ 1000000000000) :
    Calls Try.prog 62 #[.slice A n c] w fun e w' => ∃ A' c', e = .returned (.slice A' n c') ∧ OwnI w.heap.size w' (.slice A' n c') xs ∧ (A' = none → xs = [] ∧ c' = 0) ∧ Below w.heap.size w w' := by
  go_enter Try.func62, Try.ntmps62
  go_wp2_with (at_builtin; go_must (refine wpList_copy rfl (.tmp 4) (.tmp 5) rfl A c n xs rfl rfl hn hnil hI hlen ?_; intro A1 c1 w1 o1 hnil1 B1))
  go_ret
  exact ⟨A1, c1, rfl, o1, hnil1, B1⟩

theorem OwnI.form_at' {base n : Nat} {w : World} {v : Value} {xs : List Int} (h : OwnI base w v xs) (hn : xs.length = n) : ∃ A c, v = .slice A n c ∧ (A = none → xs = [] ∧ c = 0) := by
  subst hn
  obtain ⟨A, c, rfl, h1, _⟩ := h.form
  exact ⟨A, c, rfl, h1⟩
set_option maxRecDepth 100000 in
set_option maxHeartbeats 1000000 in
theorem with_skip (w : World) (A : Option Addr) (c m : Nat) (l : List Int) (n : Int) (hI : Ints w A l) (hm : l.length = m) (hc : m ≤ c) (hc2 : c ≤ 9223372036854775807) (hnil : A = none → c = 0) (hlen : m ≤ 100000000000) (hs : l.Pairwise (· < ·)) (j : Nat) (hj1 : ∀ x ∈ l.take j, x < n) (hjl : l[j]? = some n) :
    Calls Try.prog 63 #[.slice A m c, .int .i64 n] w fun e w' => ∃ v, e = .returned v ∧ OwnI w.heap.size w' v (withV l n) ∧ Below w.heap.size w w' := by
  have hjm : j < m := by rw [← hm]; exact (List.getElem?_eq_some_iff.1 hjl).1
  have HL := Lib.hid hjl
  clear hjl
  have HS := Lib.hid hs
  have HJ := Lib.hid hj1
  clear hs hj1
  go_enter Try.func63, Try.ntmps63
  go_wp2_with fail
  go_loopw [5, 6] (fun v i wr => ∃ k : Nat, k ≤ j ∧ i = .int .i64 k ∧ OwnI w.heap.size wr v (l.take k) ∧ Below w.heap.size w wr) (fun _ i _ => j - (intOf i).toNat)
  case atStart => exact ⟨0, Nat.zero_le _, rfl, OwnI.nil _ _, Below.refl _ _⟩
  case round =>
    obtain ⟨k, hk, rfl, hown, hBr⟩ := hrel
    have dRs := hBr.size
    have hlk : (l.take k).length = k := by rw [List.length_take]; omega
    have HLK := Lib.hid hlk
    clear hlk
    by_cases hlt : k < j
    · obtain ⟨ad, x, rfl, hx, hcx⟩ := (hI.below hBr).at_ (k := k) (by omega)
      have hxn : x < n := HJ.out x (by rw [List.mem_take_iff_getElem]; obtain ⟨h1, h2⟩ := List.getElem?_eq_some_iff.1 hx.out; exact ⟨k, by omega, h2⟩)
      have HT := Lib.hid (show l.take k ++ [x] = l.take (k + 1) by rw [List.take_add_one, hx.out]; rfl)
      have hlen' : (l.take k).length < 1000000000000 := by have := HLK.out; omega
      go_wp2_with (at_builtin; go_must (refine wpList_push rfl (.tmp 22) (.tmp 27) rfl w [] (w.heap.size) u5 _ (x) rfl (OwnI.below hown ?p1) ⟨wr.heap.size, 0, none⟩ 1 rfl ?p2 hlen' ?p3 ?p4 ?p5 ?p6 ?p7 ?_; (case p1 => repeat (first | with_reducible exact Below.refl _ _ | with_reducible apply bdrew | with_reducible apply bdrewN | with_reducible apply balloc | ((with_reducible refine bset ?_ ?_ _); rotate_left; (first | omega | (simp <;> omega))))); (case p2 => simp [Cls, go_sem]); (case p3 => (first | omega | (simp <;> omega))); (case p4 => (first | omega | (simp <;> omega))); (case p5 => repeat (first | with_reducible exact hBr | with_reducible apply bdrew | with_reducible apply bdrewN | with_reducible apply balloc | ((with_reducible refine bset ?_ ?_ _); rotate_left; (first | omega | (simp <;> omega))))); (case p6 => simp [Cls, go_sem]); (case p7 => (simp <;> omega)); intro v1 w1 o1 D1 C1 sz1; have d1s := D1.size))
      go_roundw
      case rel => exact ⟨k + 1, by omega, by go_num, by rw [← HT.out]; exact o1, by repeat (first | with_reducible exact D1 | with_reducible apply bdrew | with_reducible apply bdrewN | with_reducible apply balloc | ((with_reducible refine bset ?_ ?_ _); rotate_left; (first | omega | (simp <;> omega))))⟩
      case measure => simp [intOf]; omega
    · obtain rfl : k = j := by omega
      obtain ⟨A1, c1, rfl, hnil1⟩ := OwnI.form_at' hown HLK.out
      have HN1 := Lib.hid hnil1
      clear hnil1
      have hlen' : (l.take k).length < 1000000000000 := by have := HLK.out; omega
      have hlen2 : (l.take k ++ [n]).length + (m - (k + 1)) ≤ 1000000000000 := by rw [List.length_append, HLK.out]; simp; omega
      obtain ⟨ad, x, rfl, hx, hcx⟩ := hI.at_ (k := k) (by omega)
      obtain rfl : x = n := by have := hx.out; rw [HL.out] at this; injection this with this; exact this.symm
      have hcx1 := (hBr.cell (World.block_lt_of_cell? w _ hcx)).trans hcx
      obtain ⟨x, rfl⟩ : ∃ y, y = x := ⟨_, rfl⟩
      obtain ⟨A3, hA3, hI3, hrun3⟩ := cut_ints (some ad) m c (k + 1) (by omega) hc hc2
      have HN3 := Lib.hid (fun e : A3 = none => show c - (k + 1) = 0 by have := hnil (hA3 e); omega)
      have HI3 := Lib.hid hI3
      have hsl := hrun3 (↑k + 1) (by omega)
      have hnil' := Lib.hid hnil
      clear hnil hA3 hI3 hrun3
      go_upto_region 10 with (at_builtin; go_must (refine wpList_push rfl (.tmp 31) (.tmp 33) rfl w [] (w.heap.size) (.slice A1 k c1) _ (x) rfl (OwnI.below hown ?p1) ⟨wr.heap.size, 0, none⟩ 1 rfl ?p2 hlen' ?p3 ?p4 ?p5 ?p6 ?p7 ?_; (case p1 => repeat (first | with_reducible exact Below.refl _ _ | with_reducible apply bdrew | with_reducible apply bdrewN | with_reducible apply balloc | ((with_reducible refine bset ?_ ?_ _); rotate_left; (first | omega | (simp <;> omega))))); (case p2 => simp [go_sem]); (case p3 => (simp <;> omega)); (case p4 => omega); (case p5 => repeat (first | with_reducible exact hBr | with_reducible apply bdrew | with_reducible apply bdrewN | with_reducible apply balloc | ((with_reducible refine bset ?_ ?_ _); rotate_left; (first | omega | (simp <;> omega))))); (case p6 => trivial); (case p7 => simp); intro v2 w2 o2 D2 C2 sz2; have d2s := D2.size; have hcx2 := (D2.cell (World.block_lt_of_cell? w _ hcx)).trans hcx))
      go_wp2_with (at_builtin; go_must (refine wpList_cat rfl (.tmp 49) (.tmp 52) rfl w [] (w.heap.size) v2 _ rfl o2 A3 _ _ (l.drop (k + 1)) rfl ?p6 ?p7 ?p1 ?p8 ?p3 ?p4 D2 trivial ?p5 ?_; (case p1 => exact HI3.out _ _ hm (hI.below D2)); (case p3 => omega); (case p4 => omega); (case p5 => simp); (case p6 => rw [List.length_drop, hm]; (try omega)); (case p7 => intro e; have := HN3.out e; omega); (case p8 => have := hlen2; omega); intro v3 w3 o3 D3 C3 sz3))
      go_ret
      exact ⟨_, rfl, by rw [withV_skip HS.out HJ.out HL.out]; exact o3, D3⟩

set_option maxRecDepth 100000 in
set_option maxHeartbeats 400000 in
theorem with_put (w : World) (A : Option Addr) (c m : Nat) (l : List Int) (n : Int) (hI : Ints w A l) (hm : l.length = m) (hc : m ≤ c) (hc2 : c ≤ 9223372036854775807) (hnil : A = none → c = 0) (hlen : m ≤ 100000000000) (hs : l.Pairwise (· < ·)) (j : Nat) (hj1 : ∀ x ∈ l.take j, x < n) (hjm : j < m) (hjl : ∀ x, l[j]? = some x → n < x) :
    Calls Try.prog 63 #[.slice A m c, .int .i64 n] w fun e w' => ∃ v, e = .returned v ∧ OwnI w.heap.size w' v (withV l n) ∧ Below w.heap.size w w' := by
  have HL := Lib.hid hjl
  clear hjl
  have HS := Lib.hid hs
  have HJ := Lib.hid hj1
  clear hs hj1
  go_enter Try.func63, Try.ntmps63
  go_wp2_with fail
  go_loopw [5, 6] (fun v i wr => ∃ k : Nat, k ≤ j ∧ i = .int .i64 k ∧ OwnI w.heap.size wr v (l.take k) ∧ Below w.heap.size w wr) (fun _ i _ => j - (intOf i).toNat)
  case atStart => exact ⟨0, Nat.zero_le _, rfl, OwnI.nil _ _, Below.refl _ _⟩
  case round =>
    obtain ⟨k, hk, rfl, hown, hBr⟩ := hrel
    have dRs := hBr.size
    have hlk : (l.take k).length = k := by rw [List.length_take]; omega
    have HLK := Lib.hid hlk
    clear hlk
    by_cases hlt : k < j
    · obtain ⟨ad, x, rfl, hx, hcx⟩ := (hI.below hBr).at_ (k := k) (by omega)
      have hxn : x < n := HJ.out x (by rw [List.mem_take_iff_getElem]; obtain ⟨h1, h2⟩ := List.getElem?_eq_some_iff.1 hx.out; exact ⟨k, by omega, h2⟩)
      have HT := Lib.hid (show l.take k ++ [x] = l.take (k + 1) by rw [List.take_add_one, hx.out]; rfl)
      have hlen' : (l.take k).length < 1000000000000 := by have := HLK.out; omega
      go_wp2_with (at_builtin; go_must (refine wpList_push rfl (.tmp 22) (.tmp 27) rfl w [] (w.heap.size) u5 _ (x) rfl (OwnI.below hown ?p1) ⟨wr.heap.size, 0, none⟩ 1 rfl ?p2 hlen' ?p3 ?p4 ?p5 ?p6 ?p7 ?_; (case p1 => repeat (first | with_reducible exact Below.refl _ _ | with_reducible apply bdrew | with_reducible apply bdrewN | with_reducible apply balloc | ((with_reducible refine bset ?_ ?_ _); rotate_left; (first | omega | (simp <;> omega))))); (case p2 => simp [Cls, go_sem]); (case p3 => (first | omega | (simp <;> omega))); (case p4 => (first | omega | (simp <;> omega))); (case p5 => repeat (first | with_reducible exact hBr | with_reducible apply bdrew | with_reducible apply bdrewN | with_reducible apply balloc | ((with_reducible refine bset ?_ ?_ _); rotate_left; (first | omega | (simp <;> omega))))); (case p6 => simp [Cls, go_sem]); (case p7 => (simp <;> omega)); intro v1 w1 o1 D1 C1 sz1; have d1s := D1.size))
      go_roundw
      case rel => exact ⟨k + 1, by omega, by go_num, by rw [← HT.out]; exact o1, by repeat (first | with_reducible exact D1 | with_reducible apply bdrew | with_reducible apply bdrewN | with_reducible apply balloc | ((with_reducible refine bset ?_ ?_ _); rotate_left; (first | omega | (simp <;> omega))))⟩
      case measure => simp [intOf]; omega
    · obtain rfl : k = j := by omega
      obtain ⟨A1, c1, rfl, hnil1⟩ := OwnI.form_at' hown HLK.out
      have HN1 := Lib.hid hnil1
      clear hnil1
      have hlen' : (l.take k).length < 1000000000000 := by have := HLK.out; omega
      have hlen2 : (l.take k ++ [n]).length + (m - (k)) ≤ 1000000000000 := by rw [List.length_append, HLK.out]; simp; omega
      obtain ⟨ad, x, rfl, hx, hcx⟩ := hI.at_ (k := k) (by omega)
      have hxn : n < x := HL.out x hx.out
      have hxe : (x == n) = false := by simp; omega
      have hxl : ¬ x < n := by omega
      have hcx1 := (hBr.cell (World.block_lt_of_cell? w _ hcx)).trans hcx
      obtain ⟨A3, hA3, hI3, hrun3⟩ := cut_ints (some ad) m c (k) (by omega) hc hc2
      have HN3 := Lib.hid (fun e : A3 = none => show c - (k) = 0 by have := hnil (hA3 e); omega)
      have HI3 := Lib.hid hI3
      have hsl := hrun3 ↑k rfl
      have hnil' := Lib.hid hnil
      clear hnil hA3 hI3 hrun3
      go_upto_region 10 with (at_builtin; go_must (refine wpList_push rfl (.tmp 31) (.tmp 33) rfl w [] (w.heap.size) (.slice A1 k c1) _ (n) rfl (OwnI.below hown ?p1) ⟨wr.heap.size, 0, none⟩ 1 rfl ?p2 hlen' ?p3 ?p4 ?p5 ?p6 ?p7 ?_; (case p1 => repeat (first | with_reducible exact Below.refl _ _ | with_reducible apply bdrew | with_reducible apply bdrewN | with_reducible apply balloc | ((with_reducible refine bset ?_ ?_ _); rotate_left; (first | omega | (simp <;> omega))))); (case p2 => simp [go_sem]); (case p3 => (simp <;> omega)); (case p4 => omega); (case p5 => repeat (first | with_reducible exact hBr | with_reducible apply bdrew | with_reducible apply bdrewN | with_reducible apply balloc | ((with_reducible refine bset ?_ ?_ _); rotate_left; (first | omega | (simp <;> omega))))); (case p6 => trivial); (case p7 => simp); intro v2 w2 o2 D2 C2 sz2; have d2s := D2.size; have hcx2 := (D2.cell (World.block_lt_of_cell? w _ hcx)).trans hcx))
      go_wp2_with (at_builtin; go_must (refine wpList_cat rfl (.tmp 49) (.tmp 52) rfl w [] (w.heap.size) v2 _ rfl o2 A3 _ _ (l.drop (k)) rfl ?p6 ?p7 ?p1 ?p8 ?p3 ?p4 D2 trivial ?p5 ?_; (case p1 => exact HI3.out _ _ hm (hI.below D2)); (case p3 => omega); (case p4 => omega); (case p5 => simp); (case p6 => rw [List.length_drop, hm]; (try omega)); (case p7 => intro e; have := HN3.out e; omega); (case p8 => have := hlen2; omega); intro v3 w3 o3 D3 C3 sz3))
      go_ret
      exact ⟨_, rfl, by rw [withV_put HS.out HJ.out HL.out]; exact o3, D3⟩

set_option maxRecDepth 100000 in
set_option maxHeartbeats 400000 in
theorem with_end (w : World) (A : Option Addr) (c m : Nat) (l : List Int) (n : Int) (hI : Ints w A l) (hm : l.length = m) (hc : m ≤ c) (hc2 : c ≤ 9223372036854775807) (hnil : A = none → c = 0) (hlen : m ≤ 100000000000) (hs : l.Pairwise (· < ·)) (j : Nat) (hj1 : ∀ x ∈ l.take j, x < n) (hjm : j = m) :
    Calls Try.prog 63 #[.slice A m c, .int .i64 n] w fun e w' => ∃ v, e = .returned v ∧ OwnI w.heap.size w' v (withV l n) ∧ Below w.heap.size w w' := by
  have HL := Lib.hid (fun (x : Int) (h : l[j]? = some x) => (show n < x by have := (List.getElem?_eq_some_iff.1 h).1; omega))
  have hjm2 : j ≤ m := by omega
  have hjm3 : m ≤ j := by omega
  clear hjm
  have HS := Lib.hid hs
  have HJ := Lib.hid hj1
  clear hs hj1
  go_enter Try.func63, Try.ntmps63
  go_wp2_with fail
  go_loopw [5, 6] (fun v i wr => ∃ k : Nat, k ≤ j ∧ i = .int .i64 k ∧ OwnI w.heap.size wr v (l.take k) ∧ Below w.heap.size w wr) (fun _ i _ => j - (intOf i).toNat)
  case atStart => exact ⟨0, Nat.zero_le _, rfl, OwnI.nil _ _, Below.refl _ _⟩
  case round =>
    obtain ⟨k, hk, rfl, hown, hBr⟩ := hrel
    have dRs := hBr.size
    have hlk : (l.take k).length = k := by rw [List.length_take]; omega
    have HLK := Lib.hid hlk
    clear hlk
    by_cases hlt : k < j
    · obtain ⟨ad, x, rfl, hx, hcx⟩ := (hI.below hBr).at_ (k := k) (by omega)
      have hxn : x < n := HJ.out x (by rw [List.mem_take_iff_getElem]; obtain ⟨h1, h2⟩ := List.getElem?_eq_some_iff.1 hx.out; exact ⟨k, by omega, h2⟩)
      have HT := Lib.hid (show l.take k ++ [x] = l.take (k + 1) by rw [List.take_add_one, hx.out]; rfl)
      have hlen' : (l.take k).length < 1000000000000 := by have := HLK.out; omega
      go_wp2_with (at_builtin; go_must (refine wpList_push rfl (.tmp 22) (.tmp 27) rfl w [] (w.heap.size) u5 _ (x) rfl (OwnI.below hown ?p1) ⟨wr.heap.size, 0, none⟩ 1 rfl ?p2 hlen' ?p3 ?p4 ?p5 ?p6 ?p7 ?_; (case p1 => repeat (first | with_reducible exact Below.refl _ _ | with_reducible apply bdrew | with_reducible apply bdrewN | with_reducible apply balloc | ((with_reducible refine bset ?_ ?_ _); rotate_left; (first | omega | (simp <;> omega))))); (case p2 => simp [Cls, go_sem]); (case p3 => (first | omega | (simp <;> omega))); (case p4 => (first | omega | (simp <;> omega))); (case p5 => repeat (first | with_reducible exact hBr | with_reducible apply bdrew | with_reducible apply bdrewN | with_reducible apply balloc | ((with_reducible refine bset ?_ ?_ _); rotate_left; (first | omega | (simp <;> omega))))); (case p6 => simp [Cls, go_sem]); (case p7 => (simp <;> omega)); intro v1 w1 o1 D1 C1 sz1; have d1s := D1.size))
      go_roundw
      case rel => exact ⟨k + 1, by omega, by go_num, by rw [← HT.out]; exact o1, by repeat (first | with_reducible exact D1 | with_reducible apply bdrew | with_reducible apply bdrewN | with_reducible apply balloc | ((with_reducible refine bset ?_ ?_ _); rotate_left; (first | omega | (simp <;> omega))))⟩
      case measure => simp [intOf]; omega
    · obtain rfl : k = j := by omega
      obtain ⟨A1, c1, rfl, hnil1⟩ := OwnI.form_at' hown HLK.out
      have HN1 := Lib.hid hnil1
      clear hnil1
      have hlen' : (l.take k).length < 1000000000000 := by have := HLK.out; omega
      have hlen2 : (l.take k ++ [n]).length + (m - (k)) ≤ 1000000000000 := by rw [List.length_append, HLK.out]; simp; omega
      have hge : ¬ k < m := by omega
      obtain ⟨A3, hA3, hI3, hrun3⟩ := cut_ints A m c (k) (by omega) hc hc2
      have HN3 := Lib.hid (fun e : A3 = none => show c - (k) = 0 by have := hnil (hA3 e); omega)
      have HI3 := Lib.hid hI3
      have hsl := hrun3 ↑k rfl
      have hnil' := Lib.hid hnil
      clear hnil hA3 hI3 hrun3
      go_upto_region 10 with (at_builtin; go_must (refine wpList_push rfl (.tmp 31) (.tmp 33) rfl w [] (w.heap.size) (.slice A1 k c1) _ (n) rfl (OwnI.below hown ?p1) ⟨wr.heap.size, 0, none⟩ 1 rfl ?p2 hlen' ?p3 ?p4 ?p5 ?p6 ?p7 ?_; (case p1 => repeat (first | with_reducible exact Below.refl _ _ | with_reducible apply bdrew | with_reducible apply bdrewN | with_reducible apply balloc | ((with_reducible refine bset ?_ ?_ _); rotate_left; (first | omega | (simp <;> omega))))); (case p2 => simp [go_sem]); (case p3 => (simp <;> omega)); (case p4 => omega); (case p5 => repeat (first | with_reducible exact hBr | with_reducible apply bdrew | with_reducible apply bdrewN | with_reducible apply balloc | ((with_reducible refine bset ?_ ?_ _); rotate_left; (first | omega | (simp <;> omega))))); (case p6 => trivial); (case p7 => simp); intro v2 w2 o2 D2 C2 sz2; have d2s := D2.size))
      go_wp2_with (at_builtin; go_must (refine wpList_cat rfl (.tmp 49) (.tmp 52) rfl w [] (w.heap.size) v2 _ rfl o2 A3 _ _ (l.drop (k)) rfl ?p6 ?p7 ?p1 ?p8 ?p3 ?p4 D2 trivial ?p5 ?_; (case p1 => exact HI3.out _ _ hm (hI.below D2)); (case p3 => omega); (case p4 => omega); (case p5 => simp); (case p6 => rw [List.length_drop, hm]; (try omega)); (case p7 => intro e; have := HN3.out e; omega); (case p8 => have := hlen2; omega); intro v3 w3 o3 D3 C3 sz3))
      go_ret
      exact ⟨_, rfl, by rw [withV_put HS.out HJ.out HL.out]; exact o3, D3⟩

theorem with_any (w : World) (A : Option Addr) (c m : Nat) (l : List Int) (n : Int) (hI : Ints w A l) (hm : l.length = m) (hc : m ≤ c) (hc2 : c ≤ 9223372036854775807) (hnil : A = none → c = 0) (hlen : m ≤ 100000000000) (hs : l.Pairwise (· < ·)) :
    Calls Try.prog 63 #[.slice A m c, .int .i64 n] w fun e w' => ∃ v, e = .returned v ∧ OwnI w.heap.size w' v (withV l n) ∧ Below w.heap.size w w' := by
  have e := List.takeWhile_append_dropWhile (p := fun x => decide (x < n)) (l := l)
  have h1 : ∀ x ∈ l.take (l.takeWhile (fun x => decide (x < n))).length, x < n := fun x hx => by
    rw [← List.takeWhile_append_dropWhile (p := fun x => decide (x < n)) (l := l)] at hx
    rw [List.take_append_of_le_length (by simp), List.take_of_length_le (by simp)] at hx
    exact mem_takeWhile_lt hx
  have hle : (l.takeWhile (fun x => decide (x < n))).length ≤ m := by have e2 := congrArg List.length e; rw [List.length_append] at e2; omega
  have h2 : ∀ x, l[(l.takeWhile (fun x => decide (x < n))).length]? = some x → n ≤ x := fun x hx => by
    refine mem_dropWhile_ge hs ?_ (n := n)
    have h3 : (l.takeWhile (fun x => decide (x < n)) ++ l.dropWhile (fun x => decide (x < n)))[(l.takeWhile (fun x => decide (x < n))).length]? = some x := by rw [e]; exact hx
    rw [List.getElem?_append_right (by omega)] at h3
    exact List.mem_of_getElem? h3
  generalize (l.takeWhile (fun x => decide (x < n))).length = j at *
  by_cases hj : j = m
  · exact with_end w A c m l n hI hm hc hc2 hnil hlen hs j h1 hj
  · obtain ⟨x, hx⟩ : ∃ x, l[j]? = some x := ⟨_, List.getElem?_eq_getElem (by omega)⟩
    by_cases hxn : x = n
    · subst hxn; exact with_skip w A c m l x hI hm hc hc2 hnil hlen hs j h1 hx
    · exact with_put w A c m l n hI hm hc hc2 hnil hlen hs j h1 (by omega) (fun y hy => by have := h2 y hy; rw [hx] at hy; injection hy with hy; omega)

end Go.Proofs.Ytihkgdlanfemcaa

namespace Go.Proofs.Ytihkgdlanfemcaa
open Go.RowKit
end Go.Proofs.Ytihkgdlanfemcaa

namespace Go.Proofs.Ytihkgdlanfemcaa
open Go.RowKit
set_option linter.unusedVariables false
set_option linter.unusedSimpArgs false

/-- The task of the examples. -/
def twoV : TaskV := ⟨2, [], [0, 1], [⟨[], [0], [], 2⟩, ⟨[], [1], [], 3⟩]⟩
def chainV : TaskV := ⟨2, [], [1], [⟨[], [0], [], 2⟩, ⟨[0], [1], [], 3⟩]⟩
theorem ints_one {w : World} {g : Nat} {x : Int} (h0 : w.cell? ⟨g, 0, none⟩ = some (.int .i64 x)) : Ints w (some ⟨g, 0, none⟩) [x] := fun j u hu => by
  cases j with
  | zero => simp at hu; subst hu; exact ⟨_, rfl, h0⟩
  | succ j => simp at hu
theorem ints_two {w : World} {g : Nat} {x y : Int} (h0 : w.cell? ⟨g, 0, none⟩ = some (.int .i64 x)) (h1 : w.cell? ⟨g, 1, none⟩ = some (.int .i64 y)) : Ints w (some ⟨g, 0, none⟩) [x, y] := fun j u hu => by
  cases j with
  | zero => simp at hu; subst hu; exact ⟨_, rfl, h0⟩
  | succ j =>
    cases j with
    | zero => simp at hu; subst hu; exact ⟨_, rfl, h1⟩
    | succ j => simp at hu
theorem ops_two {w : World} {g : Nat} {o p : OpV} {A0 A1 A2 B0 B1 B2 : Option Addr} {c0 c1 c2 d0 d1 d2 : Nat} (h0 : w.cell? ⟨g, 0, none⟩ = some (.slice A0 o.pre.length c0)) (h1 : w.cell? ⟨g, 1, none⟩ = some (.slice A1 o.add.length c1)) (h2 : w.cell? ⟨g, 2, none⟩ = some (.slice A2 o.del.length c2)) (h3 : w.cell? ⟨g, 3, none⟩ = some (.int .i64 o.cost)) (hm : OpMem w A0 A1 A2 o)
    (k0 : w.cell? ⟨g, 4, none⟩ = some (.slice B0 p.pre.length d0)) (k1 : w.cell? ⟨g, 5, none⟩ = some (.slice B1 p.add.length d1)) (k2 : w.cell? ⟨g, 6, none⟩ = some (.slice B2 p.del.length d2)) (k3 : w.cell? ⟨g, 7, none⟩ = some (.int .i64 p.cost)) (km : OpMem w B0 B1 B2 p) : OpsAt w (some ⟨g, 0, none⟩) [o, p] := fun j u hu => by
  cases j with
  | zero => simp at hu; subst hu; exact ⟨_, _, _, _, _, _, _, rfl, h0, h1, h2, h3, hm⟩
  | succ j =>
    cases j with
    | zero => simp at hu; subst hu; exact ⟨_, _, _, _, _, _, _, rfl, k0, k1, k2, k3, km⟩
    | succ j => simp at hu
set_option maxRecDepth 100000 in
set_option maxHeartbeats 400000 in
theorem two_no (w : World)  :
    Calls Try.prog 67 #[.bool false] w fun e w' => ∃ g h, e = .returned (.agg #[.int .i64 2, .slice none 0 0, .slice (some ⟨g, 0, none⟩) 2 2, .slice (some ⟨h, 0, none⟩) 2 2]) ∧ TaskMem w' none (some ⟨g, 0, none⟩) (some ⟨h, 0, none⟩) twoV ∧ Below w.heap.size w w' := by
  go_enter Try.func67, Try.ntmps67
  go_wp2
  refine bodyPost_ret (v := .agg #[.int .i64 2, .slice none 0 0, .slice (some ⟨w.heap.size + 1, 0, none⟩) 2 2, .slice (some ⟨w.heap.size + 1 + 1 + 1 + 1, 0, none⟩) 2 2]) ?_ rfl ⟨_, _, rfl, ?_, by repeat (first | with_reducible exact Below.refl _ _ | with_reducible apply bdrew | with_reducible apply bdrewN | with_reducible apply balloc | ((with_reducible refine bset ?_ ?_ _); rotate_left; (first | omega | (simp <;> omega))))⟩
  · simp [results, Try.results67, go_sem]
  · refine ⟨Ints.nil _ _, ints_two ?_ ?_, ops_two (A0 := none) (c0 := 0) (A1 := some ⟨w.heap.size + 1 + 1, 0, none⟩) (c1 := 1) (A2 := none) (c2 := 0) (B0 := none) (d0 := 0) (B1 := some ⟨w.heap.size + 1 + 1 + 1, 0, none⟩) (d1 := 1) (B2 := none) (d2 := 0) ?_ ?_ ?_ ?_ ⟨Ints.nil _ _, ints_one ?_, Ints.nil _ _, by simp [lenOk], by simp [lenOk], by simp [lenOk]⟩ ?_ ?_ ?_ ?_ ⟨Ints.nil _ _, ints_one ?_, Ints.nil _ _, by simp [lenOk], by simp [lenOk], by simp [lenOk]⟩, by simp [lenOk, twoV], by simp [lenOk, twoV], by simp [lenOk, twoV]⟩
    all_goals simp [go_sem]

theorem two_valid : Valid twoV := by
  refine ⟨by decide, by decide, SetP.nil _, ?_, by decide, ?_⟩
  · exact SetP.of_pairwise (by simp [twoV]) (by simp [twoV])
  · intro o ho
    simp only [twoV, List.mem_cons, List.not_mem_nil, or_false] at ho
    rcases ho with rfl | rfl
    · exact ⟨⟨SetP.nil _, SetP.of_pairwise (by simp [twoV]) (by simp), SetP.nil _, by simp⟩, by decide, by decide⟩
    · exact ⟨⟨SetP.nil _, SetP.of_pairwise (by simp [twoV]) (by simp), SetP.nil _, by simp⟩, by decide, by decide⟩
theorem two_best (s : Bool) : Best s 2 [] twoV.ops (twoV.ops.map (·.cost)) [2, 3] := by
  refine ⟨⟨⟨rfl, ?_, by simp⟩, ?_⟩, ?_⟩
  · intro v hv
    simp only [List.mem_cons, List.not_mem_nil, or_false] at hv
    unfold InV
    omega
  · intro i o c hi ho hc p hp
    match i, hi with
    | 0, _ => cases ho; cases hc; simp at hp; subst hp; cases s <;> decide
    | 1, _ => cases ho; cases hc; simp at hp; subst hp; cases s <;> decide
  · intro U hU p
    have h0 := hU.closed 0 _ _ (by decide) rfl rfl 0 (by simp)
    have h1 := hU.closed 1 _ _ (by decide) rfl rfl 1 (by simp)
    have e0 : opV s U ⟨[], [0], [], 2⟩ 2 = 2 := by unfold opV; rw [combV_nil]; rfl
    have e1 : opV s U ⟨[], [1], [], 3⟩ 3 = 3 := by unfold opV; rw [combV_nil]; rfl
    rw [e0] at h0
    rw [e1] at h1
    have hl := hU.shape.len
    unfold valAt at h0 h1 ⊢
    rcases Nat.lt_or_ge p.toNat 2 with hp | hp
    · rcases (by omega : p.toNat = 0 ∨ p.toNat = 1) with e | e
      · rw [e]; exact h0
      · rw [e]; exact h1
    · rw [List.getElem?_eq_none (by omega), List.getElem?_eq_none (by simpa using hp)]
      exact Int.le_refl _
theorem two_values (s : Bool) : valuesV s 2 [] twoV.ops (twoV.ops.map (·.cost)) = [2, 3] := (best_eq (two_best s)).symm
theorem two_within : withinV 2 [] twoV.ops (fun _ => true) = [0, 1] := by
  refine SetP.ext withinV_set (SetP.of_pairwise (n := 2) (by simp) (by simp)) fun x => ?_
  rw [withinV_mem]
  constructor
  · rintro ⟨h0, h1, _⟩
    have : x = 0 ∨ x = 1 := by omega
    simpa using this
  · intro h
    have hx : x = 0 ∨ x = 1 := by simpa using h
    rcases hx with rfl | rfl
    · exact ⟨by decide, by decide, .step (i := 0) (o := ⟨[], [0], [], 2⟩) rfl rfl (by simp) (by simp)⟩
    · exact ⟨by decide, by decide, .step (i := 1) (o := ⟨[], [1], [], 3⟩) rfl rfl (by simp) (by simp)⟩
theorem max_two (w : World) (g h : Nat) (hT : TaskMem w none (some ⟨g, 0, none⟩) (some ⟨h, 0, none⟩) twoV) :
    Calls Try.prog 41 #[.agg #[.int .i64 2, .slice none 0 0, .slice (some ⟨g, 0, none⟩) 2 2, .slice (some ⟨h, 0, none⟩) 2 2], .slice none 0 0] w fun e w' => ∃ k, e = .returned (.tuple #[.slice (some ⟨k, 0, none⟩) 2 2, .int .i64 3, .agg #[.int .i64 0, .int .i64 0]]) ∧ w.heap.size ≤ k ∧ IArr w' k [2, 3] ∧ Below w.heap.size w w' := by
  have h1 := max_2 w twoV none (some ⟨g, 0, none⟩) (some ⟨h, 0, none⟩) 0 2 2 hT none 0 [] (Ints.nil _ _) (by simp [lenOk]) 2 rfl two_valid (SetP.nil _)
  refine h1.mono ?_
  rintro e w' ⟨k, rfl, hk, hA, _, hB⟩
  rw [two_values] at hA ⊢
  exact ⟨k, rfl, hk, hA, hB⟩
theorem add_two (w : World) (g h : Nat) (hT : TaskMem w none (some ⟨g, 0, none⟩) (some ⟨h, 0, none⟩) twoV) :
    Calls Try.prog 89 #[.agg #[.int .i64 2, .slice none 0 0, .slice (some ⟨g, 0, none⟩) 2 2, .slice (some ⟨h, 0, none⟩) 2 2], .slice none 0 0] w fun e w' => ∃ k, e = .returned (.tuple #[.slice (some ⟨k, 0, none⟩) 2 2, .int .i64 5, .agg #[.int .i64 0, .int .i64 0]]) ∧ w.heap.size ≤ k ∧ IArr w' k [2, 3] ∧ Below w.heap.size w w' := by
  have h1 := add_2 w twoV none (some ⟨g, 0, none⟩) (some ⟨h, 0, none⟩) 0 2 2 hT none 0 [] (Ints.nil _ _) (by simp [lenOk]) 2 rfl two_valid (SetP.nil _)
  refine h1.mono ?_
  rintro e w' ⟨k, rfl, hk, hA, _, hB⟩
  rw [two_values] at hA ⊢
  exact ⟨k, rfl, hk, hA, hB⟩
theorem reachable_two (w : World) (g h : Nat) (hT : TaskMem w none (some ⟨g, 0, none⟩) (some ⟨h, 0, none⟩) twoV) :
    Calls Try.prog 39 #[.agg #[.int .i64 2, .slice none 0 0, .slice (some ⟨g, 0, none⟩) 2 2, .slice (some ⟨h, 0, none⟩) 2 2], .slice none 0 0] w fun e w' => ∃ A c, e = .returned (.tuple #[.slice A 2 c, .agg #[.int .i64 0, .int .i64 0]]) ∧ Ints w' A [0, 1] ∧ Below w.heap.size w w' := by
  have h1 := reachable_2 w twoV none (some ⟨g, 0, none⟩) (some ⟨h, 0, none⟩) 0 2 2 hT none 0 [] (Ints.nil _ _) (by simp [lenOk]) 2 rfl two_valid (SetP.nil _)
  refine h1.mono ?_
  rintro e w' ⟨v, rfl, ho, hB⟩
  rw [two_within] at ho
  obtain ⟨A, c, rfl, _, hI⟩ := ho.form
  exact ⟨A, c, rfl, hI, hB⟩
set_option maxRecDepth 100000 in
set_option maxHeartbeats 1000000 in
theorem rexample_any (w : World)  :
    Calls Try.prog 46 #[] w fun e w' => e = .returned (.bool true) ∧ Below w.heap.size w w' := by
  go_enter Try.func46, Try.ntmps46
  go_wp2_with fail
  refine (two_no _).mono ?_
  rintro e w1 ⟨g1, h1, rfl, hT1, hB1⟩
  have D1 := dstep w hB1 (by repeat (first | with_reducible exact Below.refl _ _ | with_reducible apply bdrew | with_reducible apply bdrewN | with_reducible apply balloc | ((with_reducible refine bset ?_ ?_ _); rotate_left; (first | omega | (simp <;> omega)))))
  have d1s := D1.size
  go_wp2_with fail
  refine (max_two _ _ _ (hT1.below (by repeat (first | with_reducible exact Below.refl _ _ | with_reducible apply bdrew | with_reducible apply bdrewN | with_reducible apply balloc | ((with_reducible refine bset ?_ ?_ _); rotate_left; (first | omega | (simp <;> omega))))))).mono ?_
  rintro e w2 ⟨k2, rfl, hk2, hA2, hB2⟩
  have D2 := dstep w hB2 (by repeat (first | with_reducible exact D1 | with_reducible apply bdrew | with_reducible apply bdrewN | with_reducible apply balloc | ((with_reducible refine bset ?_ ?_ _); rotate_left; (first | omega | (simp <;> omega)))))
  have d2s := D2.size
  go_wp2_with fail
  refine (two_no _).mono ?_
  rintro e w3 ⟨g3, h3, rfl, hT3, hB3⟩
  have D3 := dstep w hB3 (by repeat (first | with_reducible exact D2 | with_reducible apply bdrew | with_reducible apply bdrewN | with_reducible apply balloc | ((with_reducible refine bset ?_ ?_ _); rotate_left; (first | omega | (simp <;> omega)))))
  have d3s := D3.size
  have Ew2_3 := dstep w2 hB3 (by repeat (first | with_reducible exact Below.refl _ _ | with_reducible apply bdrew | with_reducible apply bdrewN | with_reducible apply balloc | ((with_reducible refine bset ?_ ?_ _); rotate_left; (first | omega | (simp <;> omega)))))
  have C3 := Cls.below (l := [(w2.heap.size, 0, .int .i64 0), (w2.heap.size, 1, .int .i64 0)]) hB3 (by simp [Cls, go_sem])
  have F3 := C3
  simp only [Cls, and_true] at F3
  have y3w20 : w2.heap.size < w3.heap.size := C3.blk (b := w2.heap.size) (k := 0) (v := .int .i64 0) (by simp)
  have y3w2p1 : w2.heap.size < w3.heap.size + 1 := (by omega)
  have y3w2p2 : w2.heap.size < w3.heap.size + 1 + 1 := (by omega)
  go_wp2_with fail
  refine (add_two _ _ _ (hT3.below (by repeat (first | with_reducible exact Below.refl _ _ | with_reducible apply bdrew | with_reducible apply bdrewN | with_reducible apply balloc | ((with_reducible refine bset ?_ ?_ _); rotate_left; (first | omega | (simp <;> omega))))))).mono ?_
  rintro e w4 ⟨k4, rfl, hk4, hA4, hB4⟩
  have D4 := dstep w hB4 (by repeat (first | with_reducible exact D3 | with_reducible apply bdrew | with_reducible apply bdrewN | with_reducible apply balloc | ((with_reducible refine bset ?_ ?_ _); rotate_left; (first | omega | (simp <;> omega)))))
  have d4s := D4.size
  have Ew2_4 := dstep w2 hB4 (by repeat (first | with_reducible exact Ew2_3 | with_reducible apply bdrew | with_reducible apply bdrewN | with_reducible apply balloc | ((with_reducible refine bset ?_ ?_ _); rotate_left; (first | omega | (simp <;> omega)))))
  have C4 := Cls.below (l := [(w2.heap.size, 0, .int .i64 0), (w2.heap.size, 1, .int .i64 0)]) hB4 (by simp [Cls, go_sem, F3, y3w20, y3w2p1, y3w2p2])
  have F4 := C4
  simp only [Cls, and_true] at F4
  have y4w20 : w2.heap.size < w4.heap.size := C4.blk (b := w2.heap.size) (k := 0) (v := .int .i64 0) (by simp)
  have y4w2p1 : w2.heap.size < w4.heap.size + 1 := (by omega)
  have y4w2p2 : w2.heap.size < w4.heap.size + 1 + 1 := (by omega)
  go_wp2_with fail
  refine (two_no _).mono ?_
  rintro e w5 ⟨g5, h5, rfl, hT5, hB5⟩
  have D5 := dstep w hB5 (by repeat (first | with_reducible exact D4 | with_reducible apply bdrew | with_reducible apply bdrewN | with_reducible apply balloc | ((with_reducible refine bset ?_ ?_ _); rotate_left; (first | omega | (simp <;> omega)))))
  have d5s := D5.size
  have Ew2_5 := dstep w2 hB5 (by repeat (first | with_reducible exact Ew2_4 | with_reducible apply bdrew | with_reducible apply bdrewN | with_reducible apply balloc | ((with_reducible refine bset ?_ ?_ _); rotate_left; (first | omega | (simp <;> omega)))))
  have C5 := Cls.below (l := [(w2.heap.size, 0, .int .i64 0), (w2.heap.size, 1, .int .i64 0), (w4.heap.size, 0, .int .i64 0), (w4.heap.size, 1, .int .i64 0)]) hB5 (by simp [Cls, go_sem, F4, y4w20, y4w2p1, y4w2p2])
  have F5 := C5
  simp only [Cls, and_true] at F5
  have y5w20 : w2.heap.size < w5.heap.size := C5.blk (b := w2.heap.size) (k := 0) (v := .int .i64 0) (by simp)
  have y5w2p1 : w2.heap.size < w5.heap.size + 1 := (by omega)
  have y5w2p2 : w2.heap.size < w5.heap.size + 1 + 1 := (by omega)
  have y5w40 : w4.heap.size < w5.heap.size := C5.blk (b := w4.heap.size) (k := 0) (v := .int .i64 0) (by simp)
  have y5w4p1 : w4.heap.size < w5.heap.size + 1 := (by omega)
  have y5w4p2 : w4.heap.size < w5.heap.size + 1 + 1 := (by omega)
  go_wp2_with fail
  refine (reachable_two _ _ _ (hT5.below (by repeat (first | with_reducible exact Below.refl _ _ | with_reducible apply bdrew | with_reducible apply bdrewN | with_reducible apply balloc | ((with_reducible refine bset ?_ ?_ _); rotate_left; (first | omega | (simp <;> omega))))))).mono ?_
  rintro e w6 ⟨A6, c6, rfl, hI6, hB6⟩
  have D6 := dstep w hB6 (by repeat (first | with_reducible exact D5 | with_reducible apply bdrew | with_reducible apply bdrewN | with_reducible apply balloc | ((with_reducible refine bset ?_ ?_ _); rotate_left; (first | omega | (simp <;> omega)))))
  have d6s := D6.size
  have Ew2_6 := dstep w2 hB6 (by repeat (first | with_reducible exact Ew2_5 | with_reducible apply bdrew | with_reducible apply bdrewN | with_reducible apply balloc | ((with_reducible refine bset ?_ ?_ _); rotate_left; (first | omega | (simp <;> omega)))))
  have C6 := Cls.below (l := [(w2.heap.size, 0, .int .i64 0), (w2.heap.size, 1, .int .i64 0), (w4.heap.size, 0, .int .i64 0), (w4.heap.size, 1, .int .i64 0)]) hB6 (by simp [Cls, go_sem, F5, y5w20, y5w2p1, y5w2p2, y5w40, y5w4p1, y5w4p2])
  have F6 := C6
  simp only [Cls, and_true] at F6
  have y6w20 : w2.heap.size < w6.heap.size := C6.blk (b := w2.heap.size) (k := 0) (v := .int .i64 0) (by simp)
  have y6w2p1 : w2.heap.size < w6.heap.size + 1 := (by omega)
  have y6w2p2 : w2.heap.size < w6.heap.size + 1 + 1 := (by omega)
  have y6w40 : w4.heap.size < w6.heap.size := C6.blk (b := w4.heap.size) (k := 0) (v := .int .i64 0) (by simp)
  have y6w4p1 : w4.heap.size < w6.heap.size + 1 := (by omega)
  have y6w4p2 : w4.heap.size < w6.heap.size + 1 + 1 := (by omega)
  have hI2 := hA2.ints
  go_wp2_with fail
  refine (ints_at _ _ _ _ 2 [2, 3] [2, 3] _ (hI2.below (by repeat (first | with_reducible exact Ew2_6 | with_reducible apply bdrew | with_reducible apply bdrewN | with_reducible apply balloc | ((with_reducible refine bset ?_ ?_ _); rotate_left; (first | omega | (simp <;> omega)))))) (ints_two (by simp [go_sem]) (by simp [go_sem])) rfl rfl (by omega) true (by simp)).mono ?_
  rintro e w7 ⟨rfl, hB7⟩
  have D7 := dstep w hB7 (by repeat (first | with_reducible exact D6 | with_reducible apply bdrew | with_reducible apply bdrewN | with_reducible apply balloc | ((with_reducible refine bset ?_ ?_ _); rotate_left; (first | omega | (simp <;> omega)))))
  have d7s := D7.size
  have Ew2_7 := dstep w2 hB7 (by repeat (first | with_reducible exact Ew2_6 | with_reducible apply bdrew | with_reducible apply bdrewN | with_reducible apply balloc | ((with_reducible refine bset ?_ ?_ _); rotate_left; (first | omega | (simp <;> omega)))))
  have Ew6_7 := dstep w6 hB7 (by repeat (first | with_reducible exact Below.refl _ _ | with_reducible apply bdrew | with_reducible apply bdrewN | with_reducible apply balloc | ((with_reducible refine bset ?_ ?_ _); rotate_left; (first | omega | (simp <;> omega)))))
  have C7 := Cls.below (l := [(w2.heap.size, 0, .int .i64 0), (w2.heap.size, 1, .int .i64 0), (w4.heap.size, 0, .int .i64 0), (w4.heap.size, 1, .int .i64 0), (w6.heap.size, 0, .int .i64 0), (w6.heap.size, 1, .int .i64 0)]) hB7 (by simp [Cls, go_sem, F6, y6w20, y6w2p1, y6w2p2, y6w40, y6w4p1, y6w4p2])
  have F7 := C7
  simp only [Cls, and_true] at F7
  have y7w20 : w2.heap.size < w7.heap.size := C7.blk (b := w2.heap.size) (k := 0) (v := .int .i64 0) (by simp)
  have y7w2p1 : w2.heap.size < w7.heap.size + 1 := (by omega)
  have y7w2p2 : w2.heap.size < w7.heap.size + 1 + 1 := (by omega)
  have y7w40 : w4.heap.size < w7.heap.size := C7.blk (b := w4.heap.size) (k := 0) (v := .int .i64 0) (by simp)
  have y7w4p1 : w4.heap.size < w7.heap.size + 1 := (by omega)
  have y7w4p2 : w4.heap.size < w7.heap.size + 1 + 1 := (by omega)
  have y7w60 : w6.heap.size < w7.heap.size := C7.blk (b := w6.heap.size) (k := 0) (v := .int .i64 0) (by simp)
  have y7w6p1 : w6.heap.size < w7.heap.size + 1 := (by omega)
  have y7w6p2 : w6.heap.size < w7.heap.size + 1 + 1 := (by omega)
  go_wp2_with fail
  refine (ints_at _ _ _ _ 2 [0, 1] [0, 1] _ (hI6.below (by repeat (first | with_reducible exact Ew6_7 | with_reducible apply bdrew | with_reducible apply bdrewN | with_reducible apply balloc | ((with_reducible refine bset ?_ ?_ _); rotate_left; (first | omega | (simp <;> omega)))))) (ints_two (by simp [go_sem]) (by simp [go_sem])) rfl rfl (by omega) true (by simp)).mono ?_
  rintro e w8 ⟨rfl, hB8⟩
  have D8 := dstep w hB8 (by repeat (first | with_reducible exact D7 | with_reducible apply bdrew | with_reducible apply bdrewN | with_reducible apply balloc | ((with_reducible refine bset ?_ ?_ _); rotate_left; (first | omega | (simp <;> omega)))))
  have d8s := D8.size
  have Ew2_8 := dstep w2 hB8 (by repeat (first | with_reducible exact Ew2_7 | with_reducible apply bdrew | with_reducible apply bdrewN | with_reducible apply balloc | ((with_reducible refine bset ?_ ?_ _); rotate_left; (first | omega | (simp <;> omega)))))
  have Ew6_8 := dstep w6 hB8 (by repeat (first | with_reducible exact Ew6_7 | with_reducible apply bdrew | with_reducible apply bdrewN | with_reducible apply balloc | ((with_reducible refine bset ?_ ?_ _); rotate_left; (first | omega | (simp <;> omega)))))
  have C8 := Cls.below (l := [(w2.heap.size, 0, .int .i64 0), (w2.heap.size, 1, .int .i64 0), (w4.heap.size, 0, .int .i64 0), (w4.heap.size, 1, .int .i64 0), (w6.heap.size, 0, .int .i64 0), (w6.heap.size, 1, .int .i64 0)]) hB8 (by simp [Cls, go_sem, F7, y7w20, y7w2p1, y7w2p2, y7w40, y7w4p1, y7w4p2, y7w60, y7w6p1, y7w6p2])
  have F8 := C8
  simp only [Cls, and_true] at F8
  have y8w20 : w2.heap.size < w8.heap.size := C8.blk (b := w2.heap.size) (k := 0) (v := .int .i64 0) (by simp)
  have y8w2p1 : w2.heap.size < w8.heap.size + 1 := (by omega)
  have y8w2p2 : w2.heap.size < w8.heap.size + 1 + 1 := (by omega)
  have y8w40 : w4.heap.size < w8.heap.size := C8.blk (b := w4.heap.size) (k := 0) (v := .int .i64 0) (by simp)
  have y8w4p1 : w4.heap.size < w8.heap.size + 1 := (by omega)
  have y8w4p2 : w4.heap.size < w8.heap.size + 1 + 1 := (by omega)
  have y8w60 : w6.heap.size < w8.heap.size := C8.blk (b := w6.heap.size) (k := 0) (v := .int .i64 0) (by simp)
  have y8w6p1 : w6.heap.size < w8.heap.size + 1 := (by omega)
  have y8w6p2 : w6.heap.size < w8.heap.size + 1 + 1 := (by omega)
  go_wp2
  go_ret
  exact ⟨rfl, by repeat (first | with_reducible exact D8 | with_reducible apply bdrew | with_reducible apply bdrewN | with_reducible apply balloc | ((with_reducible refine bset ?_ ?_ _); rotate_left; (first | omega | (simp <;> omega))))⟩


end Go.Proofs.Ytihkgdlanfemcaa
