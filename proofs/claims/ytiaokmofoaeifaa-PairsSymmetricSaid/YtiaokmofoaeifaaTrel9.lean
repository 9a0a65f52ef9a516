/-
  R.Copy, R.With: what they return.
-/
import Derived.Test.YtiaokmofoaeifaaRwith
import Derived.Test.YtiaokmofoaeifaaMem2
import Derived.Test.YtiaokmofoaeifaaTset
namespace Go.Proofs.Ytiaokmofoaeifaa
open Go.RowKit
set_option linter.unusedVariables false
set_option linter.unusedSimpArgs false

set_option maxRecDepth 100000 in
set_option maxHeartbeats 400000 in
theorem copy_any (w : World) (A : Option Addr) (c n : Nat) (xs : List Int) (hI : Ints w A xs) (hn : xs.length = n) (hnil : A = none → xs = [] ∧ c = 0) (hlen : n ≤ 1000000000000) :
    Calls Try.prog 67 #[.slice A n c] w fun e w' => ∃ A' c', e = .returned (.slice A' n c') ∧ OwnI w.heap.size w' (.slice A' n c') xs ∧ (A' = none → xs = [] ∧ c' = 0) ∧ Below w.heap.size w w' := by
  go_enter Try.func67, Try.ntmps67
  go_wp2_with (at_builtin; go_must (refine wpList_copy rfl (.tmp 4) (.tmp 5) rfl A c n xs rfl rfl hn hnil hI hlen ?_; intro A1 c1 w1 o1 hnil1 B1))
  go_ret
  exact ⟨A1, c1, rfl, o1, hnil1, B1⟩

theorem OwnI.form_at' {base n : Nat} {w : World} {v : Value} {xs : List Int} (h : OwnI base w v xs) (hn : xs.length = n) : ∃ A c, v = .slice A n c ∧ (A = none → xs = [] ∧ c = 0) := by
  subst hn
  obtain ⟨A, c, rfl, h1, _⟩ := h.form
  exact ⟨A, c, rfl, h1⟩
set_option maxRecDepth 100000 in
set_option maxHeartbeats 1000000 in
theorem with_skip (w : World) (A : Option Addr) (c m : Nat) (l : List Int) (n : Int) (hI : Ints w A l) (hm : l.length = m) (hc : m ≤ c) (hc2 : c ≤ 9223372036854775807) (hnil : A = none → c = 0) (hlen : m ≤ 100000000000) (hs : l.Pairwise (· < ·)) (j : Nat) (hj1 : ∀ x ∈ l.take j, x < n) (hjl : l[j]? = some n) :
    Calls Try.prog 68 #[.slice A m c, .int .i64 n] w fun e w' => ∃ v, e = .returned v ∧ OwnI w.heap.size w' v (withV l n) ∧ Below w.heap.size w w' := by
  have hjm : j < m := by rw [← hm]; exact (List.getElem?_eq_some_iff.1 hjl).1
  have HL := Lib.hid hjl
  clear hjl
  have HS := Lib.hid hs
  have HJ := Lib.hid hj1
  clear hs hj1
  go_enter Try.func68, Try.ntmps68
  go_wp2_with fail
  go_loopw [5, 6] (fun v i wr => ∃ k : Nat, k ≤ j ∧ i = .int .i64 k ∧ OwnI w.heap.size wr v (l.take k) ∧ Below w.heap.size w wr) (fun _ i _ => j - (intOf i).toNat)
  case atStart => exact ⟨0, Nat.zero_le _, rfl, OwnI.nil _ _, Below.refl _ _⟩
  case round =>
    obtain ⟨k, hk, rfl, hown, hBr⟩ := hrel
    have dRs := hBr.size
    have hlk : (l.take k).length = k := by rw [List.length_take]; omega
    have HLK := Lib.hid hlk
    clear hlk
    by_cases hlt : k < j
    · obtain ⟨ad, x, rfl, hx, hcx⟩ := (hI.below hBr).at_ (k := k) (by omega)
      have hxn : x < n := HJ.out x (by rw [List.mem_take_iff_getElem]; obtain ⟨h1, h2⟩ := List.getElem?_eq_some_iff.1 hx.out; exact ⟨k, by omega, h2⟩)
      have HT := Lib.hid (show l.take k ++ [x] = l.take (k + 1) by rw [List.take_add_one, hx.out]; rfl)
      have hlen' : (l.take k).length < 1000000000000 := by have := HLK.out; omega
      go_wp2_with (at_builtin; go_must (refine wpList_push rfl (.tmp 22) (.tmp 27) rfl w [] (w.heap.size) u5 _ (x) rfl (OwnI.below hown ?p1) ⟨wr.heap.size, 0, none⟩ 1 rfl ?p2 hlen' ?p3 ?p4 ?p5 ?p6 ?p7 ?_; (case p1 => repeat (first | with_reducible exact Below.refl _ _ | with_reducible apply bdrew | with_reducible apply bdrewN | with_reducible apply balloc | ((with_reducible refine bset ?_ ?_ _); rotate_left; (first | omega | (simp <;> omega))))); (case p2 => simp [Cls, go_sem]); (case p3 => (first | omega | (simp <;> omega))); (case p4 => (first | omega | (simp <;> omega))); (case p5 => repeat (first | with_reducible exact hBr | with_reducible apply bdrew | with_reducible apply bdrewN | with_reducible apply balloc | ((with_reducible refine bset ?_ ?_ _); rotate_left; (first | omega | (simp <;> omega))))); (case p6 => simp [Cls, go_sem]); (case p7 => (simp <;> omega)); intro v1 w1 o1 D1 C1 sz1; have d1s := D1.size))
      go_roundw
      case rel => exact ⟨k + 1, by omega, by go_num, by rw [← HT.out]; exact o1, by repeat (first | with_reducible exact D1 | with_reducible apply bdrew | with_reducible apply bdrewN | with_reducible apply balloc | ((with_reducible refine bset ?_ ?_ _); rotate_left; (first | omega | (simp <;> omega))))⟩
      case measure => simp [intOf]; omega
    · obtain rfl : k = j := by omega
      obtain ⟨A1, c1, rfl, hnil1⟩ := OwnI.form_at' hown HLK.out
      have HN1 := Lib.hid hnil1
      clear hnil1
      have hlen' : (l.take k).length < 1000000000000 := by have := HLK.out; omega
      have hlen2 : (l.take k ++ [n]).length + (m - (k + 1)) ≤ 1000000000000 := by rw [List.length_append, HLK.out]; simp; omega
      obtain ⟨ad, x, rfl, hx, hcx⟩ := hI.at_ (k := k) (by omega)
      obtain rfl : x = n := by have := hx.out; rw [HL.out] at this; injection this with this; exact this.symm
      have hcx1 := (hBr.cell (World.block_lt_of_cell? w _ hcx)).trans hcx
      obtain ⟨x, rfl⟩ : ∃ y, y = x := ⟨_, rfl⟩
      obtain ⟨A3, hA3, hI3, hrun3⟩ := cut_ints (some ad) m c (k + 1) (by omega) hc hc2
      have HN3 := Lib.hid (fun e : A3 = none => show c - (k + 1) = 0 by have := hnil (hA3 e); omega)
      have HI3 := Lib.hid hI3
      have hsl := hrun3 (↑k + 1) (by omega)
      have hnil' := Lib.hid hnil
      clear hnil hA3 hI3 hrun3
      go_upto_region 10 with (at_builtin; go_must (refine wpList_push rfl (.tmp 31) (.tmp 33) rfl w [] (w.heap.size) (.slice A1 k c1) _ (x) rfl (OwnI.below hown ?p1) ⟨wr.heap.size, 0, none⟩ 1 rfl ?p2 hlen' ?p3 ?p4 ?p5 ?p6 ?p7 ?_; (case p1 => repeat (first | with_reducible exact Below.refl _ _ | with_reducible apply bdrew | with_reducible apply bdrewN | with_reducible apply balloc | ((with_reducible refine bset ?_ ?_ _); rotate_left; (first | omega | (simp <;> omega))))); (case p2 => simp [go_sem]); (case p3 => (simp <;> omega)); (case p4 => omega); (case p5 => repeat (first | with_reducible exact hBr | with_reducible apply bdrew | with_reducible apply bdrewN | with_reducible apply balloc | ((with_reducible refine bset ?_ ?_ _); rotate_left; (first | omega | (simp <;> omega))))); (case p6 => trivial); (case p7 => simp); intro v2 w2 o2 D2 C2 sz2; have d2s := D2.size; have hcx2 := (D2.cell (World.block_lt_of_cell? w _ hcx)).trans hcx))
      go_wp2_with (at_builtin; go_must (refine wpList_cat rfl (.tmp 49) (.tmp 52) rfl w [] (w.heap.size) v2 _ rfl o2 A3 _ _ (l.drop (k + 1)) rfl ?p6 ?p7 ?p1 ?p8 ?p3 ?p4 D2 trivial ?p5 ?_; (case p1 => exact HI3.out _ _ hm (hI.below D2)); (case p3 => omega); (case p4 => omega); (case p5 => simp); (case p6 => rw [List.length_drop, hm]; (try omega)); (case p7 => intro e; have := HN3.out e; omega); (case p8 => have := hlen2; omega); intro v3 w3 o3 D3 C3 sz3))
      go_ret
      exact ⟨_, rfl, by rw [withV_skip HS.out HJ.out HL.out]; exact o3, D3⟩

set_option maxRecDepth 100000 in
set_option maxHeartbeats 400000 in
theorem with_put (w : World) (A : Option Addr) (c m : Nat) (l : List Int) (n : Int) (hI : Ints w A l) (hm : l.length = m) (hc : m ≤ c) (hc2 : c ≤ 9223372036854775807) (hnil : A = none → c = 0) (hlen : m ≤ 100000000000) (hs : l.Pairwise (· < ·)) (j : Nat) (hj1 : ∀ x ∈ l.take j, x < n) (hjm : j < m) (hjl : ∀ x, l[j]? = some x → n < x) :
    Calls Try.prog 68 #[.slice A m c, .int .i64 n] w fun e w' => ∃ v, e = .returned v ∧ OwnI w.heap.size w' v (withV l n) ∧ Below w.heap.size w w' := by
  have HL := Lib.hid hjl
  clear hjl
  have HS := Lib.hid hs
  have HJ := Lib.hid hj1
  clear hs hj1
  go_enter Try.func68, Try.ntmps68
  go_wp2_with fail
  go_loopw [5, 6] (fun v i wr => ∃ k : Nat, k ≤ j ∧ i = .int .i64 k ∧ OwnI w.heap.size wr v (l.take k) ∧ Below w.heap.size w wr) (fun _ i _ => j - (intOf i).toNat)
  case atStart => exact ⟨0, Nat.zero_le _, rfl, OwnI.nil _ _, Below.refl _ _⟩
  case round =>
    obtain ⟨k, hk, rfl, hown, hBr⟩ := hrel
    have dRs := hBr.size
    have hlk : (l.take k).length = k := by rw [List.length_take]; omega
    have HLK := Lib.hid hlk
    clear hlk
    by_cases hlt : k < j
    · obtain ⟨ad, x, rfl, hx, hcx⟩ := (hI.below hBr).at_ (k := k) (by omega)
      have hxn : x < n := HJ.out x (by rw [List.mem_take_iff_getElem]; obtain ⟨h1, h2⟩ := List.getElem?_eq_some_iff.1 hx.out; exact ⟨k, by omega, h2⟩)
      have HT := Lib.hid (show l.take k ++ [x] = l.take (k + 1) by rw [List.take_add_one, hx.out]; rfl)
      have hlen' : (l.take k).length < 1000000000000 := by have := HLK.out; omega
      go_wp2_with (at_builtin; go_must (refine wpList_push rfl (.tmp 22) (.tmp 27) rfl w [] (w.heap.size) u5 _ (x) rfl (OwnI.below hown ?p1) ⟨wr.heap.size, 0, none⟩ 1 rfl ?p2 hlen' ?p3 ?p4 ?p5 ?p6 ?p7 ?_; (case p1 => repeat (first | with_reducible exact Below.refl _ _ | with_reducible apply bdrew | with_reducible apply bdrewN | with_reducible apply balloc | ((with_reducible refine bset ?_ ?_ _); rotate_left; (first | omega | (simp <;> omega))))); (case p2 => simp [Cls, go_sem]); (case p3 => (first | omega | (simp <;> omega))); (case p4 => (first | omega | (simp <;> omega))); (case p5 => repeat (first | with_reducible exact hBr | with_reducible apply bdrew | with_reducible apply bdrewN | with_reducible apply balloc | ((with_reducible refine bset ?_ ?_ _); rotate_left; (first | omega | (simp <;> omega))))); (case p6 => simp [Cls, go_sem]); (case p7 => (simp <;> omega)); intro v1 w1 o1 D1 C1 sz1; have d1s := D1.size))
      go_roundw
      case rel => exact ⟨k + 1, by omega, by go_num, by rw [← HT.out]; exact o1, by repeat (first | with_reducible exact D1 | with_reducible apply bdrew | with_reducible apply bdrewN | with_reducible apply balloc | ((with_reducible refine bset ?_ ?_ _); rotate_left; (first | omega | (simp <;> omega))))⟩
      case measure => simp [intOf]; omega
    · obtain rfl : k = j := by omega
      obtain ⟨A1, c1, rfl, hnil1⟩ := OwnI.form_at' hown HLK.out
      have HN1 := Lib.hid hnil1
      clear hnil1
      have hlen' : (l.take k).length < 1000000000000 := by have := HLK.out; omega
      have hlen2 : (l.take k ++ [n]).length + (m - (k)) ≤ 1000000000000 := by rw [List.length_append, HLK.out]; simp; omega
      obtain ⟨ad, x, rfl, hx, hcx⟩ := hI.at_ (k := k) (by omega)
      have hxn : n < x := HL.out x hx.out
      have hxe : (x == n) = false := by simp; omega
      have hxl : ¬ x < n := by omega
      have hcx1 := (hBr.cell (World.block_lt_of_cell? w _ hcx)).trans hcx
      obtain ⟨A3, hA3, hI3, hrun3⟩ := cut_ints (some ad) m c (k) (by omega) hc hc2
      have HN3 := Lib.hid (fun e : A3 = none => show c - (k) = 0 by have := hnil (hA3 e); omega)
      have HI3 := Lib.hid hI3
      have hsl := hrun3 ↑k rfl
      have hnil' := Lib.hid hnil
      clear hnil hA3 hI3 hrun3
      go_upto_region 10 with (at_builtin; go_must (refine wpList_push rfl (.tmp 31) (.tmp 33) rfl w [] (w.heap.size) (.slice A1 k c1) _ (n) rfl (OwnI.below hown ?p1) ⟨wr.heap.size, 0, none⟩ 1 rfl ?p2 hlen' ?p3 ?p4 ?p5 ?p6 ?p7 ?_; (case p1 => repeat (first | with_reducible exact Below.refl _ _ | with_reducible apply bdrew | with_reducible apply bdrewN | with_reducible apply balloc | ((with_reducible refine bset ?_ ?_ _); rotate_left; (first | omega | (simp <;> omega))))); (case p2 => simp [go_sem]); (case p3 => (simp <;> omega)); (case p4 => omega); (case p5 => repeat (first | with_reducible exact hBr | with_reducible apply bdrew | with_reducible apply bdrewN | with_reducible apply balloc | ((with_reducible refine bset ?_ ?_ _); rotate_left; (first | omega | (simp <;> omega))))); (case p6 => trivial); (case p7 => simp); intro v2 w2 o2 D2 C2 sz2; have d2s := D2.size; have hcx2 := (D2.cell (World.block_lt_of_cell? w _ hcx)).trans hcx))
      go_wp2_with (at_builtin; go_must (refine wpList_cat rfl (.tmp 49) (.tmp 52) rfl w [] (w.heap.size) v2 _ rfl o2 A3 _ _ (l.drop (k)) rfl ?p6 ?p7 ?p1 ?p8 ?p3 ?p4 D2 trivial ?p5 ?_; (case p1 => exact HI3.out _ _ hm (hI.below D2)); (case p3 => omega); (case p4 => omega); (case p5 => simp); (case p6 => rw [List.length_drop, hm]; (try omega)); (case p7 => intro e; have := HN3.out e; omega); (case p8 => have := hlen2; omega); intro v3 w3 o3 D3 C3 sz3))
      go_ret
      exact ⟨_, rfl, by rw [withV_put HS.out HJ.out HL.out]; exact o3, D3⟩

set_option maxRecDepth 100000 in
set_option maxHeartbeats 400000 in
theorem with_end (w : World) (A : Option Addr) (c m : Nat) (l : List Int) (n : Int) (hI : Ints w A l) (hm : l.length = m) (hc : m ≤ c) (hc2 : c ≤ 9223372036854775807) (hnil : A = none → c = 0) (hlen : m ≤ 100000000000) (hs : l.Pairwise (· < ·)) (j : Nat) (hj1 : ∀ x ∈ l.take j, x < n) (hjm : j = m) :
    Calls Try.prog 68 #[.slice A m c, .int .i64 n] w fun e w' => ∃ v, e = .returned v ∧ OwnI w.heap.size w' v (withV l n) ∧ Below w.heap.size w w' := by
  have HL := Lib.hid (fun (x : Int) (h : l[j]? = some x) => (show n < x by have := (List.getElem?_eq_some_iff.1 h).1; omega))
  have hjm2 : j ≤ m := by omega
  have hjm3 : m ≤ j := by omega
  clear hjm
  have HS := Lib.hid hs
  have HJ := Lib.hid hj1
  clear hs hj1
  go_enter Try.func68, Try.ntmps68
  go_wp2_with fail
  go_loopw [5, 6] (fun v i wr => ∃ k : Nat, k ≤ j ∧ i = .int .i64 k ∧ OwnI w.heap.size wr v (l.take k) ∧ Below w.heap.size w wr) (fun _ i _ => j - (intOf i).toNat)
  case atStart => exact ⟨0, Nat.zero_le _, rfl, OwnI.nil _ _, Below.refl _ _⟩
  case round =>
    obtain ⟨k, hk, rfl, hown, hBr⟩ := hrel
    have dRs := hBr.size
    have hlk : (l.take k).length = k := by rw [List.length_take]; omega
    have HLK := Lib.hid hlk
    clear hlk
    by_cases hlt : k < j
    · obtain ⟨ad, x, rfl, hx, hcx⟩ := (hI.below hBr).at_ (k := k) (by omega)
      have hxn : x < n := HJ.out x (by rw [List.mem_take_iff_getElem]; obtain ⟨h1, h2⟩ := List.getElem?_eq_some_iff.1 hx.out; exact ⟨k, by omega, h2⟩)
      have HT := Lib.hid (show l.take k ++ [x] = l.take (k + 1) by rw [List.take_add_one, hx.out]; rfl)
      have hlen' : (l.take k).length < 1000000000000 := by have := HLK.out; omega
      go_wp2_with (at_builtin; go_must (refine wpList_push rfl (.tmp 22) (.tmp 27) rfl w [] (w.heap.size) u5 _ (x) rfl (OwnI.below hown ?p1) ⟨wr.heap.size, 0, none⟩ 1 rfl ?p2 hlen' ?p3 ?p4 ?p5 ?p6 ?p7 ?_; (case p1 => repeat (first | with_reducible exact Below.refl _ _ | with_reducible apply bdrew | with_reducible apply bdrewN | with_reducible apply balloc | ((with_reducible refine bset ?_ ?_ _); rotate_left; (first | omega | (simp <;> omega))))); (case p2 => simp [Cls, go_sem]); (case p3 => (first | omega | (simp <;> omega))); (case p4 => (first | omega | (simp <;> omega))); (case p5 => repeat (first | with_reducible exact hBr | with_reducible apply bdrew | with_reducible apply bdrewN | with_reducible apply balloc | ((with_reducible refine bset ?_ ?_ _); rotate_left; (first | omega | (simp <;> omega))))); (case p6 => simp [Cls, go_sem]); (case p7 => (simp <;> omega)); intro v1 w1 o1 D1 C1 sz1; have d1s := D1.size))
      go_roundw
      case rel => exact ⟨k + 1, by omega, by go_num, by rw [← HT.out]; exact o1, by repeat (first | with_reducible exact D1 | with_reducible apply bdrew | with_reducible apply bdrewN | with_reducible apply balloc | ((with_reducible refine bset ?_ ?_ _); rotate_left; (first | omega | (simp <;> omega))))⟩
      case measure => simp [intOf]; omega
    · obtain rfl : k = j := by omega
      obtain ⟨A1, c1, rfl, hnil1⟩ := OwnI.form_at' hown HLK.out
      have HN1 := Lib.hid hnil1
      clear hnil1
      have hlen' : (l.take k).length < 1000000000000 := by have := HLK.out; omega
      have hlen2 : (l.take k ++ [n]).length + (m - (k)) ≤ 1000000000000 := by rw [List.length_append, HLK.out]; simp; omega
      have hge : ¬ k < m := by omega
      obtain ⟨A3, hA3, hI3, hrun3⟩ := cut_ints A m c (k) (by omega) hc hc2
      have HN3 := Lib.hid (fun e : A3 = none => show c - (k) = 0 by have := hnil (hA3 e); omega)
      have HI3 := Lib.hid hI3
      have hsl := hrun3 ↑k rfl
      have hnil' := Lib.hid hnil
      clear hnil hA3 hI3 hrun3
      go_upto_region 10 with (at_builtin; go_must (refine wpList_push rfl (.tmp 31) (.tmp 33) rfl w [] (w.heap.size) (.slice A1 k c1) _ (n) rfl (OwnI.below hown ?p1) ⟨wr.heap.size, 0, none⟩ 1 rfl ?p2 hlen' ?p3 ?p4 ?p5 ?p6 ?p7 ?_; (case p1 => repeat (first | with_reducible exact Below.refl _ _ | with_reducible apply bdrew | with_reducible apply bdrewN | with_reducible apply balloc | ((with_reducible refine bset ?_ ?_ _); rotate_left; (first | omega | (simp <;> omega))))); (case p2 => simp [go_sem]); (case p3 => (simp <;> omega)); (case p4 => omega); (case p5 => repeat (first | with_reducible exact hBr | with_reducible apply bdrew | with_reducible apply bdrewN | with_reducible apply balloc | ((with_reducible refine bset ?_ ?_ _); rotate_left; (first | omega | (simp <;> omega))))); (case p6 => trivial); (case p7 => simp); intro v2 w2 o2 D2 C2 sz2; have d2s := D2.size))
      go_wp2_with (at_builtin; go_must (refine wpList_cat rfl (.tmp 49) (.tmp 52) rfl w [] (w.heap.size) v2 _ rfl o2 A3 _ _ (l.drop (k)) rfl ?p6 ?p7 ?p1 ?p8 ?p3 ?p4 D2 trivial ?p5 ?_; (case p1 => exact HI3.out _ _ hm (hI.below D2)); (case p3 => omega); (case p4 => omega); (case p5 => simp); (case p6 => rw [List.length_drop, hm]; (try omega)); (case p7 => intro e; have := HN3.out e; omega); (case p8 => have := hlen2; omega); intro v3 w3 o3 D3 C3 sz3))
      go_ret
      exact ⟨_, rfl, by rw [withV_put HS.out HJ.out HL.out]; exact o3, D3⟩

theorem with_any (w : World) (A : Option Addr) (c m : Nat) (l : List Int) (n : Int) (hI : Ints w A l) (hm : l.length = m) (hc : m ≤ c) (hc2 : c ≤ 9223372036854775807) (hnil : A = none → c = 0) (hlen : m ≤ 100000000000) (hs : l.Pairwise (· < ·)) :
    Calls Try.prog 68 #[.slice A m c, .int .i64 n] w fun e w' => ∃ v, e = .returned v ∧ OwnI w.heap.size w' v (withV l n) ∧ Below w.heap.size w w' := by
  have e := List.takeWhile_append_dropWhile (p := fun x => decide (x < n)) (l := l)
  have h1 : ∀ x ∈ l.take (l.takeWhile (fun x => decide (x < n))).length, x < n := fun x hx => by
    rw [← List.takeWhile_append_dropWhile (p := fun x => decide (x < n)) (l := l)] at hx
    rw [List.take_append_of_le_length (by simp), List.take_of_length_le (by simp)] at hx
    exact mem_takeWhile_lt hx
  have hle : (l.takeWhile (fun x => decide (x < n))).length ≤ m := by have e2 := congrArg List.length e; rw [List.length_append] at e2; omega
  have h2 : ∀ x, l[(l.takeWhile (fun x => decide (x < n))).length]? = some x → n ≤ x := fun x hx => by
    refine mem_dropWhile_ge hs ?_ (n := n)
    have h3 : (l.takeWhile (fun x => decide (x < n)) ++ l.dropWhile (fun x => decide (x < n)))[(l.takeWhile (fun x => decide (x < n))).length]? = some x := by rw [e]; exact hx
    rw [List.getElem?_append_right (by omega)] at h3
    exact List.mem_of_getElem? h3
  generalize (l.takeWhile (fun x => decide (x < n))).length = j at *
  by_cases hj : j = m
  · exact with_end w A c m l n hI hm hc hc2 hnil hlen hs j h1 hj
  · obtain ⟨x, hx⟩ : ∃ x, l[j]? = some x := ⟨_, List.getElem?_eq_getElem (by omega)⟩
    by_cases hxn : x = n
    · subst hxn; exact with_skip w A c m l x hI hm hc hc2 hnil hlen hs j h1 hx
    · exact with_put w A c m l n hI hm hc hc2 hnil hlen hs j h1 (by omega) (fun y hy => by have := h2 y hy; rw [hx] at hy; injection hy with hy; omega)

end Go.Proofs.Ytiaokmofoaeifaa
