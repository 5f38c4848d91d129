/-
  The document's feed: Pick, Draw.
-/
import Derived.Test.YtkeicoadpdfkkaaFeedRef
namespace Go.Proofs.Ytkeicoadpdfkkaa
open Go.RowKit

theorem refPick_no (xs : List Int) (k : Nat) (n : Int) (hn : n < 1 ∨ 256 < n) (hl : xs.length ≤ 20000) (w : World) :
    Calls Try.prog 31 #[RF xs k, .int .i64 n] w fun e w' => e = .returned (.tuple #[RF xs k, .int .i64 0, .int .i64 2]) ∧ w.grownBy w' none := by
  obtain ⟨kA0, kA1, kB⟩ := refA_cells xs k w
  have k0 := kA0 (.cells #[.string { data := #[] }, .int .i64 0] 41)
  have k1 := kA1 (.cells #[.string { data := #[] }, .int .i64 0] 41)
  have b2 := kB (.string { data := #[] }) (.int .i64 0)
  have f0 := b2.frozen 0
  have f1 := (b2.set 0 (.string (strOfNums xs))).frozen 1
  have b3 := kB (.string (strOfNums xs)) (.int .i64 (k : Int))
  clear b2
  by_cases h0 : n < 1
  all_goals
    try have h1 : 256 < n := hn.resolve_left h0
    clear hn
    go_enter Try.func31, Try.ntmps31
    go_wp2
    refine bodyPost_ret (results_row_tmp2 rfl _ _ (w.heap.size + 1) _ _ _ _ rfl b3 Try.underlying41 rfl (by kernel_rfl)) rfl ?_
    exact ⟨rfl, g_alloc (g_alloc (g_refl w none) _) _⟩

theorem refPick_end (xs : List Int) (n : Int) (hn : 1 ≤ n) (hn2 : n ≤ 256) (hl : xs.length ≤ 20000) (w : World) :
    Calls Try.prog 31 #[RF xs xs.length, .int .i64 n] w fun e w' => e = .returned (.tuple #[RF xs xs.length, .int .i64 0, .int .i64 0]) ∧ w.grownBy w' none := by
  obtain ⟨kA0, kA1, kB⟩ := refA_cells xs xs.length w
  have k0 := kA0 (.cells #[.string { data := #[] }, .int .i64 0] 41)
  have k1 := kA1 (.cells #[.string { data := #[] }, .int .i64 0] 41)
  have b2 := kB (.string { data := #[] }) (.int .i64 0)
  have ht := refTake_ok xs xs.length 1 0 (by omega) (Nat.le_refl _) hl
  rw [show xs.length + 0 = xs.length from rfl, show (xs.drop xs.length).take 0 = [] from rfl, show strOfNums [] = { data := #[] } by decide] at ht
  have hgA := g_alloc (g_alloc (g_refl w none) (.cells #[.string (strOfNums xs), .int .i64 (xs.length : Int)] 41)) (.cells #[.string { data := #[] }, .int .i64 0] 41)
  go_enter Try.func31, Try.ntmps31
  go_wp2_with fail
  refine (ht _).mono ?_
  rintro e w1 ⟨rfl, hg1⟩
  have b3 := b2.keptN hg1
  have gg1 := g_none hgA hg1
  have b5 := b3.alloc (.cells #[.string (strOfNums xs), .int .i64 (xs.length : Int)] 41)
  have b6 := b5.set 0 (.string (strOfNums xs))
  have f0 := b5.frozen 0
  have f1 := b6.frozen 1
  have c0 := b5.cellOf (i := 0) rfl
  have c1 := b6.cellOf (i := 1) rfl
  have b7 := b6.set 1 (.int .i64 (xs.length : Int))
  have b4 := Blk.new w1 [.string (strOfNums xs), .int .i64 (xs.length : Int)] 41
  have k2 := b4.cellOf (i := 0) rfl
  have k3 := b4.cellOf (i := 1) rfl
  go_wp2
  refine bodyPost_ret (results_row_tmp2 rfl _ _ (w.heap.size + 1) _ _ _ _ rfl b7 Try.underlying41 rfl (by kernel_rfl)) rfl ?_
  exact ⟨rfl, g_set (g_set (g_alloc gg1 _) _ (.inr (by simp))) _ (.inr (by simp))⟩
theorem refPick_ok (xs : List Int) (hu : ∀ x ∈ xs, 0 ≤ x ∧ x < 256) (k : Nat) (x : Int) (hx : xs[k]? = some x) (n : Int) (hn : 1 ≤ n) (hn2 : n ≤ 256) (hl : xs.length ≤ 20000) (w : World) :
    Calls Try.prog 31 #[RF xs k, .int .i64 n] w fun e w' => e = .returned (.tuple #[RF xs (k + 1), .int .i64 (x % n), .int .i64 0]) ∧ w.grownBy w' none := by
  have hkl := (List.getElem?_eq_some_iff.1 hx).1
  obtain ⟨hx0, hx1⟩ := hu x (List.mem_of_getElem? hx)
  obtain ⟨kA0, kA1, kB⟩ := refA_cells xs k w
  have k0 := kA0 (.cells #[.string { data := #[] }, .int .i64 0] 41)
  have k1 := kA1 (.cells #[.string { data := #[] }, .int .i64 0] 41)
  have b2 := kB (.string { data := #[] }) (.int .i64 0)
  have ht := refTake_ok xs k 1 1 (by omega) (by omega) hl
  rw [show (xs.drop k).take 1 = [x] by rw [List.drop_eq_getElem_cons hkl, (List.getElem?_eq_some_iff.1 hx).2]; rfl] at ht
  have hgA := g_alloc (g_alloc (g_refl w none) (.cells #[.string (strOfNums xs), .int .i64 (k : Int)] 41)) (.cells #[.string { data := #[] }, .int .i64 0] 41)
  obtain ⟨b, hb⟩ : ∃ b : UInt8, b = UInt8.ofNat x.toNat := ⟨_, rfl⟩
  have HB : Hid ((b.toNat : Int) = x) := hid (by rw [hb]; simp; omega)
  rw [show strOfNums [x] = { data := #[b] } by rw [hb]; rfl] at ht
  obtain ⟨e, he⟩ : ∃ e, e = k + 1 := ⟨_, rfl⟩
  rw [← he] at ht ⊢
  clear hx he hu hb hx0 hx1 hkl
  have hne : ¬ n = 0 := by omega
  have hn0 : 0 ≤ n := by omega
  go_enter Try.func31, Try.ntmps31
  go_wp2_with fail
  refine (ht _).mono ?_
  rintro e' w1 ⟨rfl, hg1⟩
  have b3 := b2.keptN hg1
  have gg1 := g_none hgA hg1
  have b5 := b3.alloc (.cells #[.string (strOfNums xs), .int .i64 (e : Int)] 41)
  have b6 := b5.set 0 (.string (strOfNums xs))
  have f0 := b5.frozen 0
  have f1 := b6.frozen 1
  have c0 := b5.cellOf (i := 0) rfl
  have c1 := b6.cellOf (i := 1) rfl
  have b7 := b6.set 1 (.int .i64 (e : Int))
  have b4 := Blk.new w1 [.string (strOfNums xs), .int .i64 (e : Int)] 41
  have k2 := b4.cellOf (i := 0) rfl
  have k3 := b4.cellOf (i := 1) rfl
  have hb8 : (b.toNat : Int) < 256 := by have := HB.out; have := b.toNat_lt; omega
  have hb0 : (0 : Int) ≤ (b.toNat : Int) := Int.natCast_nonneg _
  have hne3 : w1.heap.size ≠ w.heap.size + 1 := by have := b3.lt; omega
  have kS0 : ∀ u v, (((w1.alloc (.cells #[.string (strOfNums xs), .int .i64 (e : Int)] 41)).drew.setCell ⟨w.heap.size + 1, 0, none⟩ u).setCell ⟨w.heap.size + 1, 1, none⟩ v).cell? ⟨w1.heap.size, 0, none⟩ = some (.string (strOfNums xs)) := fun u v => ((b4.drew.other (a := ⟨w.heap.size + 1, 0, none⟩) hne3 u).other (a := ⟨w.heap.size + 1, 1, none⟩) hne3 v).cellOf rfl
  have kS1 : ∀ u v, (((w1.alloc (.cells #[.string (strOfNums xs), .int .i64 (e : Int)] 41)).drew.setCell ⟨w.heap.size + 1, 0, none⟩ u).setCell ⟨w.heap.size + 1, 1, none⟩ v).cell? ⟨w1.heap.size, 1, none⟩ = some (.int .i64 e) := fun u v => ((b4.drew.other (a := ⟨w.heap.size + 1, 0, none⟩) hne3 u).other (a := ⟨w.heap.size + 1, 1, none⟩) hne3 v).cellOf rfl
  go_wp2
  go_region_held3 (fun w' => w'.cell? ⟨w1.heap.size, 0, none⟩ = some (.string (strOfNums xs)) ∧ w'.cell? ⟨w1.heap.size, 1, none⟩ = some (.int .i64 e)) (first | assumption | exact ⟨k2, k3⟩ | exact ⟨kS0 _ _, kS1 _ _⟩) (fail)
  all_goals
    go_wp2
    refine bodyPost_ret (results_row_tmp2 rfl _ _ (w.heap.size + 1) _ _ _ _ rfl b7 Try.underlying41 rfl (by kernel_rfl)) rfl ?_
    refine ⟨?_, g_drew (g_set (g_set (g_alloc gg1 _) _ (.inr (by simp))) _ (.inr (by simp)))⟩
    show Ending.returned (.tuple #[RF xs e, .int .i64 ((IntKind.i64.wrap (b.toNat : Int)).tmod n), .int .i64 0]) = _
    rw [show IntKind.i64.wrap (b.toNat : Int) = (b.toNat : Int) by simp [IntKind.wrap, IntKind.signed, IntKind.bits]; omega, Int.tmod_eq_emod_of_nonneg hb0, HB.out]

theorem strIdx {xs : List Int} (h : ∀ x ∈ xs, 0 ≤ x ∧ x < 256) {k : Nat} {x : Int} (hx : xs[k]? = some x) (hk : k < (strOfNums xs).size) : (((strOfNums xs)[k]'hk).toNat : Int) = x := by
  obtain ⟨h0, h1⟩ := h x (List.mem_of_getElem? hx)
  obtain ⟨hl, he⟩ := List.getElem?_eq_some_iff.1 hx
  have e : (strOfNums xs)[k]'hk = UInt8.ofNat x.toNat := by
    have h1 : (strOfNums xs).data.toList[k]? = some (UInt8.ofNat x.toNat) := by rw [strOfNums_data]; simp [hx]
    obtain ⟨h2, h3⟩ := List.getElem?_eq_some_iff.1 h1
    rw [← h3]
    rfl
  rw [e]
  simp
  omega
theorem sumV_drop {xs : List Int} {k : Nat} {x : Int} (hx : xs[k]? = some x) : sumV (xs.drop k) = stepV (sumV (xs.drop (k + 1))) x := by
  obtain ⟨hl, he⟩ := List.getElem?_eq_some_iff.1 hx
  rw [List.drop_eq_getElem_cons hl, he]
  rfl

set_option maxHeartbeats 1000000 in
theorem refDraw_ok (xs : List Int) (hu : ∀ x ∈ xs, 0 ≤ x ∧ x < 256) (k d : Nat) (hd : d = min 4 (xs.length - k)) (hk : k ≤ xs.length) (hl : xs.length ≤ 20000) (w : World) :
    Calls Try.prog 32 #[RF xs k] w fun e w' => e = .returned (.tuple #[RF xs (k + d), .int .u32 (sumV ((xs.drop k).take d))]) ∧ w.grownBy w' none := by
  obtain ⟨kA0, kA1, kB⟩ := refA_cells xs k w
  have k0 := kA0 (.cells #[.string { data := #[] }, .int .i64 0] 41)
  have k1 := kA1 (.cells #[.string { data := #[] }, .int .i64 0] 41)
  have b2 := kB (.string { data := #[] }) (.int .i64 0)
  have ht := refTake_ok xs k 4 d hd hk hl
  have hgA := g_alloc (g_alloc (g_refl w none) (.cells #[.string (strOfNums xs), .int .i64 (k : Int)] 41)) (.cells #[.string { data := #[] }, .int .i64 0] 41)
  obtain ⟨ys, hys⟩ : ∃ ys, ys = (xs.drop k).take d := ⟨_, rfl⟩
  have hyl : ys.length = d := by rw [hys]; simp; omega
  have HU : Hid (∀ x ∈ ys, 0 ≤ x ∧ x < 256) := hid (by rw [hys]; exact fun x hx => hu x (List.mem_of_mem_drop (List.mem_of_mem_take hx)))
  obtain ⟨e, he⟩ : ∃ e, e = k + d := ⟨_, rfl⟩
  rw [← he, ← hys] at ht
  rw [← he, ← hys]
  have hsz := strOfNums_size ys
  rw [hyl] at hsz
  have hd4 : d ≤ 4 := by omega
  have HYL := hid hyl
  clear hys he hd hu hyl
  go_enter Try.func32, Try.ntmps32
  go_wp2_with fail
  refine (ht _).mono ?_
  rintro e' w1 ⟨rfl, hg1⟩
  have b3 := b2.keptN hg1
  have gg1 := g_none hgA hg1
  have b5 := b3.alloc (.cells #[.string (strOfNums xs), .int .i64 (e : Int)] 41)
  have b6 := b5.set 0 (.string (strOfNums xs))
  have f0 := b5.frozen 0
  have f1 := b6.frozen 1
  have c0 := b5.cellOf (i := 0) rfl
  have c1 := b6.cellOf (i := 1) rfl
  have b7 := b6.set 1 (.int .i64 (e : Int))
  have b4 := Blk.new w1 [.string (strOfNums xs), .int .i64 (e : Int)] 41
  have k2 := b4.cellOf (i := 0) rfl
  have k3 := b4.cellOf (i := 1) rfl
  go_wp2
  go_loopw [7, 8] (fun s v wr => ∃ (j : Nat), j ≤ d ∧ v = .int .i64 ((j : Int) - 1) ∧ s = .int .u32 (sumV (ys.drop j)) ∧ (w1.alloc (.cells #[.string (strOfNums xs), .int .i64 (e : Int)] 41)) = wr) (fun _ v _ => (intOf v + 1).toNat)
  case atStart => exact ⟨d, Nat.le_refl _, rfl, by rw [show ys.drop d = [] by rw [← HYL.out]; simp]; rfl, rfl⟩
  case round =>
    obtain ⟨j, hj, rfl, rfl, rfl⟩ := hrel
    by_cases h0 : j = 0
    · subst h0
      go_wp2
      refine bodyPost_ret (results_row_tmp1 rfl _ _ (w.heap.size + 1) _ _ _ _ rfl b7 Try.underlying41 rfl (by kernel_rfl)) rfl ?_
      exact ⟨rfl, g_set (g_set (g_alloc gg1 _) _ (.inr (by simp))) _ (.inr (by simp))⟩
    · obtain ⟨i, rfl⟩ : ∃ i, j = i + 1 := ⟨j - 1, by omega⟩
      have hii : ((i + 1 : Nat) : Int) - 1 = (i : Int) := by omega
      rw [hii]
      have hid1 : i < d := by omega
      have hid2 : (i : Int) < (d : Int) := by omega
      obtain ⟨x, hx⟩ : ∃ x, ys[i]? = some x := ⟨ys[i]'(by have := HYL.out; omega), List.getElem?_eq_getElem _⟩
      have HX := hid hx
      clear hx
      go_wp2
      refine ⟨⟨i, by omega, rfl, ?_, trivial⟩, by simp [intOf]⟩
      rw [sumV_drop HX.out, strIdx HU.out HX.out]
      rfl
end Go.Proofs.Ytkeicoadpdfkkaa
