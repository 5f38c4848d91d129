/-
  The document's feed: a string, and a place in it.
-/
import Derived.Test.YtkeicoadpdfkkaaFeedOf
import Derived.Laws.ResultCell
namespace Go.Proofs.Ytkeicoadpdfkkaa
open Go.RowKit

theorem results_row_tmp2 {P : Program} {fn : Func} {p u u2 : Tmp} {ty : TypeId} (h : fn.results = #[.cell p ty, .tmp u, .tmp u2]) (tmps : Array Value) (w : World) (g : Nat) (t : TypeId) (cs : Array Value) (fr : Nat × Nat) (d : TypeDesc)
    (hp : tmps.getD p undef = .pointer (some ⟨g, 0, none⟩)) (hg : w.heap[g]? = some (.cells cs t fr))
    (hu : P.underlying ty = some d) (hd : (match d with | .struct _ | .array _ _ => true | _ => false) = true) (hi : (P.info? ty).map (·.size) = some cs.size) :
    (results fn tmps).run P w = .ok (.tuple #[.agg cs, tmps.getD u undef, tmps.getD u2 undef]) w := by
  have e : (results fn tmps).run P w =
      ((asAddr (tmps.getD p undef)).run P w).andThen fun a w₁ => ((loadVar ty a).run P w₁).andThen fun v w₂ => .ok (.tuple #[v, tmps.getD u undef, tmps.getD u2 undef]) w₂ := by
    simp only [results, h]
    simp [Sem.run_bind, Result.andThen]
  rw [e, hp]
  simp [asAddr, run_loadVar_row w g t ty cs fr d hg hu hd hi]
theorem results_row_tmp1 {P : Program} {fn : Func} {p u : Tmp} {ty : TypeId} (h : fn.results = #[.cell p ty, .tmp u]) (tmps : Array Value) (w : World) (g : Nat) (t : TypeId) (cs : Array Value) (fr : Nat × Nat) (d : TypeDesc)
    (hp : tmps.getD p undef = .pointer (some ⟨g, 0, none⟩)) (hg : w.heap[g]? = some (.cells cs t fr))
    (hu : P.underlying ty = some d) (hd : (match d with | .struct _ | .array _ _ => true | _ => false) = true) (hi : (P.info? ty).map (·.size) = some cs.size) :
    (results fn tmps).run P w = .ok (.tuple #[.agg cs, tmps.getD u undef]) w := by
  rw [results_cell_tmp h tmps P w, hp]
  simp [asAddr, run_loadVar_row w g t ty cs fr d hg hu hd hi]

/-- The document's feed. -/
abbrev RF (xs : List Int) (k : Nat) : Value := .agg #[.string (strOfNums xs), .int .i64 k]
theorem str_ext (xs : List Int) (k j : Nat) : (strOfNums xs).extract k j = strOfNums ((xs.drop k).take (j - k)) := by
  apply ByteArray.ext
  apply Array.ext'
  simp [strOfNums, ByteArray.data_extract, Array.toList_extract, List.map_take, List.map_drop]
theorem str_drop (xs : List Int) (k : Nat) : (strOfNums xs).extract k xs.length = strOfNums (xs.drop k) := by
  rw [str_ext, List.take_of_length_le (by simp)]
theorem refLeft_any (xs : List Int) (k : Nat) (hk : k ≤ xs.length) (hl : xs.length ≤ 20000) (w : World) :
    Calls Try.prog 19 #[RF xs k] w fun e w' => e = .returned (.string (strOfNums (xs.drop k))) ∧ w.grownBy w' none := by
  have hsz := strOfNums_size xs
  have hgA := g_alloc (g_refl w none) (.cells #[.string (strOfNums xs), .int .i64 k] 41)
  have b1 := Blk.new w [.string (strOfNums xs), .int .i64 (k : Int)] 41
  have k0 := b1.cellOf (i := 0) rfl
  have k1 := b1.cellOf (i := 1) rfl
  have hsd := str_drop xs k
  go_enter Try.func19, Try.ntmps19
  go_wp2
  go_ret
  exact ⟨by rw [← hsd]; rfl, hgA⟩
theorem refA_cells (xs : List Int) (k : Nat) (w : World) : (∀ o, ((w.alloc (.cells #[.string (strOfNums xs), .int .i64 (k : Int)] 41)).alloc o).cell? ⟨w.heap.size, 0, none⟩ = some (.string (strOfNums xs))) ∧ (∀ o, ((w.alloc (.cells #[.string (strOfNums xs), .int .i64 (k : Int)] 41)).alloc o).cell? ⟨w.heap.size, 1, none⟩ = some (.int .i64 (k : Int))) ∧ (∀ x y, Blk ((w.alloc (.cells #[.string (strOfNums xs), .int .i64 (k : Int)] 41)).alloc (.cells #[x, y] 41)) (w.heap.size + 1) 41 [x, y]) := by
  have b1 := Blk.new w [.string (strOfNums xs), .int .i64 (k : Int)] 41
  refine ⟨fun o => (b1.alloc o).cellOf rfl, fun o => (b1.alloc o).cellOf rfl, fun x y => ?_⟩
  have b2 := Blk.new (w.alloc (.cells #[.string (strOfNums xs), .int .i64 (k : Int)] 41)) [x, y] 41
  rw [World.size_alloc] at b2
  exact b2
theorem refTake_ok (xs : List Int) (k m d : Nat) (hd : d = min m (xs.length - k)) (hk : k ≤ xs.length) (hl : xs.length ≤ 20000) (w : World) :
    Calls Try.prog 33 #[RF xs k, .int .i64 m] w fun e w' => e = .returned (.tuple #[RF xs (k + d), .string (strOfNums ((xs.drop k).take d)), .int .i64 0]) ∧ w.grownBy w' none := by
  have hsz := strOfNums_size xs
  obtain ⟨kA0, kA1, kB⟩ := refA_cells xs k w
  have k0 := kA0 (.cells #[.string { data := #[] }, .int .i64 0] 41)
  have k1 := kA1 (.cells #[.string { data := #[] }, .int .i64 0] 41)
  have b2 := kB (.string { data := #[] }) (.int .i64 0)
  have f0 := b2.frozen 0
  have f1 := (b2.set 0 (.string (strOfNums xs))).frozen 1
  obtain ⟨e, he⟩ : ∃ e, e = k + d := ⟨_, rfl⟩
  have hse := str_ext xs k e
  rw [show e - k = d by omega] at hse
  have HSE := hid hse
  have HE := hid he
  obtain ⟨r, hr⟩ : ∃ r, r = xs.length - k := ⟨_, rfl⟩
  have hsub : (xs.length : Int) - (k : Int) = (r : Int) := by omega
  have hkd : (k : Int) + (d : Int) = (e : Int) := by omega
  have hke : (k : Int) ≤ (e : Int) := by omega
  have hel : (e : Int) ≤ (xs.length : Int) := by omega
  have hwe : IntKind.i64.wrap (e : Int) = (e : Int) := by simp [IntKind.wrap, IntKind.signed, IntKind.bits]; omega
  have b3 := kB (.string (strOfNums xs)) (.int .i64 (e : Int))
  clear hse he b2
  go_enter Try.func33, Try.ntmps33
  by_cases hm : r < m
  · have hmI : (r : Int) < (m : Int) := by omega
    obtain rfl : d = r := by omega
    clear hd hr hm
    go_wp2
    go_region_held3 (fun w' => w'.cell? ⟨w.heap.size, 0, none⟩ = some (.string (strOfNums xs)) ∧ w'.cell? ⟨w.heap.size, 1, none⟩ = some (.int .i64 k)) (first | assumption | exact ⟨kA0 _, kA1 _⟩) (fail)
    go_wp2
    refine bodyPost_ret (results_row_tmp2 rfl _ _ (w.heap.size + 1) _ _ _ _ rfl b3 Try.underlying41 rfl (by kernel_rfl)) rfl ?_
    refine ⟨?_, g_drew (g_alloc (g_alloc (g_refl w none) _) _)⟩
    rw [← HSE.out, ← HE.out]
    rfl
  · have hmI : ¬ ((r : Int) < (m : Int)) := by omega
    obtain rfl : d = m := by omega
    clear hd hr hm
    go_wp2
    go_region_held3 (fun w' => w'.cell? ⟨w.heap.size, 0, none⟩ = some (.string (strOfNums xs)) ∧ w'.cell? ⟨w.heap.size, 1, none⟩ = some (.int .i64 k)) (first | assumption | exact ⟨kA0 _, kA1 _⟩) (fail)
    go_wp2
    refine bodyPost_ret (results_row_tmp2 rfl _ _ (w.heap.size + 1) _ _ _ _ rfl b3 Try.underlying41 rfl (by kernel_rfl)) rfl ?_
    refine ⟨?_, g_drew (g_alloc (g_alloc (g_refl w none) _) _)⟩
    rw [← HSE.out, ← HE.out]
    rfl
theorem refTake_no (xs : List Int) (k : Nat) (m : Int) (hm : m < 0) (hl : xs.length ≤ 20000) (w : World) :
    Calls Try.prog 33 #[RF xs k, .int .i64 m] w fun e w' => e = .returned (.tuple #[RF xs k, .string { data := #[] }, .int .i64 2]) ∧ w.grownBy w' none := by
  obtain ⟨kA0, kA1, kB⟩ := refA_cells xs k w
  have k0 := kA0 (.cells #[.string { data := #[] }, .int .i64 0] 41)
  have k1 := kA1 (.cells #[.string { data := #[] }, .int .i64 0] 41)
  have b2 := kB (.string { data := #[] }) (.int .i64 0)
  have f0 := b2.frozen 0
  have f1 := (b2.set 0 (.string (strOfNums xs))).frozen 1
  have b3 := kB (.string (strOfNums xs)) (.int .i64 (k : Int))
  clear b2
  go_enter Try.func33, Try.ntmps33
  go_wp2
  refine bodyPost_ret (results_row_tmp2 rfl _ _ (w.heap.size + 1) _ _ _ _ rfl b3 Try.underlying41 rfl (by kernel_rfl)) rfl ?_
  exact ⟨rfl, g_alloc (g_alloc (g_refl w none) _) _⟩

/-! ### Seek -/
theorem refSeek_out (xs : List Int) (k : Nat) (i : Int) (hi : i < 0 ∨ (xs.length : Int) < i) (hl : xs.length ≤ 20000) (w : World) :
    Calls Try.prog 34 #[RF xs k, .int .i64 i] w fun e w' => e = .returned (.tuple #[RF xs k, .int .i64 0, .int .i64 4]) ∧ w.grownBy w' none := by
  have hsz := strOfNums_size xs
  obtain ⟨kA0, kA1, kB⟩ := refA_cells xs k w
  have k0 := kA0 (.cells #[.string { data := #[] }, .int .i64 0] 41)
  have k1 := kA1 (.cells #[.string { data := #[] }, .int .i64 0] 41)
  have b2 := kB (.string { data := #[] }) (.int .i64 0)
  have f0 := b2.frozen 0
  have f1 := (b2.set 0 (.string (strOfNums xs))).frozen 1
  have b3 := kB (.string (strOfNums xs)) (.int .i64 (k : Int))
  clear b2
  by_cases h0 : i < 0
  all_goals
    try have h1 : (xs.length : Int) < i := hi.resolve_left h0
    clear hi
    go_enter Try.func34, Try.ntmps34
    go_wp2
    refine bodyPost_ret (results_row_tmp2 rfl _ _ (w.heap.size + 1) _ _ _ _ rfl b3 Try.underlying41 rfl (by kernel_rfl)) rfl ?_
    exact ⟨rfl, g_alloc (g_alloc (g_refl w none) _) _⟩
theorem refSeek_in (xs : List Int) (k i : Nat) (hi : i ≤ xs.length) (hl : xs.length ≤ 20000) (w : World) :
    Calls Try.prog 34 #[RF xs k, .int .i64 i] w fun e w' => e = .returned (.tuple #[RF xs i, .int .i64 k, .int .i64 0]) ∧ w.grownBy w' none := by
  have hsz := strOfNums_size xs
  obtain ⟨kA0, kA1, kB⟩ := refA_cells xs k w
  have k0 := kA0 (.cells #[.string { data := #[] }, .int .i64 0] 41)
  have k1 := kA1 (.cells #[.string { data := #[] }, .int .i64 0] 41)
  have b2 := kB (.string { data := #[] }) (.int .i64 0)
  have f0 := b2.frozen 0
  have f1 := (b2.set 0 (.string (strOfNums xs))).frozen 1
  have b3 := kB (.string (strOfNums xs)) (.int .i64 (i : Int))
  have hq : ¬ ((xs.length : Int) < (i : Int)) := by omega
  clear b2
  go_enter Try.func34, Try.ntmps34
  go_wp2
  go_region_held3 (fun w' => w'.cell? ⟨w.heap.size, 0, none⟩ = some (.string (strOfNums xs)) ∧ w'.cell? ⟨w.heap.size, 1, none⟩ = some (.int .i64 k)) (first | assumption | exact ⟨kA0 _, kA1 _⟩) (fail)
  go_wp2
  refine bodyPost_ret (results_row_tmp2 rfl _ _ (w.heap.size + 1) _ _ _ _ rfl b3 Try.underlying41 rfl (by kernel_rfl)) rfl ?_
  exact ⟨rfl, g_drew (g_alloc (g_alloc (g_refl w none) _) _)⟩
end Go.Proofs.Ytkeicoadpdfkkaa
