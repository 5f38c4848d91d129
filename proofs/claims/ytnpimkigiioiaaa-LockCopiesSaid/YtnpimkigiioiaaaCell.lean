/-
  What the functions of the package cell that speak of one cell do, as contracts.
-/
import Derived.Test.YtnpimkigiioiaaaProg
import Derived.Test.YtnpimkigiioiaaaLib
import Derived.Test.YtnpimkigiioiaaaStill
import Derived.Test.YtnpimkigiioiaaaScope
import Derived.WalkSpells
import Derived.WalkLawsBesides
import Derived.BigQuiet
import Derived.StillTailTactics
namespace Go.Proofs.Ytnpimkigiioiaaa
open Go.RowKit
set_option maxRecDepth 100000

/-- The cells as a row of values: a word, and how often it was written. -/
def flat (xs : List (Int × Int)) : List Value := xs.flatMap fun x => [.int .u64 x.1, .int .i64 x.2]

theorem flat_get (xs : List (Int × Int)) (i : Nat) {u c : Int} (h : xs[i]? = some (u, c)) : (flat xs)[i * 2]? = some (.int .u64 u) ∧ (flat xs)[i * 2 + 1]? = some (.int .i64 c) := by
  induction xs generalizing i with
  | nil => simp at h
  | cons x xs ih =>
    cases i with
    | zero => simp at h; subst h; simp [flat]
    | succ i =>
      have := ih i (by simpa using h)
      simpa [flat, show (i + 1) * 2 = i * 2 + 2 from by omega] using this
theorem flat_length (xs : List (Int × Int)) : (flat xs).length = 2 * xs.length := by
  induction xs with
  | nil => rfl
  | cons x xs ih => simp [flat] at *; omega
theorem flat_set (xs : List (Int × Int)) (i : Nat) (u c : Int) (h : i < xs.length) : ((flat xs).set (i * 2) (.int .u64 u)).set (i * 2 + 1) (.int .i64 c) = flat (xs.set i (u, c)) := by
  induction xs generalizing i with
  | nil => simp at h
  | cons x xs ih =>
    cases i with
    | zero => simp [flat]
    | succ i =>
      have := ih i (by simpa using h)
      simpa [flat, show (i + 1) * 2 = i * 2 + 2 from by omega] using this

/-- A pointer to cells: the struct in block p, the list in block g. -/
def CellsAt (w : World) (p g : Nat) (xs : List (Int × Int)) : Prop :=
  ∃ cap tail, Blk w p 100 [.slice (some ⟨g, 0, none⟩) xs.length cap, .bool true] ∧ Blk w g 109 (flat xs ++ tail) ∧ xs.length ≤ cap ∧ cap ≤ maxLen ∧ (flat xs ++ tail).length = cap * 2 ∧ p ≠ g

/-- What the walk of a look at cell k wants. -/
theorem CellsAt.facts {w : World} {p g : Nat} {xs : List (Int × Int)} (h : CellsAt w p g xs) : ∃ cap : Nat, w.cell? ⟨p, 0, none⟩ = some (.slice (some ⟨g, 0, none⟩) xs.length cap) ∧ w.cell? ⟨p, 1, none⟩ = some (.bool true) ∧
    xs.length ≤ 9223372036854775807 ∧ p ≠ g ∧ ∀ k u c, xs[k]? = some (u, c) → w.cell? ⟨g, k * 2, none⟩ = some (.int .u64 u) ∧ w.cell? ⟨g, k * 2 + 1, none⟩ = some (.int .i64 c) := by
  obtain ⟨cap, tail, hp, hg, hl, hm, _, hne⟩ := h
  refine ⟨cap, hp.cellOf rfl, hp.cellOf rfl, by unfold maxLen at hm; omega, hne, fun k u c hx => ?_⟩
  have hk : k < xs.length := (List.getElem?_eq_some_iff.1 hx).1
  obtain ⟨h0, h1⟩ := flat_get xs k hx
  exact ⟨hg.cellOf (by rw [List.getElem?_append_left (by rw [flat_length]; omega)]; exact h0), hg.cellOf (by rw [List.getElem?_append_left (by rw [flat_length]; omega)]; exact h1)⟩
theorem CellsAt.frozen {w : World} {p g : Nat} {xs : List (Int × Int)} (h : CellsAt w p g xs) (i : Nat) : w.frozen? ⟨g, i, none⟩ = false := by
  obtain ⟨cap, tail, hp, hg, _⟩ := h; exact hg.frozen i
theorem CellsAt.lt {w : World} {p g : Nat} {xs : List (Int × Int)} (h : CellsAt w p g xs) : p < w.heap.size ∧ g < w.heap.size := by
  obtain ⟨cap, tail, hp, hg, _⟩ := h; exact ⟨hp.lt, hg.lt⟩
theorem CellsAt.ne {w : World} {p g : Nat} {xs : List (Int × Int)} (h : CellsAt w p g xs) : p ≠ g := by
  obtain ⟨cap, tail, _, _, _, _, _, hne⟩ := h; exact hne
theorem CellsAt.kept {w w' : World} {p g : Nat} {xs : List (Int × Int)} {row : Option Nat} (h : CellsAt w p g xs) (hg : w.grownBy w' row) (h1 : some p ≠ row) (h2 : some g ≠ row) : CellsAt w' p g xs := by
  obtain ⟨cap, tail, hp, hq, rest⟩ := h; exact ⟨cap, tail, hp.kept hg h1, hq.kept hg h2, rest⟩
theorem CellsAt.keptN {w w' : World} {p g : Nat} {xs : List (Int × Int)} (h : CellsAt w p g xs) (hg : w.grownBy w' none) : CellsAt w' p g xs := h.kept hg (by simp) (by simp)
theorem CellsAt.alloc {w : World} {p g : Nat} {xs : List (Int × Int)} (h : CellsAt w p g xs) (o : Obj) : CellsAt (w.alloc o) p g xs := h.keptN (World.grownBy_alloc w o none)
theorem CellsAt.set {w : World} {p g : Nat} {xs : List (Int × Int)} (h : CellsAt w p g xs) (k : Nat) (hk : k < xs.length) (u c : Int) :
    CellsAt ((w.setCell ⟨g, k * 2, none⟩ (.int .u64 u)).setCell ⟨g, k * 2 + 1, none⟩ (.int .i64 c)) p g (xs.set k (u, c)) := by
  obtain ⟨cap, tail, hp, hg, hl, hm, hcap, hne⟩ := h
  have hlen := flat_length xs
  refine ⟨cap, tail, ?_, ?_, by simpa using hl, hm, ?_, hne⟩
  · have := (hp.other (a := ⟨g, k * 2, none⟩) hne (.int .u64 u)).other (a := ⟨g, k * 2 + 1, none⟩) hne (.int .i64 c)
    simpa using this
  · have := (hg.set (k * 2) (.int .u64 u)).set (k * 2 + 1) (.int .i64 c)
    rwa [List.set_append_left _ _ (by omega), List.set_append_left _ _ (by rw [List.length_set]; omega), flat_set xs k u c hk] at this
  · simp only [List.length_append, flat_length, List.length_set] at *; exact hcap

/-- No cells: nil, or the zero struct. -/
def IsNone (w : World) (v : Option Addr) : Prop := v = none ∨ ∃ p, v = some ⟨p, 0, none⟩ ∧ w.cell? ⟨p, 1, none⟩ = some (.bool false)

theorem none_some (p g : Nat) (xs : List (Int × Int)) (w : World) (h : CellsAt w p g xs) :
    Calls Try.prog 58 #[.pointer (some ⟨p, 0, none⟩)] w fun e w' => e = .returned (.bool false) ∧ w = w' := by
  obtain ⟨cap, c0, c1, _⟩ := h.facts
  clear h
  go_enter Try.func58, Try.ntmps58
  go_wp2
  go_ret
  exact ⟨rfl, rfl⟩

theorem none_none (v : Option Addr) (w : World) (h : IsNone w v) :
    Calls Try.prog 58 #[.pointer v] w fun e w' => e = .returned (.bool true) ∧ w = w' := by
  rcases h with rfl | ⟨p, rfl, c1⟩
  · go_enter Try.func58, Try.ntmps58
    go_wp2
    go_ret
    exact ⟨rfl, rfl⟩
  · go_enter Try.func58, Try.ntmps58
    go_wp2
    go_ret
    exact ⟨rfl, rfl⟩

theorem has_any (v : Option Addr) (len cap : Nat) (_hl : len ≤ 9223372036854775807) (i : Int) (w : World) :
    Calls Try.prog 73 #[.slice v len cap, .int .i64 i] w fun e w' => e = .returned (.bool (decide (0 ≤ i) && decide (i < len))) ∧ w = w' := by
  by_cases h : 0 ≤ i
  · go_enter Try.func73, Try.ntmps73
    go_wp2
    go_ret
    exact ⟨by simp [h], rfl⟩
  · go_enter Try.func73, Try.ntmps73
    go_wp2
    go_ret
    exact ⟨by simp; omega, rfl⟩


theorem asked_none_uint64 (v : Option Addr) (i : Int) (of : Value) (w : World) (h : IsNone w v) :
    Calls Try.prog 71 #[.pointer v, .int .i64 i, of] w fun e w' => e = .returned (.tuple #[.int .u64 0, .int .i64 1]) ∧ w = w' := by
  go_enter Try.func71, Try.ntmps71
  go_wp2
  refine wp_scope_fwd 0 rfl ?_
  go_wp2_with (go_at_call 58; refine (none_none _ _ h).mono ?_; rintro e w' ⟨rfl, rfl⟩)
  go_step3
  simp only [Exit.then]
  refine fwd_goto ?_
  go_wp2
  refine noGoto_retI ?_
  go_ret2
  exact ⟨rfl, rfl⟩

theorem asked_out_uint64 (p g : Nat) (xs : List (Int × Int)) (i : Int) (hi : i < 0 ∨ xs.length ≤ i) (of : Value) (w : World) (h : CellsAt w p g xs) :
    Calls Try.prog 71 #[.pointer (some ⟨p, 0, none⟩), .int .i64 i, of] w fun e w' => e = .returned (.tuple #[.int .u64 0, .int .i64 4]) ∧ w = w' := by
  obtain ⟨cap, c0, c1, hl, _⟩ := h.facts
  have hb : (decide (0 ≤ i) && decide (i < (xs.length : Int))) = false := by simp; omega
  have hB := hid hb
  clear hb hi
  go_enter Try.func71, Try.ntmps71
  go_wp2
  refine wp_scope_fwd 0 rfl ?_
  go_wp2_with (first | (go_at_call 58; refine (none_some _ _ _ _ h).mono ?_; rintro e w' ⟨rfl, rfl⟩) | (go_at_call 73; refine (has_any _ _ _ hl _ _).mono ?_; rintro e w' ⟨rfl, rfl⟩; rw [hB.out]))
  go_step3
  simp only [Exit.then]
  refine fwd_goto ?_
  go_wp2
  refine noGoto_retI ?_
  go_ret2
  exact ⟨rfl, rfl⟩


theorem asked_none_bool (v : Option Addr) (i : Int) (of : Value) (w : World) (h : IsNone w v) :
    Calls Try.prog 63 #[.pointer v, .int .i64 i, of] w fun e w' => e = .returned (.tuple #[.bool false, .int .i64 1]) ∧ w = w' := by
  go_enter Try.func63, Try.ntmps63
  go_wp2
  refine wp_scope_fwd 0 rfl ?_
  go_wp2_with (go_at_call 58; refine (none_none _ _ h).mono ?_; rintro e w' ⟨rfl, rfl⟩)
  go_step3
  simp only [Exit.then]
  refine fwd_goto ?_
  go_wp2
  refine noGoto_retI ?_
  go_ret2
  exact ⟨rfl, rfl⟩

theorem asked_out_bool (p g : Nat) (xs : List (Int × Int)) (i : Int) (hi : i < 0 ∨ xs.length ≤ i) (of : Value) (w : World) (h : CellsAt w p g xs) :
    Calls Try.prog 63 #[.pointer (some ⟨p, 0, none⟩), .int .i64 i, of] w fun e w' => e = .returned (.tuple #[.bool false, .int .i64 4]) ∧ w = w' := by
  obtain ⟨cap, c0, c1, hl, _⟩ := h.facts
  have hb : (decide (0 ≤ i) && decide (i < (xs.length : Int))) = false := by simp; omega
  have hB := hid hb
  clear hb hi
  go_enter Try.func63, Try.ntmps63
  go_wp2
  refine wp_scope_fwd 0 rfl ?_
  go_wp2_with (first | (go_at_call 58; refine (none_some _ _ _ _ h).mono ?_; rintro e w' ⟨rfl, rfl⟩) | (go_at_call 73; refine (has_any _ _ _ hl _ _).mono ?_; rintro e w' ⟨rfl, rfl⟩; rw [hB.out]))
  go_step3
  simp only [Exit.then]
  refine fwd_goto ?_
  go_wp2
  refine noGoto_retI ?_
  go_ret2
  exact ⟨rfl, rfl⟩


theorem asked_in_load (p g : Nat) (xs : List (Int × Int)) (k : Nat) (u c : Int) (hx : xs[k]? = some (u, c)) (w : World) (h : CellsAt w p g xs) :
    Calls Try.prog 71 #[.pointer (some ⟨p, 0, none⟩), .int .i64 k, .func (.func 72) #[] #[]] w fun e w' => e = .returned (.tuple #[.int .u64 u, .int .i64 0]) ∧ w = w' := by
  obtain ⟨cap, c0, c1, hl, hne, hc⟩ := h.facts
  have hk : k < xs.length := (List.getElem?_eq_some_iff.1 hx).1
  obtain ⟨d0, d1⟩ := hc k u c hx
  clear hc hx h
  go_enter Try.func71, Try.ntmps71
  go_wp2
  refine wp_scope_fwd 0 rfl ?_
  go_wp2
  refine fwd_retI ?_
  go_ret2
  exact ⟨rfl, rfl⟩

theorem load_in (p g : Nat) (xs : List (Int × Int)) (k : Nat) (u c : Int) (hx : xs[k]? = some (u, c)) (w : World) (h : CellsAt w p g xs) :
    Calls Try.prog 61 #[.pointer (some ⟨p, 0, none⟩), .int .i64 k] w fun e w' => e = .returned (.tuple #[.int .u64 u, .int .i64 0]) ∧ w = w' := by
  have hX := hid hx
  clear hx
  go_enter Try.func61, Try.ntmps61
  go_wp2_with (go_at_call 71; refine (asked_in_load _ _ _ _ _ _ hX.out _ h).mono ?_; rintro e w' ⟨rfl, rfl⟩)
  go_ret2
  exact ⟨rfl, rfl⟩
theorem load_none (v : Option Addr) (i : Int) (w : World) (h : IsNone w v) :
    Calls Try.prog 61 #[.pointer v, .int .i64 i] w fun e w' => e = .returned (.tuple #[.int .u64 0, .int .i64 1]) ∧ w = w' := by
  go_enter Try.func61, Try.ntmps61
  go_wp2_with (go_at_call 71; refine (asked_none_uint64 _ _ _ _ h).mono ?_; rintro e w' ⟨rfl, rfl⟩)
  go_ret2
  exact ⟨rfl, rfl⟩
theorem load_out (p g : Nat) (xs : List (Int × Int)) (i : Int) (hi : i < 0 ∨ xs.length ≤ i) (w : World) (h : CellsAt w p g xs) :
    Calls Try.prog 61 #[.pointer (some ⟨p, 0, none⟩), .int .i64 i] w fun e w' => e = .returned (.tuple #[.int .u64 0, .int .i64 4]) ∧ w = w' := by
  go_enter Try.func61, Try.ntmps61
  go_wp2_with (go_at_call 71; refine (asked_out_uint64 _ _ _ _ hi _ _ h).mono ?_; rintro e w' ⟨rfl, rfl⟩)
  go_ret2
  exact ⟨rfl, rfl⟩


/-- The world behind a write to cell k. -/
def wrote (w : World) (g k : Nat) (u c : Int) : World := (w.setCell ⟨g, k * 2, none⟩ (.int .u64 u)).setCell ⟨g, k * 2 + 1, none⟩ (.int .i64 c)
theorem wrote_g (w : World) (g k : Nat) (u c : Int) : w.grownBy (wrote w g k u c) (some g) := g_set (g_set (g_refl w _) _ (.inl rfl)) _ (.inl rfl)
theorem CellsAt.wrote {w : World} {p g : Nat} {xs : List (Int × Int)} (h : CellsAt w p g xs) (k : Nat) (hk : k < xs.length) (u c : Int) : CellsAt (wrote w g k u c) p g (xs.set k (u, c)) := h.set k hk u c

theorem write_any (g k : Nat) (u0 c0 n : Int) (hc0 : 0 ≤ c0) (hc1 : c0 < 4611686018427387904) (w : World) (d0 : w.cell? ⟨g, k * 2, none⟩ = some (.int .u64 u0)) (d1 : w.cell? ⟨g, k * 2 + 1, none⟩ = some (.int .i64 c0))
    (f0 : w.frozen? ⟨g, k * 2, none⟩ = false) (f1 : w.frozen? ⟨g, k * 2 + 1, none⟩ = false) :
    Calls Try.prog 65 #[.pointer (some ⟨g, k * 2, none⟩), .int .u64 n] w fun e w' => e = .returned (.bool true) ∧ Go.Proofs.Ytnpimkigiioiaaa.wrote w g k n (c0 + 1) = w' := by
  unfold Go.Proofs.Ytnpimkigiioiaaa.wrote
  go_enter Try.func65, Try.ntmps65
  go_wp2
  go_ret
  exact ⟨rfl, rfl⟩

theorem asked_in_store (p g : Nat) (xs : List (Int × Int)) (k : Nat) (u c n : Int) (hx : xs[k]? = some (u, c)) (hc0 : 0 ≤ c) (hc1 : c < 4611686018427387904) (B : Nat) (w : World) (h : CellsAt w p g xs) (hB : w.cell? ⟨B, 0, none⟩ = some (.int .u64 n)) :
    Calls Try.prog 63 #[.pointer (some ⟨p, 0, none⟩), .int .i64 k, .func (.func 66) #[] #[.pointer (some ⟨B, 0, none⟩)]] w fun e w' => e = .returned (.tuple #[.bool true, .int .i64 0]) ∧ Go.Proofs.Ytnpimkigiioiaaa.wrote w g k n (c + 1) = w' := by
  obtain ⟨cap, c0, c1, hl, hne, hc⟩ := h.facts
  have hk : k < xs.length := (List.getElem?_eq_some_iff.1 hx).1
  obtain ⟨d0, d1⟩ := hc k u c hx
  have f0 := h.frozen (k * 2)
  have f1 := h.frozen (k * 2 + 1)
  clear hc hx h
  go_enter Try.func63, Try.ntmps63
  go_wp2
  refine wp_scope_fwd 0 rfl ?_
  go_wp2_with (first | (go_at_call 65; refine (write_any _ _ _ _ _ hc0 hc1 _ d0 d1 f0 f1).mono ?_; rintro e w' ⟨rfl, rfl⟩) | go_in)
  refine fwd_retI ?_
  go_ret2
  exact ⟨rfl, rfl⟩

theorem store_in (p g : Nat) (xs : List (Int × Int)) (k : Nat) (u c n : Int) (hx : xs[k]? = some (u, c)) (hc0 : 0 ≤ c) (hc1 : c < 4611686018427387904) (w : World) (h : CellsAt w p g xs) :
    Calls Try.prog 43 #[.pointer (some ⟨p, 0, none⟩), .int .i64 k, .int .u64 n] w fun e w' => e = .returned (.int .i64 0) ∧ CellsAt w' p g (xs.set k (n, c + 1)) ∧ w.grownBy w' (some g) := by
  have hX := hid hx
  have hk : k < xs.length := (List.getElem?_eq_some_iff.1 hx).1
  have h' := h.alloc (.cells #[.int .u64 n] 85)
  have hfin := hid (And.intro (h'.wrote k hk n (c + 1)) (g_trans (World.grownBy_alloc w (.cells #[.int .u64 n] 85) (some g)) (wrote_g _ g k n (c + 1)) (fun r e => .inl e)))
  have hB : (w.alloc (.cells #[.int .u64 n] 85)).cell? ⟨w.heap.size, 0, none⟩ = some (.int .u64 n) := (Boxed.new w 85 (.int .u64 n)).cell
  clear hx
  go_enter Try.func43, Try.ntmps43
  go_wp2_with (go_at_call 63; refine (asked_in_store _ _ _ _ _ _ _ hX.out hc0 hc1 _ _ h' hB).mono ?_; rintro e w' ⟨rfl, rfl⟩)
  go_ret
  exact ⟨rfl, hfin.out⟩


theorem swapc_no (g k : Nat) (u fr : Int) (hne : (u == fr) = false) (B B2 : Nat) (w : World) (d0 : w.cell? ⟨g, k * 2, none⟩ = some (.int .u64 u)) (hB : w.cell? ⟨B, 0, none⟩ = some (.int .u64 fr)) :
    Calls Try.prog 64 #[.pointer (some ⟨g, k * 2, none⟩), .pointer (some ⟨B, 0, none⟩), .pointer (some ⟨B2, 0, none⟩)] w fun e w' => e = .returned (.bool false) ∧ w.drew = w' := by
  go_enter Try.func64, Try.ntmps64
  go_wp2
  go_still_tail 9, (by kernel_rfl)
  change wpList _ _ _ _ _ w.drew
  go_wp2
  go_ret
  exact ⟨rfl, rfl⟩
theorem swapc_yes (g k : Nat) (u c to : Int) (hc0 : 0 ≤ c) (hc1 : c < 4611686018427387904) (B B2 : Nat) (w : World) (d0 : w.cell? ⟨g, k * 2, none⟩ = some (.int .u64 u)) (d1 : w.cell? ⟨g, k * 2 + 1, none⟩ = some (.int .i64 c))
    (f0 : w.frozen? ⟨g, k * 2, none⟩ = false) (f1 : w.frozen? ⟨g, k * 2 + 1, none⟩ = false)
    (hB : w.cell? ⟨B, 0, none⟩ = some (.int .u64 u)) (hB2 : w.cell? ⟨B2, 0, none⟩ = some (.int .u64 to)) :
    Calls Try.prog 64 #[.pointer (some ⟨g, k * 2, none⟩), .pointer (some ⟨B, 0, none⟩), .pointer (some ⟨B2, 0, none⟩)] w fun e w' => e = .returned (.bool true) ∧ Go.Proofs.Ytnpimkigiioiaaa.wrote w.drew g k to (c + 1) = w' := by
  go_enter Try.func64, Try.ntmps64
  go_wp2
  go_still_tail 9, (by kernel_rfl)
  change wpList _ _ _ _ _ w.drew
  go_wp2_with (go_at_call 65; refine (write_any _ _ _ _ _ hc0 hc1 w.drew d0 d1 f0 f1).mono ?_; rintro e w' ⟨rfl, rfl⟩)
  go_ret
  exact ⟨rfl, rfl⟩


theorem asked_in_swap_no (p g : Nat) (xs : List (Int × Int)) (k : Nat) (u c fr : Int) (hx : xs[k]? = some (u, c)) (hne : (u == fr) = false) (B B2 : Nat) (w : World) (h : CellsAt w p g xs) (hB : w.cell? ⟨B, 0, none⟩ = some (.int .u64 fr)) :
    Calls Try.prog 63 #[.pointer (some ⟨p, 0, none⟩), .int .i64 k, .func (.func 64) #[] #[.pointer (some ⟨B, 0, none⟩), .pointer (some ⟨B2, 0, none⟩)]] w fun e w' => e = .returned (.tuple #[.bool false, .int .i64 0]) ∧ w.drew = w' := by
  obtain ⟨cap, c0, c1, hl, hpg, hc⟩ := h.facts
  have hk : k < xs.length := (List.getElem?_eq_some_iff.1 hx).1
  obtain ⟨d0, d1⟩ := hc k u c hx
  clear hc hx h
  go_enter Try.func63, Try.ntmps63
  go_wp2
  refine wp_scope_fwd 0 rfl ?_
  go_wp2_with (first | (go_at_call 64; refine (swapc_no _ _ _ _ hne _ _ _ d0 hB).mono ?_; rintro e w' ⟨rfl, rfl⟩) | go_in)
  refine fwd_retI ?_
  go_ret2
  exact ⟨rfl, rfl⟩
theorem asked_in_swap_yes (p g : Nat) (xs : List (Int × Int)) (k : Nat) (u c to : Int) (hx : xs[k]? = some (u, c)) (hc0 : 0 ≤ c) (hc1 : c < 4611686018427387904) (B B2 : Nat) (w : World) (h : CellsAt w p g xs)
    (hB : w.cell? ⟨B, 0, none⟩ = some (.int .u64 u)) (hB2 : w.cell? ⟨B2, 0, none⟩ = some (.int .u64 to)) :
    Calls Try.prog 63 #[.pointer (some ⟨p, 0, none⟩), .int .i64 k, .func (.func 64) #[] #[.pointer (some ⟨B, 0, none⟩), .pointer (some ⟨B2, 0, none⟩)]] w fun e w' => e = .returned (.tuple #[.bool true, .int .i64 0]) ∧ Go.Proofs.Ytnpimkigiioiaaa.wrote w.drew g k to (c + 1) = w' := by
  obtain ⟨cap, c0, c1, hl, hpg, hc⟩ := h.facts
  have hk : k < xs.length := (List.getElem?_eq_some_iff.1 hx).1
  obtain ⟨d0, d1⟩ := hc k u c hx
  have f0 := h.frozen (k * 2)
  have f1 := h.frozen (k * 2 + 1)
  clear hc hx h
  go_enter Try.func63, Try.ntmps63
  go_wp2
  refine wp_scope_fwd 0 rfl ?_
  go_wp2_with (first | (go_at_call 64; refine (swapc_yes _ _ _ _ _ hc0 hc1 _ _ _ d0 d1 f0 f1 hB hB2).mono ?_; rintro e w' ⟨rfl, rfl⟩) | go_in)
  refine fwd_retI ?_
  go_ret2
  exact ⟨rfl, rfl⟩

theorem swap_boxes (w : World) (fr to : Int) : ((w.alloc (.cells #[.int .u64 fr] 85)).alloc (.cells #[.int .u64 to] 85)).cell? ⟨w.heap.size, 0, none⟩ = some (.int .u64 fr) ∧
    ((w.alloc (.cells #[.int .u64 fr] 85)).alloc (.cells #[.int .u64 to] 85)).cell? ⟨w.heap.size + 1, 0, none⟩ = some (.int .u64 to) := by
  refine ⟨((Boxed.new w 85 (.int .u64 fr)).alloc _).cell, ?_⟩
  have := (Boxed.new (w.alloc (.cells #[.int .u64 fr] 85)) 85 (.int .u64 to)).cell
  rwa [World.size_alloc] at this

theorem swap_no (p g : Nat) (xs : List (Int × Int)) (k : Nat) (u c fr to : Int) (hx : xs[k]? = some (u, c)) (hne : (u == fr) = false) (w : World) (h : CellsAt w p g xs) :
    Calls Try.prog 41 #[.pointer (some ⟨p, 0, none⟩), .int .i64 k, .int .u64 fr, .int .u64 to] w fun e w' => e = .returned (.tuple #[.bool false, .int .i64 0]) ∧ CellsAt w' p g xs ∧ w.grownBy w' none := by
  have hX := hid hx
  have h' := (h.alloc (.cells #[.int .u64 fr] 85)).alloc (.cells #[.int .u64 to] 85)
  have hfin := hid (And.intro h' (g_drew (g_alloc (g_alloc (g_refl w none) (.cells #[.int .u64 fr] 85)) (.cells #[.int .u64 to] 85))))
  obtain ⟨hB, hB2⟩ := swap_boxes w fr to
  clear hx
  go_enter Try.func41, Try.ntmps41
  go_wp2_with (go_at_call 63; refine (asked_in_swap_no _ _ _ _ _ _ _ hX.out hne _ _ _ h' hB).mono ?_; rintro e w' ⟨rfl, rfl⟩)
  go_ret2
  exact ⟨rfl, hfin.out⟩
theorem swap_yes (p g : Nat) (xs : List (Int × Int)) (k : Nat) (u c to : Int) (hx : xs[k]? = some (u, c)) (hc0 : 0 ≤ c) (hc1 : c < 4611686018427387904) (w : World) (h : CellsAt w p g xs) :
    Calls Try.prog 41 #[.pointer (some ⟨p, 0, none⟩), .int .i64 k, .int .u64 u, .int .u64 to] w fun e w' => e = .returned (.tuple #[.bool true, .int .i64 0]) ∧ CellsAt w' p g (xs.set k (to, c + 1)) ∧ w.grownBy w' (some g) := by
  have hX := hid hx
  have hk : k < xs.length := (List.getElem?_eq_some_iff.1 hx).1
  have h' := (h.alloc (.cells #[.int .u64 u] 85)).alloc (.cells #[.int .u64 to] 85)
  have hd : CellsAt ((w.alloc (.cells #[.int .u64 u] 85)).alloc (.cells #[.int .u64 to] 85)).drew p g xs := h'
  have hfin := hid (And.intro (hd.wrote k hk to (c + 1)) (g_trans (row := some g) (g_drew (g_alloc (g_alloc (g_refl w _) (.cells #[.int .u64 u] 85)) (.cells #[.int .u64 to] 85))) (wrote_g _ g k to (c + 1)) (fun r e => .inl e)))
  obtain ⟨hB, hB2⟩ := swap_boxes w u to
  clear hx hd
  go_enter Try.func41, Try.ntmps41
  go_wp2_with (go_at_call 63; refine (asked_in_swap_yes _ _ _ _ _ _ _ hX.out hc0 hc1 _ _ _ h' hB hB2).mono ?_; rintro e w' ⟨rfl, rfl⟩)
  go_ret2
  exact ⟨rfl, hfin.out⟩


theorem store_none (v : Option Addr) (i : Int) (n : Int) (w : World) (h : IsNone w v) :
    Calls Try.prog 43 #[.pointer v, .int .i64 i, .int .u64 n] w fun e w' => e = .returned (.int .i64 1) ∧ w.grownBy w' none := by
  have hfin := hid (g_alloc (g_refl w none) (.cells #[.int .u64 n] 85))
  have h' : IsNone (w.alloc (.cells #[.int .u64 n] 85)) v := h.imp id fun ⟨p, hv, hc⟩ => ⟨p, hv, hfin.out.cell hc (by simp)⟩
  go_enter Try.func43, Try.ntmps43
  go_wp2_with (go_at_call 63; refine (asked_none_bool _ _ _ _ h').mono ?_; rintro e w' ⟨rfl, rfl⟩)
  go_ret
  exact ⟨rfl, hfin.out⟩
theorem store_out (p g : Nat) (xs : List (Int × Int)) (i : Int) (hi : i < 0 ∨ xs.length ≤ i) (n : Int) (w : World) (h : CellsAt w p g xs) :
    Calls Try.prog 43 #[.pointer (some ⟨p, 0, none⟩), .int .i64 i, .int .u64 n] w fun e w' => e = .returned (.int .i64 4) ∧ CellsAt w' p g xs ∧ w.grownBy w' none := by
  have hfin := hid (g_alloc (g_refl w none) (.cells #[.int .u64 n] 85))
  have h' : CellsAt (w.alloc (.cells #[.int .u64 n] 85)) p g xs := h.keptN hfin.out
  go_enter Try.func43, Try.ntmps43
  go_wp2_with (go_at_call 63; refine (asked_out_bool _ _ _ _ hi _ _ h').mono ?_; rintro e w' ⟨rfl, rfl⟩)
  go_ret
  exact ⟨rfl, h', hfin.out⟩


theorem swap_none (v : Option Addr) (i : Int) (fr to : Int) (w : World) (h : IsNone w v) :
    Calls Try.prog 41 #[.pointer v, .int .i64 i, .int .u64 fr, .int .u64 to] w fun e w' => e = .returned (.tuple #[.bool false, .int .i64 1]) ∧ w.grownBy w' none := by
  have hfin := hid (g_alloc (g_alloc (g_refl w none) (.cells #[.int .u64 fr] 85)) (.cells #[.int .u64 to] 85))
  have h' : IsNone ((w.alloc (.cells #[.int .u64 fr] 85)).alloc (.cells #[.int .u64 to] 85)) v := h.imp id fun ⟨p, hv, hc⟩ => ⟨p, hv, hfin.out.cell hc (by simp)⟩
  go_enter Try.func41, Try.ntmps41
  go_wp2_with (go_at_call 63; refine (asked_none_bool _ _ _ _ h').mono ?_; rintro e w' ⟨rfl, rfl⟩)
  go_ret2
  exact ⟨rfl, hfin.out⟩
theorem swap_out (p g : Nat) (xs : List (Int × Int)) (i : Int) (hi : i < 0 ∨ xs.length ≤ i) (fr to : Int) (w : World) (h : CellsAt w p g xs) :
    Calls Try.prog 41 #[.pointer (some ⟨p, 0, none⟩), .int .i64 i, .int .u64 fr, .int .u64 to] w fun e w' => e = .returned (.tuple #[.bool false, .int .i64 4]) ∧ CellsAt w' p g xs ∧ w.grownBy w' none := by
  have hfin := hid (g_alloc (g_alloc (g_refl w none) (.cells #[.int .u64 fr] 85)) (.cells #[.int .u64 to] 85))
  have h' : CellsAt ((w.alloc (.cells #[.int .u64 fr] 85)).alloc (.cells #[.int .u64 to] 85)) p g xs := h.keptN hfin.out
  go_enter Try.func41, Try.ntmps41
  go_wp2_with (go_at_call 63; refine (asked_out_bool _ _ _ _ hi _ _ h').mono ?_; rintro e w' ⟨rfl, rfl⟩)
  go_ret2
  exact ⟨rfl, h', hfin.out⟩

end Go.Proofs.Ytnpimkigiioiaaa
