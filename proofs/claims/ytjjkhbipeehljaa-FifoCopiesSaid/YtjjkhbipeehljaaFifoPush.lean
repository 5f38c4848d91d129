/-
  A quarantine in memory: a push, whatever is pushed.
-/
import Derived.Test.YtjjkhbipeehljaaFifoOut
import Derived.Deep.RegionWith
namespace Go.Proofs.Ytjjkhbipeehljaa
open Go.RowKit

def inB (lo hi n : Int) : Bool := decide (lo ≤ n) && decide (n ≤ hi)
def rightB (x : T3) : Bool := inB 0 7 x.1 && inB 0 255 x.2.1 && inB 1 1048576 x.2.2
def pushE (xs : List T3) (x : T3) : Int := if rightB x then (if decide (0 ≤ atOf xs x.1 x.2.1) then 280 else 0) else 2
def pushO (M Y : Int) (xs : List T3) (x : T3) : List T3 := if pushE xs x = 0 then (xs ++ [x]).take (lvN M Y (xs ++ [x])) else []
def pushL (M Y : Int) (xs : List T3) (x : T3) : List T3 := if pushE xs x = 0 then (xs ++ [x]).drop (lvN M Y (xs ++ [x])) else xs

theorem L1.new (w : World) (n : Int) (t : TypeId) : L1 (w.alloc (.cells #[.int .i64 n] t)) (.slice (some ⟨w.heap.size, 0, none⟩) 1 1) [n] :=
  ⟨w.heap.size, 0, 1, rfl, by simp, by simp, by unfold maxLen; omega, fun i m hi => by
    have h := Blk.new w [.int .i64 n] t
    match i, hi with
    | 0, hi => simp at hi; subst hi; exact h.cellOf rfl
    | i + 1, hi => simp at hi⟩
theorem within1_any (lo hi n : Int) (t : TypeId) (b : Nat) (w : World) (hb : w.heap.size = b) :
    Calls Try.prog 21 #[.int .i64 lo, .int .i64 hi, .slice (some ⟨b, 0, none⟩) 1 1] (w.alloc (.cells #[.int .i64 n] t)) fun e w' => e = .returned (.bool (inB lo hi n)) ∧ (w.alloc (.cells #[.int .i64 n] t)).grownBy w' none := by
  subst hb
  exact (within_any lo hi [n] _ _ (L1.new w n t)).mono fun e w' ⟨he, hg⟩ => ⟨by
    rw [he]
    congr 2
    simp only [List.any_cons, List.any_nil, Bool.or_false, bad, inB, Bool.not_or]
    congr 1
    · by_cases h : lo ≤ n
      · simp [h]
      · simp [h]; omega
    · by_cases h : n ≤ hi
      · simp [h]
      · simp [h]; omega, hg⟩

theorem push_none (v : Option Addr) (x y z : Int) (w : World) (h : IsNone w v) :
    Calls Try.prog 9 #[.pointer v, .agg #[.int .i64 x, .int .i64 y, .int .i64 z]] w fun e w' => e = .returned (.tuple #[.slice none 0 0, .int .i64 1]) ∧ w.grownBy w' none := by
  have hgA := g_alloc (g_refl w none) (.cells #[.int .i64 x, .int .i64 y, .int .i64 z] 33)
  have hA : IsNone (w.alloc (.cells #[.int .i64 x, .int .i64 y, .int .i64 z] 33)) v := h.imp id fun ⟨p, hv, hc⟩ => ⟨p, hv, g_cellN hgA hc⟩
  go_enter Try.func9, Try.ntmps9
  go_wp2
  refine wp_scope_fwd 0 rfl ?_
  go_wp2_with fail
  refine (none_none _ _ hA).mono ?_
  rintro e w1 ⟨rfl, rfl⟩
  go_wp2_with fail
  go_step3
  simp only [Exit.then]
  refine fwd_goto ?_
  go_wp2
  refine noGoto_retI ?_
  go_ret2
  exact ⟨rfl, hgA⟩

theorem push_wrong (p : Nat) (M Y : Int) (v : Value) (xs : List T3) (x y z : Int) (w : World) (h : FifoAt w p M Y v xs) (hr : rightB (x, y, z) = false) :
    Calls Try.prog 9 #[.pointer (some ⟨p, 0, none⟩), .agg #[.int .i64 x, .int .i64 y, .int .i64 z]] w fun e w' => e = .returned (.tuple #[.slice none 0 0, .int .i64 2]) ∧ w.grownBy w' none := by
  have hgA := g_alloc (g_refl w none) (.cells #[.int .i64 x, .int .i64 y, .int .i64 z] 33)
  have bX := Blk.new w [.int .i64 x, .int .i64 y, .int .i64 z] 33
  have hA := h.keptN hgA
  have k0 := bX.cellOf (i := 0) rfl
  have k1 := bX.cellOf (i := 1) rfl
  have k2 := bX.cellOf (i := 2) rfl
  cases hb1 : inB 0 7 x with
  | false =>
    clear hr
    go_enter Try.func9, Try.ntmps9
    go_wp2
    refine wp_scope_fwd 0 rfl ?_
    go_wp2_with fail
    refine (none_some _ p M Y v xs hA).mono ?_
    rintro e w1 ⟨rfl, rfl⟩
    go_wp2_with fail
    refine (within1_any 0 7 x _ _ _ (by simp)).mono ?_
    rintro e w2 ⟨rfl, hg2⟩
    simp only [hb1]
    have gg2 := g_none (g_alloc (g_refl (w.alloc (.cells #[.int .i64 x, .int .i64 y, .int .i64 z] 33)) none) (.cells #[.int .i64 x] 3)) hg2
    have gW2 := g_none hgA gg2
    have q20 := g_cellN gg2 k0
    have q21 := g_cellN gg2 k1
    have q22 := g_cellN gg2 k2
    go_wp2_with fail
    go_step3
    simp only [Exit.then]
    refine fwd_goto ?_
    go_wp2
    refine noGoto_retI ?_
    go_ret2
    exact ⟨rfl, gW2⟩
  | true =>
    cases hb2 : inB 0 255 y with
    | false =>
      clear hr
      go_enter Try.func9, Try.ntmps9
      go_wp2
      refine wp_scope_fwd 0 rfl ?_
      go_wp2_with fail
      refine (none_some _ p M Y v xs hA).mono ?_
      rintro e w1 ⟨rfl, rfl⟩
      go_wp2_with fail
      refine (within1_any 0 7 x _ _ _ (by simp)).mono ?_
      rintro e w2 ⟨rfl, hg2⟩
      simp only [hb1]
      have gg2 := g_none (g_alloc (g_refl (w.alloc (.cells #[.int .i64 x, .int .i64 y, .int .i64 z] 33)) none) (.cells #[.int .i64 x] 3)) hg2
      have gW2 := g_none hgA gg2
      have q20 := g_cellN gg2 k0
      have q21 := g_cellN gg2 k1
      have q22 := g_cellN gg2 k2
      go_wp2_with fail
      refine (within1_any 0 255 y _ _ _ (by simp)).mono ?_
      rintro e w3 ⟨rfl, hg3⟩
      simp only [hb2]
      have gg3 := g_none (g_alloc (g_refl w2 none) (.cells #[.int .i64 y] 3)) hg3
      have gW3 := g_none gW2 gg3
      have q30 := g_cellN gg3 q20
      have q31 := g_cellN gg3 q21
      have q32 := g_cellN gg3 q22
      go_wp2_with fail
      go_step3
      simp only [Exit.then]
      refine fwd_goto ?_
      go_wp2
      refine noGoto_retI ?_
      go_ret2
      exact ⟨rfl, gW3⟩
    | true =>
      have hb3 : inB 1 1048576 z = false := by simpa [rightB, hb1, hb2] using hr
      clear hr
      go_enter Try.func9, Try.ntmps9
      go_wp2
      refine wp_scope_fwd 0 rfl ?_
      go_wp2_with fail
      refine (none_some _ p M Y v xs hA).mono ?_
      rintro e w1 ⟨rfl, rfl⟩
      go_wp2_with fail
      refine (within1_any 0 7 x _ _ _ (by simp)).mono ?_
      rintro e w2 ⟨rfl, hg2⟩
      simp only [hb1]
      have gg2 := g_none (g_alloc (g_refl (w.alloc (.cells #[.int .i64 x, .int .i64 y, .int .i64 z] 33)) none) (.cells #[.int .i64 x] 3)) hg2
      have gW2 := g_none hgA gg2
      have q20 := g_cellN gg2 k0
      have q21 := g_cellN gg2 k1
      have q22 := g_cellN gg2 k2
      go_wp2_with fail
      refine (within1_any 0 255 y _ _ _ (by simp)).mono ?_
      rintro e w3 ⟨rfl, hg3⟩
      simp only [hb2]
      have gg3 := g_none (g_alloc (g_refl w2 none) (.cells #[.int .i64 y] 3)) hg3
      have gW3 := g_none gW2 gg3
      have q30 := g_cellN gg3 q20
      have q31 := g_cellN gg3 q21
      have q32 := g_cellN gg3 q22
      go_wp2_with fail
      refine (within1_any 1 1048576 z _ _ _ (by simp)).mono ?_
      rintro e w4 ⟨rfl, hg4⟩
      simp only [hb3]
      have gg4 := g_none (g_alloc (g_refl w3 none) (.cells #[.int .i64 z] 3)) hg4
      have gW4 := g_none gW3 gg4
      have q40 := g_cellN gg4 q30
      have q41 := g_cellN gg4 q31
      have q42 := g_cellN gg4 q32
      go_wp2_with fail
      go_step3
      simp only [Exit.then]
      refine fwd_goto ?_
      go_wp2
      refine noGoto_retI ?_
      go_ret2
      exact ⟨rfl, gW4⟩

theorem right_parts {x y z : Int} (hr : rightB (x, y, z) = true) : inB 0 7 x = true ∧ inB 0 255 y = true ∧ inB 1 1048576 z = true := by
  simpa [rightB, and_assoc] using hr

theorem push_twice (p : Nat) (M Y : Int) (v : Value) (xs : List T3) (x y z : Int) (w : World) (h : FifoAt w p M Y v xs) (hr : rightB (x, y, z) = true) (ha : 0 ≤ atOf xs x y) :
    Calls Try.prog 9 #[.pointer (some ⟨p, 0, none⟩), .agg #[.int .i64 x, .int .i64 y, .int .i64 z]] w fun e w' => e = .returned (.tuple #[.slice none 0 0, .int .i64 280]) ∧ w.grownBy w' none := by
  have hgA := g_alloc (g_refl w none) (.cells #[.int .i64 x, .int .i64 y, .int .i64 z] 33)
  have bX := Blk.new w [.int .i64 x, .int .i64 y, .int .i64 z] 33
  have hA := h.keptN hgA
  have k0 := bX.cellOf (i := 0) rfl
  have k1 := bX.cellOf (i := 1) rfl
  have k2 := bX.cellOf (i := 2) rfl
  obtain ⟨hb1, hb2, hb3⟩ := right_parts hr
  clear hr
  obtain ⟨a, haa⟩ : ∃ a, a = atOf xs x y := ⟨_, rfl⟩
  rw [← haa] at ha
  go_enter Try.func9, Try.ntmps9
  go_wp2
  refine wp_scope_fwd 0 rfl ?_
  go_wp2_with fail
  refine (none_some _ p M Y v xs hA).mono ?_
  rintro e w1 ⟨rfl, rfl⟩
  go_wp2_with fail
  refine (within1_any 0 7 x _ _ _ (by simp)).mono ?_
  rintro e w2 ⟨rfl, hg2⟩
  simp only [hb1]
  have gg2 := g_none (g_alloc (g_refl (w.alloc (.cells #[.int .i64 x, .int .i64 y, .int .i64 z] 33)) none) (.cells #[.int .i64 x] 3)) hg2
  have gW2 := g_none hgA gg2
  have q20 := g_cellN gg2 k0
  have q21 := g_cellN gg2 k1
  have q22 := g_cellN gg2 k2
  go_wp2_with fail
  refine (within1_any 0 255 y _ _ _ (by simp)).mono ?_
  rintro e w3 ⟨rfl, hg3⟩
  simp only [hb2]
  have gg3 := g_none (g_alloc (g_refl w2 none) (.cells #[.int .i64 y] 3)) hg3
  have gW3 := g_none gW2 gg3
  have q30 := g_cellN gg3 q20
  have q31 := g_cellN gg3 q21
  have q32 := g_cellN gg3 q22
  go_wp2_with fail
  refine (within1_any 1 1048576 z _ _ _ (by simp)).mono ?_
  rintro e w4 ⟨rfl, hg4⟩
  simp only [hb3]
  have gg4 := g_none (g_alloc (g_refl w3 none) (.cells #[.int .i64 z] 3)) hg4
  have gW4 := g_none gW3 gg4
  have q40 := g_cellN gg4 q30
  have q41 := g_cellN gg4 q31
  have q42 := g_cellN gg4 q32
  go_wp2_with fail
  refine (at_any w4 p M Y v xs x y (h.keptN gW4)).mono ?_
  rintro e w5 ⟨rfl, hg5⟩
  simp only [← haa]
  go_wp2_with fail
  go_step3
  simp only [Exit.then]
  refine fwd_goto ?_
  go_wp2
  refine noGoto_retI ?_
  go_ret2
  exact ⟨rfl, g_none gW4 hg5⟩

theorem push_ok (p : Nat) (M Y : Int) (v : Value) (xs : List T3) (x y z : Int) (hG : Good xs) (hx : xs.length < 1000) (w : World) (h : FifoAt w p M Y v xs) (hr : rightB (x, y, z) = true) (ha : atOf xs x y < 0) :
    Calls Try.prog 9 #[.pointer (some ⟨p, 0, none⟩), .agg #[.int .i64 x, .int .i64 y, .int .i64 z]] w fun e w' => ∃ out v', e = .returned (.tuple #[out, .int .i64 0]) ∧ FifoAt w' p M Y v' ((xs ++ [(x, y, z)]).drop (lvN M Y (xs ++ [(x, y, z)]))) ∧
      w'.ownsRow w.heap.size 33 3 out (lvN M Y (xs ++ [(x, y, z)])) (flat3 ((xs ++ [(x, y, z)]).take (lvN M Y (xs ++ [(x, y, z)])))) ∧ w.grownBy w' (some p) ∧ (∀ r, out.ownBlock = some r → v'.ownBlock ≠ some r) ∧ (∀ r, v'.ownBlock = some r → w.heap.size ≤ r ∧ r < w'.heap.size) := by
  have hgA := g_alloc (g_refl w none) (.cells #[.int .i64 x, .int .i64 y, .int .i64 z] 33)
  have bX := Blk.new w [.int .i64 x, .int .i64 y, .int .i64 z] 33
  have hA := h.keptN hgA
  have k0 := bX.cellOf (i := 0) rfl
  have k1 := bX.cellOf (i := 1) rfl
  have k2 := bX.cellOf (i := 2) rfl
  obtain ⟨hb1, hb2, hb3⟩ := right_parts hr
  have hGy : Good (xs ++ [(x, y, z)]) := fun t ht => by
    rcases List.mem_append.1 ht with ht | ht
    · exact hG t ht
    · simp at ht; subst ht
      simp only [inB, Bool.and_eq_true, decide_eq_true_eq] at hb3
      show 0 ≤ z ∧ z ≤ 1048576
      omega
  clear hr
  obtain ⟨a, haa⟩ : ∃ a, a = atOf xs x y := ⟨_, rfl⟩
  rw [← haa] at ha
  go_enter Try.func9, Try.ntmps9
  go_wp2
  refine wp_scope_fwd 0 rfl ?_
  go_wp2_with fail
  refine (none_some _ p M Y v xs hA).mono ?_
  rintro e w1 ⟨rfl, rfl⟩
  go_wp2_with fail
  refine (within1_any 0 7 x _ _ _ (by simp)).mono ?_
  rintro e w2 ⟨rfl, hg2⟩
  simp only [hb1]
  have gg2 := g_none (g_alloc (g_refl (w.alloc (.cells #[.int .i64 x, .int .i64 y, .int .i64 z] 33)) none) (.cells #[.int .i64 x] 3)) hg2
  have gW2 := g_none hgA gg2
  have q20 := g_cellN gg2 k0
  have q21 := g_cellN gg2 k1
  have q22 := g_cellN gg2 k2
  go_wp2_with fail
  refine (within1_any 0 255 y _ _ _ (by simp)).mono ?_
  rintro e w3 ⟨rfl, hg3⟩
  simp only [hb2]
  have gg3 := g_none (g_alloc (g_refl w2 none) (.cells #[.int .i64 y] 3)) hg3
  have gW3 := g_none gW2 gg3
  have q30 := g_cellN gg3 q20
  have q31 := g_cellN gg3 q21
  have q32 := g_cellN gg3 q22
  go_wp2_with fail
  refine (within1_any 1 1048576 z _ _ _ (by simp)).mono ?_
  rintro e w4 ⟨rfl, hg4⟩
  simp only [hb3]
  have gg4 := g_none (g_alloc (g_refl w3 none) (.cells #[.int .i64 z] 3)) hg4
  have gW4 := g_none gW3 gg4
  have q40 := g_cellN gg4 q30
  have q41 := g_cellN gg4 q31
  have q42 := g_cellN gg4 q32
  go_wp2_with fail
  refine (at_any w4 p M Y v xs x y (h.keptN gW4)).mono ?_
  rintro e w5 ⟨rfl, hg5⟩
  simp only [← haa]
  have gW5 := g_none gW4 hg5
  have h5 := h.keptN gW5
  have q50 := g_cellN hg5 q40
  have q51 := g_cellN hg5 q41
  have q52 := g_cellN hg5 q42
  obtain ⟨a0, cap0, hv, _⟩ := id h.2.1
  subst hv
  obtain ⟨c0, c1, c2, c3, hpl⟩ := h5.facts
  have hL5 := h5.2.1.keptN (g_drewN (g_refl w5 none) rfl)
  have HL := hid hL5
  have H5 := hid h5
  clear hL5 h5 h hA
  go_wp2_with fail
  go_region_with (first | (go_at_call 24; refine (behind_any _ xs x y z hx _ HL.out).mono ?_; rintro e w6 ⟨v6, rfl, hr6, hg6⟩; obtain ⟨g6, cap6, rfl⟩ := ownsRow_succ hr6; have hb6 := (H5.out.1.keptN (g_drewN (g_refl w5 none) rfl)).keptN hg6; have f6 := hb6.frozen 2; have c6 := hb6.cellOf (i := 2) rfl) | fail)
  all_goals
    have hln : (xs ++ [(x, y, z)]).length = xs.length + 1 := by simp
    have hg6b : w5.heap.size ≤ g6 ∧ g6 < w6.heap.size := row_base hr6 g6 rfl
    have hs5 : w.heap.size ≤ w5.heap.size := gW5.size
    have hr7 := hr6.kept (grownBy_setCell'' w6 p 2 (.slice (some ⟨g6, 0, none⟩) (xs.length + 1) cap6)) (.inr (by simp [Value.ownBlock]; omega))
    have h7 : FifoAt (w6.setCell ⟨p, 2, none⟩ (.slice (some ⟨g6, 0, none⟩) (xs.length + 1) cap6)) p M Y (.slice (some ⟨g6, 0, none⟩) (xs ++ [(x, y, z)]).length cap6) (xs ++ [(x, y, z)]) := by
      rw [hln]
      refine ⟨hb6.set 2 _, L3.own (by rw [hln]; omega) (by rw [hln]; exact hr7), by simp [Value.ownBlock]; omega⟩
    go_wp2_with fail
    refine (left_any p M Y g6 cap6 (xs ++ [(x, y, z)]) (by simp) hGy _ h7 (by simp [World.setCell]; omega)).mono ?_
    rintro e w8 ⟨out, rfl, h8, hr8, hg8⟩
    obtain ⟨a8, n8, c8, rfl⟩ := row_slice hr8
    go_wp2_with fail
    refine fwd_retI ?_
    go_ret2
    have hgF : w.grownBy (w6.setCell ⟨p, 2, none⟩ (.slice (some ⟨g6, 0, none⟩) (xs.length + 1) cap6)) (some p) :=
      g_trans (g_weak (g_none (g_none gW5 (g_drewN (g_refl w5 none) rfl)) hg6)) (grownBy_setCell'' w6 p 2 _) (fun r e => by cases e; exact .inl rfl)
    refine ⟨_, _, rfl, h8, behindR hr8 w.heap.size hgF.size, g_same hgF hg8, fun r hr => ?_, fun r hr => ?_⟩
    · have h9 := (row_base hr8 r hr).1
      rw [vAt_block]
      have hs6 : (w6.setCell ⟨p, 2, none⟩ (.slice (some ⟨g6, 0, none⟩) (xs.length + 1) cap6)).heap.size = w6.heap.size := by simp [World.setCell]
      intro e
      cases e
      omega
    · rw [vAt_block] at hr
      cases hr
      have hs8 := hg8.size
      have hs6 : (w6.setCell ⟨p, 2, none⟩ (.slice (some ⟨g6, 0, none⟩) (xs.length + 1) cap6)).heap.size = w6.heap.size := by simp [World.setCell]
      omega

theorem pushE_cases (xs : List T3) (x y z : Int) : (rightB (x, y, z) = false ∧ pushE xs (x, y, z) = 2) ∨ (rightB (x, y, z) = true ∧ 0 ≤ atOf xs x y ∧ pushE xs (x, y, z) = 280) ∨ (rightB (x, y, z) = true ∧ atOf xs x y < 0 ∧ pushE xs (x, y, z) = 0) := by
  cases hr : rightB (x, y, z) with
  | false => exact .inl ⟨rfl, by simp [pushE, hr]⟩
  | true =>
    by_cases ha : 0 ≤ atOf xs x y
    · exact .inr (.inl ⟨rfl, ha, by simp [pushE, hr, ha]⟩)
    · exact .inr (.inr ⟨rfl, by omega, by simp [pushE, hr, ha]⟩)

/-- A push, whatever is pushed. -/
theorem push_any (p : Nat) (M Y : Int) (v : Value) (xs : List T3) (x y z : Int) (hG : Good xs) (hx : xs.length < 1000) (w : World) (h : FifoAt w p M Y v xs) :
    Calls Try.prog 9 #[.pointer (some ⟨p, 0, none⟩), .agg #[.int .i64 x, .int .i64 y, .int .i64 z]] w fun e w' => ∃ a n c v', e = .returned (.tuple #[.slice a n c, .int .i64 (pushE xs (x, y, z))]) ∧ FifoAt w' p M Y v' (pushL M Y xs (x, y, z)) ∧
      w'.ownsRow w.heap.size 33 3 (.slice a n c) (pushO M Y xs (x, y, z)).length (flat3 (pushO M Y xs (x, y, z))) ∧ w.grownBy w' (some p) ∧ (∀ r, (Value.slice a n c).ownBlock = some r → v'.ownBlock ≠ some r) ∧ ((pushE xs (x, y, z) ≠ 0 ∧ v' = v) ∨ ∀ r, v'.ownBlock = some r → w.heap.size ≤ r ∧ r < w'.heap.size) := by
  rcases pushE_cases xs x y z with ⟨hr, he⟩ | ⟨hr, ha, he⟩ | ⟨hr, ha, he⟩
  · refine (push_wrong p M Y v xs x y z w h hr).mono ?_
    rintro e w' ⟨rfl, hg⟩
    refine ⟨none, 0, 0, v, by rw [he], ?_, ?_, g_weak hg, fun r hr => by simp [Value.ownBlock] at hr, .inl ⟨by rw [he]; decide, rfl⟩⟩
    · simpa [pushL, he] using h.keptN hg
    · simpa [pushO, he, flat3] using World.ownsRow_nil _ _ _ _
  · refine (push_twice p M Y v xs x y z w h hr ha).mono ?_
    rintro e w' ⟨rfl, hg⟩
    refine ⟨none, 0, 0, v, by rw [he], ?_, ?_, g_weak hg, fun r hr => by simp [Value.ownBlock] at hr, .inl ⟨by rw [he]; decide, rfl⟩⟩
    · simpa [pushL, he] using h.keptN hg
    · simpa [pushO, he, flat3] using World.ownsRow_nil _ _ _ _
  · refine (push_ok p M Y v xs x y z hG hx w h hr ha).mono ?_
    rintro e w' ⟨out, v', rfl, h1, h2, h3, h4, h5⟩
    obtain ⟨a, n, c, rfl⟩ := row_slice h2
    refine ⟨a, n, c, v', by rw [he], by rw [pushL, if_pos he]; exact h1, ?_, h3, h4, .inr h5⟩
    have hl : (pushO M Y xs (x, y, z)).length = lvN M Y (xs ++ [(x, y, z)]) := by
      rw [pushO, if_pos he, List.length_take]
      have := lvN_le M Y (xs ++ [(x, y, z)])
      omega
    rw [hl, pushO, if_pos he]
    exact h2
end Go.Proofs.Ytjjkhbipeehljaa
