/-
  SizeHolds: the plain laws of needs, and the walk.
-/
import Derived.Test.YtfgiokaohbpeiaaSizeFits
namespace Go.Proofs.Ytfgiokaohbpeiaa
open Go.RowKit

theorem class_at (n : Int) (h : 0 ≤ n) : (n ≤ 16 ∧ classV n = 0) ∨ (16 < n ∧ n ≤ 32 ∧ classV n = 1) ∨ (32 < n ∧ n ≤ 48 ∧ classV n = 2) ∨ (48 < n ∧ n ≤ 64 ∧ classV n = 3) ∨ (64 < n ∧ n ≤ 96 ∧ classV n = 4) ∨ (96 < n ∧ n ≤ 128 ∧ classV n = 5) ∨ (128 < n ∧ n ≤ 192 ∧ classV n = 6) ∨ (192 < n ∧ n ≤ 256 ∧ classV n = 7) ∨ (256 < n ∧ classV n = -1) := by
  by_cases h0 : n ≤ 16
  · exact .inl ⟨h0, by simp [classV, pays, List.findIdx?_cons, cB, h, h0]⟩
  by_cases h1 : n ≤ 32
  · exact .inr (.inl ⟨by omega, h1, by simp [classV, pays, List.findIdx?_cons, cB, h, h0, h1]⟩)
  by_cases h2 : n ≤ 48
  · exact .inr (.inr (.inl ⟨by omega, h2, by simp [classV, pays, List.findIdx?_cons, cB, h, h0, h1, h2]⟩))
  by_cases h3 : n ≤ 64
  · exact .inr (.inr (.inr (.inl ⟨by omega, h3, by simp [classV, pays, List.findIdx?_cons, cB, h, h0, h1, h2, h3]⟩)))
  by_cases h4 : n ≤ 96
  · exact .inr (.inr (.inr (.inr (.inl ⟨by omega, h4, by simp [classV, pays, List.findIdx?_cons, cB, h, h0, h1, h2, h3, h4]⟩))))
  by_cases h5 : n ≤ 128
  · exact .inr (.inr (.inr (.inr (.inr (.inl ⟨by omega, h5, by simp [classV, pays, List.findIdx?_cons, cB, h, h0, h1, h2, h3, h4, h5]⟩)))))
  by_cases h6 : n ≤ 192
  · exact .inr (.inr (.inr (.inr (.inr (.inr (.inl ⟨by omega, h6, by simp [classV, pays, List.findIdx?_cons, cB, h, h0, h1, h2, h3, h4, h5, h6]⟩))))))
  by_cases h7 : n ≤ 256
  · exact .inr (.inr (.inr (.inr (.inr (.inr (.inr (.inl ⟨by omega, h7, by simp [classV, pays, List.findIdx?_cons, cB, h, h0, h1, h2, h3, h4, h5, h6, h7]⟩)))))))
  · exact .inr (.inr (.inr (.inr (.inr (.inr (.inr (.inr ⟨by omega, by simp [classV, pays, List.findIdx?_cons, cB, h, h0, h1, h2, h3, h4, h5, h6, h7]⟩)))))))

theorem nn_at (a : Nat) : (a = 0 ∧ nn a = 1) ∨ (1 ≤ a ∧ nn a = a) := by
  unfold nn
  by_cases h : a < 1
  · exact .inl ⟨by omega, by simp [h]⟩
  · exact .inr ⟨by omega, by simp [h]⟩

theorem many_at (n : Int) (h1 : 1 ≤ n) : 1 ≤ manyV n 256 ∧ (manyV n 256 - 1) * 256 < n ∧ n ≤ manyV n 256 * 256 := by
  unfold manyV
  by_cases h : n % 256 = 0
  · rw [if_pos h]; omega
  · rw [if_neg h]; omega

/-- The greater the size, the greater the charge. -/
theorem charge_mono (a b m : Nat) (hab : a ≤ b) (ha : okB a m = true) (hb : okB b m = true) : ndH a m ≤ ndH b m := by
  have na := nn_at a
  have nb := nn_at b
  have hn : (nn a : Int) ≤ nn b := by omega
  have h1 : (1 : Int) ≤ nn a := by omega
  obtain ⟨A, hA⟩ : ∃ A : Int, A = (nn a : Int) := ⟨_, rfl⟩
  obtain ⟨B, hB⟩ : ∃ B : Int, B = (nn b : Int) := ⟨_, rfl⟩
  have hSa : smB a m = (decide (0 ≤ classV A) && decide (m ≤ 16)) := by rw [hA]; rfl
  have hSb : smB b m = (decide (0 ≤ classV B) && decide (m ≤ 16)) := by rw [hB]; rfl
  have hHa : ndH a m = if smB a m then pay (classV A).toNat else manyV A 256 * 256 := by simp [ndH, ha, hA]
  have hHb : ndH b m = if smB b m then pay (classV B).toNat else manyV B 256 * 256 := by simp [ndH, hb, hB]
  rw [hHa, hHb, hSa, hSb]
  rw [← hA, ← hB] at hn
  rw [← hA] at h1
  clear hHa hHb hSa hSb hA hB na nb ha hb hab
  have ca := class_at A (by omega)
  have cb := class_at B (by omega)
  have ma := many_at A (by omega)
  have mb := many_at B (by omega)
  obtain ⟨X, hX⟩ : ∃ X, X = manyV A 256 := ⟨_, rfl⟩
  obtain ⟨Y, hY⟩ : ∃ Y, Y = manyV B 256 := ⟨_, rfl⟩
  rw [← hX] at ma ⊢
  rw [← hY] at mb ⊢
  clear hX hY
  by_cases hm : m ≤ 16
  · rcases ca with ⟨_, e⟩ | ⟨_, _, e⟩ | ⟨_, _, e⟩ | ⟨_, _, e⟩ | ⟨_, _, e⟩ | ⟨_, _, e⟩ | ⟨_, _, e⟩ | ⟨_, _, e⟩ | ⟨_, e⟩ <;>
    rcases cb with ⟨_, e'⟩ | ⟨_, _, e'⟩ | ⟨_, _, e'⟩ | ⟨_, _, e'⟩ | ⟨_, _, e'⟩ | ⟨_, _, e'⟩ | ⟨_, _, e'⟩ | ⟨_, _, e'⟩ | ⟨_, e'⟩ <;>
    (rw [e, e']; simp [hm, pay, pays]) <;> omega
  · simp [hm]
    omega

/-- What the small one has. -/
theorem small_at (a m : Nat) (h : smB a m = true) : m ≤ 16 ∧ ∃ k : Nat, k < 8 ∧ classV (nn a) = k ∧ (a : Int) ≤ pay k ∧ (0 < k → 1 < a ∧ pay (k - 1) < a) := by
  simp [smB] at h
  have na := nn_at a
  refine ⟨h.2, ?_⟩
  have h0 := h.1
  have ca := class_at (nn a) (by omega)
  rcases ca with ⟨_, e⟩ | ⟨_, _, e⟩ | ⟨_, _, e⟩ | ⟨_, _, e⟩ | ⟨_, _, e⟩ | ⟨_, _, e⟩ | ⟨_, _, e⟩ | ⟨_, _, e⟩ | ⟨_, e⟩
  · exact ⟨0, by decide, e, by show (a : Int) ≤ 16; omega, fun h => by omega⟩
  · exact ⟨1, by decide, e, by show (a : Int) ≤ 32; omega, fun h => ⟨by omega, by show (16 : Int) < a; omega⟩⟩
  · exact ⟨2, by decide, e, by show (a : Int) ≤ 48; omega, fun h => ⟨by omega, by show (32 : Int) < a; omega⟩⟩
  · exact ⟨3, by decide, e, by show (a : Int) ≤ 64; omega, fun h => ⟨by omega, by show (48 : Int) < a; omega⟩⟩
  · exact ⟨4, by decide, e, by show (a : Int) ≤ 96; omega, fun h => ⟨by omega, by show (64 : Int) < a; omega⟩⟩
  · exact ⟨5, by decide, e, by show (a : Int) ≤ 128; omega, fun h => ⟨by omega, by show (96 : Int) < a; omega⟩⟩
  · exact ⟨6, by decide, e, by show (a : Int) ≤ 192; omega, fun h => ⟨by omega, by show (128 : Int) < a; omega⟩⟩
  · exact ⟨7, by decide, e, by show (a : Int) ≤ 256; omega, fun h => ⟨by omega, by show (192 : Int) < a; omega⟩⟩
  · rw [e] at h0; omega


set_option maxRecDepth 100000 in
set_option maxHeartbeats 4000000 in
theorem holds_err (a b m : Nat) (ha : a < 18446744073709551616) (hb : b < 18446744073709551616) (hm : m < 18446744073709551616) (s : Bool) (c p g e : Int)
    (H1 : Hid (∀ w, Calls Try.prog 19 #[.int .u64 a, .int .u64 m] w fun e w' => e = .returned (.tuple #[.agg #[.bool false, .int .i64 0, .int .i64 0, .int .i64 0], .int .i64 2]) ∧ w.grownBy w' none))
    (H2 : Hid (∀ w, Calls Try.prog 19 #[.int .u64 b, .int .u64 m] w fun x w' => x = .returned (.tuple #[.agg #[.bool s, .int .i64 c, .int .i64 p, .int .i64 g], .int .i64 e]) ∧ w.grownBy w' none))
    (w : World) : Calls Try.prog 7 #[.int .u64 a, .int .u64 b, .int .u64 m] w fun e w' => e = .returned (.bool true) ∧ w.grownBy w' none := by
  go_enter Try.func7, Try.ntmps7
  go_wp2_with fail
  refine (H1.out _).mono ?_
  rintro e w1 ⟨rfl, g1⟩
  have gs1 := g_alloc (g_refl w1 none) (.cells #[.bool false, .int .i64 0, .int .i64 0, .int .i64 0] 33)
  have b1 := Blk.new w1 [.bool false, .int .i64 0, .int .i64 0, .int .i64 0] 33
  have gg1 := g_none g1 gs1
  go_wp2_with fail
  refine (H2.out _).mono ?_
  rintro e w2 ⟨rfl, g2⟩
  have gs2 := g_alloc (g_refl w2 none) (.cells #[.bool s, .int .i64 c, .int .i64 p, .int .i64 g] 33)
  replace b1 := (b1.keptN g2).keptN gs2
  have b2 := Blk.new w2 [.bool s, .int .i64 c, .int .i64 p, .int .i64 g] 33
  have gg2 := g_none (g_none gg1 g2) gs2
  go_wp2_with (first
    | (go_at_call 13; refine (num_any _ _).mono ?_; rintro e _ ⟨rfl, rfl⟩)
    | (go_at_call 14; refine (works_true _).mono ?_; rintro e w5 ⟨rfl, g5⟩))
  go_ret
  exact ⟨rfl, g_none gg2 g5⟩

set_option maxRecDepth 100000 in
set_option maxHeartbeats 4000000 in
theorem holds_small0_1 (a b m : Nat) (ha : a < 18446744073709551616) (hb : b < 18446744073709551616) (hm : m < 18446744073709551616) (hm2 : m ≤ 16) (G : Int) (hG : G = 16) (h1 : (a : Int) ≤ G) (s : Bool) (c p g e : Int)
    (H1 : Hid (∀ w, Calls Try.prog 19 #[.int .u64 a, .int .u64 m] w fun e w' => e = .returned (.tuple #[.agg #[.bool true, .int .i64 0, .int .i64 0, .int .i64 G], .int .i64 0]) ∧ w.grownBy w' none))
    (H2 : Hid (∀ w, Calls Try.prog 19 #[.int .u64 b, .int .u64 m] w fun x w' => x = .returned (.tuple #[.agg #[.bool s, .int .i64 c, .int .i64 p, .int .i64 g], .int .i64 e]) ∧ w.grownBy w' none))
    (h2 : e = 2) (w : World) : Calls Try.prog 7 #[.int .u64 a, .int .u64 b, .int .u64 m] w fun e w' => e = .returned (.bool true) ∧ w.grownBy w' none := by
  subst h2
  have H3 := hid fun w => payload_ok 0 (by decide) w
  rw [show pay 0 = G by rw [hG]; rfl] at H3
  have H4 := hid fun w => payload_no (-1) (by decide) w
  have hGb : 16 ≤ G ∧ G ≤ 256 := by omega
  clear hG
  go_enter Try.func7, Try.ntmps7
  go_wp2_with fail
  refine (H1.out _).mono ?_
  rintro e w1 ⟨rfl, g1⟩
  have gs1 := g_alloc (g_refl w1 none) (.cells #[.bool true, .int .i64 0, .int .i64 0, .int .i64 G] 33)
  have b1 := Blk.new w1 [.bool true, .int .i64 0, .int .i64 0, .int .i64 G] 33
  have gg1 := g_none g1 gs1
  go_wp2_with fail
  refine (H2.out _).mono ?_
  rintro e w2 ⟨rfl, g2⟩
  have gs2 := g_alloc (g_refl w2 none) (.cells #[.bool s, .int .i64 c, .int .i64 p, .int .i64 g] 33)
  replace b1 := (b1.keptN g2).keptN gs2
  have b2 := Blk.new w2 [.bool s, .int .i64 c, .int .i64 p, .int .i64 g] 33
  have gg2 := g_none (g_none gg1 g2) gs2
  have c0 := b1.cellOf (i := 0) rfl
  have d0 := b2.cellOf (i := 0) rfl
  have c1 := b1.cellOf (i := 1) rfl
  have d1 := b2.cellOf (i := 1) rfl
  have c2 := b1.cellOf (i := 2) rfl
  have d2 := b2.cellOf (i := 2) rfl
  have c3 := b1.cellOf (i := 3) rfl
  have d3 := b2.cellOf (i := 3) rfl
  go_wp2_with (go_at_call 13; refine (num_any _ _).mono ?_; rintro e _ ⟨rfl, rfl⟩)
  refine (H3.out _).mono ?_
  rintro e w3 ⟨rfl, g3⟩
  replace b1 := b1.keptN g3
  replace b2 := b2.keptN g3
  have gg3 := g_none gg2 g3
  have c0 := b1.cellOf (i := 0) rfl
  have d0 := b2.cellOf (i := 0) rfl
  have c1 := b1.cellOf (i := 1) rfl
  have d1 := b2.cellOf (i := 1) rfl
  have c2 := b1.cellOf (i := 2) rfl
  have d2 := b2.cellOf (i := 2) rfl
  have c3 := b1.cellOf (i := 3) rfl
  have d3 := b2.cellOf (i := 3) rfl
  go_wp2_with (go_at_call 13; refine (num_any _ _).mono ?_; rintro e _ ⟨rfl, rfl⟩)
  refine (H4.out _).mono ?_
  rintro e w4 ⟨rfl, g4⟩
  replace b1 := b1.keptN g4
  replace b2 := b2.keptN g4
  have gg4 := g_none gg3 g4
  have c0 := b1.cellOf (i := 0) rfl
  have d0 := b2.cellOf (i := 0) rfl
  have c1 := b1.cellOf (i := 1) rfl
  have d1 := b2.cellOf (i := 1) rfl
  have c2 := b1.cellOf (i := 2) rfl
  have d2 := b2.cellOf (i := 2) rfl
  have c3 := b1.cellOf (i := 3) rfl
  have d3 := b2.cellOf (i := 3) rfl
  go_wp2_with (first
    | (go_at_call 13; refine (num_any _ _).mono ?_; rintro e _ ⟨rfl, rfl⟩)
    | (go_at_call 14; refine (works_true _).mono ?_; rintro e w5 ⟨rfl, g5⟩))
  go_ret
  exact ⟨rfl, g_none gg4 g5⟩

set_option maxRecDepth 100000 in
set_option maxHeartbeats 4000000 in
theorem holds_smallS_1 (a b m : Nat) (ha : a < 18446744073709551616) (hb : b < 18446744073709551616) (hm : m < 18446744073709551616) (hm2 : m ≤ 16) (G : Int) (hGb : 16 ≤ G ∧ G ≤ 256) (h1 : (a : Int) ≤ G) (C R : Int) (hC : 1 ≤ C ∧ C ≤ 7) (hR : 16 ≤ R ∧ R ≤ 256) (hR2 : R < a) (ha1 : 1 < a) (s : Bool) (c p g e : Int)
    (H1 : Hid (∀ w, Calls Try.prog 19 #[.int .u64 a, .int .u64 m] w fun e w' => e = .returned (.tuple #[.agg #[.bool true, .int .i64 C, .int .i64 0, .int .i64 G], .int .i64 0]) ∧ w.grownBy w' none))
    (H2 : Hid (∀ w, Calls Try.prog 19 #[.int .u64 b, .int .u64 m] w fun x w' => x = .returned (.tuple #[.agg #[.bool s, .int .i64 c, .int .i64 p, .int .i64 g], .int .i64 e]) ∧ w.grownBy w' none))
    (H3 : Hid (∀ w, Calls Try.prog 9 #[.int .i64 C] w fun e w' => e = .returned (.tuple #[.int .i64 G, .int .i64 0]) ∧ w.grownBy w' none))
    (H4 : Hid (∀ w, Calls Try.prog 9 #[.int .i64 (C - 1)] w fun e w' => e = .returned (.tuple #[.int .i64 R, .int .i64 0]) ∧ w.grownBy w' none))
    (h2 : e = 2) (w : World) : Calls Try.prog 7 #[.int .u64 a, .int .u64 b, .int .u64 m] w fun e w' => e = .returned (.bool true) ∧ w.grownBy w' none := by
  subst h2
  go_enter Try.func7, Try.ntmps7
  go_wp2_with fail
  refine (H1.out _).mono ?_
  rintro e w1 ⟨rfl, g1⟩
  have gs1 := g_alloc (g_refl w1 none) (.cells #[.bool true, .int .i64 C, .int .i64 0, .int .i64 G] 33)
  have b1 := Blk.new w1 [.bool true, .int .i64 C, .int .i64 0, .int .i64 G] 33
  have gg1 := g_none g1 gs1
  go_wp2_with fail
  refine (H2.out _).mono ?_
  rintro e w2 ⟨rfl, g2⟩
  have gs2 := g_alloc (g_refl w2 none) (.cells #[.bool s, .int .i64 c, .int .i64 p, .int .i64 g] 33)
  replace b1 := (b1.keptN g2).keptN gs2
  have b2 := Blk.new w2 [.bool s, .int .i64 c, .int .i64 p, .int .i64 g] 33
  have gg2 := g_none (g_none gg1 g2) gs2
  have c0 := b1.cellOf (i := 0) rfl
  have d0 := b2.cellOf (i := 0) rfl
  have c1 := b1.cellOf (i := 1) rfl
  have d1 := b2.cellOf (i := 1) rfl
  have c2 := b1.cellOf (i := 2) rfl
  have d2 := b2.cellOf (i := 2) rfl
  have c3 := b1.cellOf (i := 3) rfl
  have d3 := b2.cellOf (i := 3) rfl
  go_wp2_with (go_at_call 13; refine (num_any _ _).mono ?_; rintro e _ ⟨rfl, rfl⟩)
  refine (H3.out _).mono ?_
  rintro e w3 ⟨rfl, g3⟩
  replace b1 := b1.keptN g3
  replace b2 := b2.keptN g3
  have gg3 := g_none gg2 g3
  have c0 := b1.cellOf (i := 0) rfl
  have d0 := b2.cellOf (i := 0) rfl
  have c1 := b1.cellOf (i := 1) rfl
  have d1 := b2.cellOf (i := 1) rfl
  have c2 := b1.cellOf (i := 2) rfl
  have d2 := b2.cellOf (i := 2) rfl
  have c3 := b1.cellOf (i := 3) rfl
  have d3 := b2.cellOf (i := 3) rfl
  go_wp2_with (go_at_call 13; refine (num_any _ _).mono ?_; rintro e _ ⟨rfl, rfl⟩)
  refine (H4.out _).mono ?_
  rintro e w4 ⟨rfl, g4⟩
  replace b1 := b1.keptN g4
  replace b2 := b2.keptN g4
  have gg4 := g_none gg3 g4
  have c0 := b1.cellOf (i := 0) rfl
  have d0 := b2.cellOf (i := 0) rfl
  have c1 := b1.cellOf (i := 1) rfl
  have d1 := b2.cellOf (i := 1) rfl
  have c2 := b1.cellOf (i := 2) rfl
  have d2 := b2.cellOf (i := 2) rfl
  have c3 := b1.cellOf (i := 3) rfl
  have d3 := b2.cellOf (i := 3) rfl
  go_wp2_with (first
    | (go_at_call 13; refine (num_any _ _).mono ?_; rintro e _ ⟨rfl, rfl⟩)
    | (go_at_call 14; refine (works_true _).mono ?_; rintro e w5 ⟨rfl, g5⟩))
  go_ret
  exact ⟨rfl, g_none gg4 g5⟩

set_option maxRecDepth 100000 in
set_option maxHeartbeats 4000000 in
theorem holds_large_1a (a b m : Nat) (ha : a < 18446744073709551616) (hb : b < 18446744073709551616) (hm : m < 18446744073709551616) (h1 : (a : Int) ≤ 256) (s : Bool) (c p g e : Int)
    (H1 : Hid (∀ w, Calls Try.prog 19 #[.int .u64 a, .int .u64 m] w fun e w' => e = .returned (.tuple #[.agg #[.bool false, .int .i64 0, .int .i64 1, .int .i64 256], .int .i64 0]) ∧ w.grownBy w' none))
    (H2 : Hid (∀ w, Calls Try.prog 19 #[.int .u64 b, .int .u64 m] w fun x w' => x = .returned (.tuple #[.agg #[.bool s, .int .i64 c, .int .i64 p, .int .i64 g], .int .i64 e]) ∧ w.grownBy w' none))
    (h2 : e = 2) (w : World) : Calls Try.prog 7 #[.int .u64 a, .int .u64 b, .int .u64 m] w fun e w' => e = .returned (.bool true) ∧ w.grownBy w' none := by
  subst h2
  go_enter Try.func7, Try.ntmps7
  go_wp2_with fail
  refine (H1.out _).mono ?_
  rintro e w1 ⟨rfl, g1⟩
  have gs1 := g_alloc (g_refl w1 none) (.cells #[.bool false, .int .i64 0, .int .i64 1, .int .i64 256] 33)
  have b1 := Blk.new w1 [.bool false, .int .i64 0, .int .i64 1, .int .i64 256] 33
  have gg1 := g_none g1 gs1
  go_wp2_with fail
  refine (H2.out _).mono ?_
  rintro e w2 ⟨rfl, g2⟩
  have gs2 := g_alloc (g_refl w2 none) (.cells #[.bool s, .int .i64 c, .int .i64 p, .int .i64 g] 33)
  replace b1 := (b1.keptN g2).keptN gs2
  have b2 := Blk.new w2 [.bool s, .int .i64 c, .int .i64 p, .int .i64 g] 33
  have gg2 := g_none (g_none gg1 g2) gs2
  have c0 := b1.cellOf (i := 0) rfl
  have d0 := b2.cellOf (i := 0) rfl
  have c1 := b1.cellOf (i := 1) rfl
  have d1 := b2.cellOf (i := 1) rfl
  have c2 := b1.cellOf (i := 2) rfl
  have d2 := b2.cellOf (i := 2) rfl
  have c3 := b1.cellOf (i := 3) rfl
  have d3 := b2.cellOf (i := 3) rfl
  go_wp2_with (first
    | (go_at_call 13; refine (num_any _ _).mono ?_; rintro e _ ⟨rfl, rfl⟩)
    | (go_at_call 14; refine (works_true _).mono ?_; rintro e w5 ⟨rfl, g5⟩))
  go_ret
  exact ⟨rfl, g_none gg2 g5⟩

set_option maxRecDepth 100000 in
set_option maxHeartbeats 4000000 in
theorem holds_large_1b (a b m : Nat) (ha : a < 18446744073709551616) (hb : b < 18446744073709551616) (hm : m < 18446744073709551616) (P : Int) (hP : 1 < P) (hP3 : P ≤ 1024) (hP2 : 256 * P - 256 < (a : Int)) (h1 : (a : Int) ≤ 256 * P) (s : Bool) (c p g e : Int)
    (H1 : Hid (∀ w, Calls Try.prog 19 #[.int .u64 a, .int .u64 m] w fun e w' => e = .returned (.tuple #[.agg #[.bool false, .int .i64 0, .int .i64 P, .int .i64 (256 * P)], .int .i64 0]) ∧ w.grownBy w' none))
    (H2 : Hid (∀ w, Calls Try.prog 19 #[.int .u64 b, .int .u64 m] w fun x w' => x = .returned (.tuple #[.agg #[.bool s, .int .i64 c, .int .i64 p, .int .i64 g], .int .i64 e]) ∧ w.grownBy w' none))
    (h2 : e = 2) (w : World) : Calls Try.prog 7 #[.int .u64 a, .int .u64 b, .int .u64 m] w fun e w' => e = .returned (.bool true) ∧ w.grownBy w' none := by
  subst h2
  go_enter Try.func7, Try.ntmps7
  go_wp2_with fail
  refine (H1.out _).mono ?_
  rintro e w1 ⟨rfl, g1⟩
  have gs1 := g_alloc (g_refl w1 none) (.cells #[.bool false, .int .i64 0, .int .i64 P, .int .i64 (256 * P)] 33)
  have b1 := Blk.new w1 [.bool false, .int .i64 0, .int .i64 P, .int .i64 (256 * P)] 33
  have gg1 := g_none g1 gs1
  go_wp2_with fail
  refine (H2.out _).mono ?_
  rintro e w2 ⟨rfl, g2⟩
  have gs2 := g_alloc (g_refl w2 none) (.cells #[.bool s, .int .i64 c, .int .i64 p, .int .i64 g] 33)
  replace b1 := (b1.keptN g2).keptN gs2
  have b2 := Blk.new w2 [.bool s, .int .i64 c, .int .i64 p, .int .i64 g] 33
  have gg2 := g_none (g_none gg1 g2) gs2
  have c0 := b1.cellOf (i := 0) rfl
  have d0 := b2.cellOf (i := 0) rfl
  have c1 := b1.cellOf (i := 1) rfl
  have d1 := b2.cellOf (i := 1) rfl
  have c2 := b1.cellOf (i := 2) rfl
  have d2 := b2.cellOf (i := 2) rfl
  have c3 := b1.cellOf (i := 3) rfl
  have d3 := b2.cellOf (i := 3) rfl
  go_wp2_with (first
    | (go_at_call 13; refine (num_any _ _).mono ?_; rintro e _ ⟨rfl, rfl⟩)
    | (go_at_call 14; refine (works_true _).mono ?_; rintro e w5 ⟨rfl, g5⟩))
  go_ret
  exact ⟨rfl, g_none gg2 g5⟩

set_option maxRecDepth 100000 in
set_option maxHeartbeats 4000000 in
theorem holds_small0_2 (a b m : Nat) (ha : a < 18446744073709551616) (hb : b < 18446744073709551616) (hm : m < 18446744073709551616) (hm2 : m ≤ 16) (G : Int) (hG : G = 16) (h1 : (a : Int) ≤ G) (s : Bool) (c p g e : Int)
    (H1 : Hid (∀ w, Calls Try.prog 19 #[.int .u64 a, .int .u64 m] w fun e w' => e = .returned (.tuple #[.agg #[.bool true, .int .i64 0, .int .i64 0, .int .i64 G], .int .i64 0]) ∧ w.grownBy w' none))
    (H2 : Hid (∀ w, Calls Try.prog 19 #[.int .u64 b, .int .u64 m] w fun x w' => x = .returned (.tuple #[.agg #[.bool s, .int .i64 c, .int .i64 p, .int .i64 g], .int .i64 e]) ∧ w.grownBy w' none))
    (h2 : e = 0) (h3 : b < a) (w : World) : Calls Try.prog 7 #[.int .u64 a, .int .u64 b, .int .u64 m] w fun e w' => e = .returned (.bool true) ∧ w.grownBy w' none := by
  subst h2
  have H3 := hid fun w => payload_ok 0 (by decide) w
  rw [show pay 0 = G by rw [hG]; rfl] at H3
  have H4 := hid fun w => payload_no (-1) (by decide) w
  have hGb : 16 ≤ G ∧ G ≤ 256 := by omega
  clear hG
  go_enter Try.func7, Try.ntmps7
  go_wp2_with fail
  refine (H1.out _).mono ?_
  rintro e w1 ⟨rfl, g1⟩
  have gs1 := g_alloc (g_refl w1 none) (.cells #[.bool true, .int .i64 0, .int .i64 0, .int .i64 G] 33)
  have b1 := Blk.new w1 [.bool true, .int .i64 0, .int .i64 0, .int .i64 G] 33
  have gg1 := g_none g1 gs1
  go_wp2_with fail
  refine (H2.out _).mono ?_
  rintro e w2 ⟨rfl, g2⟩
  have gs2 := g_alloc (g_refl w2 none) (.cells #[.bool s, .int .i64 c, .int .i64 p, .int .i64 g] 33)
  replace b1 := (b1.keptN g2).keptN gs2
  have b2 := Blk.new w2 [.bool s, .int .i64 c, .int .i64 p, .int .i64 g] 33
  have gg2 := g_none (g_none gg1 g2) gs2
  have c0 := b1.cellOf (i := 0) rfl
  have d0 := b2.cellOf (i := 0) rfl
  have c1 := b1.cellOf (i := 1) rfl
  have d1 := b2.cellOf (i := 1) rfl
  have c2 := b1.cellOf (i := 2) rfl
  have d2 := b2.cellOf (i := 2) rfl
  have c3 := b1.cellOf (i := 3) rfl
  have d3 := b2.cellOf (i := 3) rfl
  go_wp2_with (go_at_call 13; refine (num_any _ _).mono ?_; rintro e _ ⟨rfl, rfl⟩)
  refine (H3.out _).mono ?_
  rintro e w3 ⟨rfl, g3⟩
  replace b1 := b1.keptN g3
  replace b2 := b2.keptN g3
  have gg3 := g_none gg2 g3
  have c0 := b1.cellOf (i := 0) rfl
  have d0 := b2.cellOf (i := 0) rfl
  have c1 := b1.cellOf (i := 1) rfl
  have d1 := b2.cellOf (i := 1) rfl
  have c2 := b1.cellOf (i := 2) rfl
  have d2 := b2.cellOf (i := 2) rfl
  have c3 := b1.cellOf (i := 3) rfl
  have d3 := b2.cellOf (i := 3) rfl
  go_wp2_with (go_at_call 13; refine (num_any _ _).mono ?_; rintro e _ ⟨rfl, rfl⟩)
  refine (H4.out _).mono ?_
  rintro e w4 ⟨rfl, g4⟩
  replace b1 := b1.keptN g4
  replace b2 := b2.keptN g4
  have gg4 := g_none gg3 g4
  have c0 := b1.cellOf (i := 0) rfl
  have d0 := b2.cellOf (i := 0) rfl
  have c1 := b1.cellOf (i := 1) rfl
  have d1 := b2.cellOf (i := 1) rfl
  have c2 := b1.cellOf (i := 2) rfl
  have d2 := b2.cellOf (i := 2) rfl
  have c3 := b1.cellOf (i := 3) rfl
  have d3 := b2.cellOf (i := 3) rfl
  go_wp2_with (first
    | (go_at_call 13; refine (num_any _ _).mono ?_; rintro e _ ⟨rfl, rfl⟩)
    | (go_at_call 14; refine (works_true _).mono ?_; rintro e w5 ⟨rfl, g5⟩))
  go_ret
  exact ⟨rfl, g_none gg4 g5⟩

set_option maxRecDepth 100000 in
set_option maxHeartbeats 4000000 in
theorem holds_smallS_2 (a b m : Nat) (ha : a < 18446744073709551616) (hb : b < 18446744073709551616) (hm : m < 18446744073709551616) (hm2 : m ≤ 16) (G : Int) (hGb : 16 ≤ G ∧ G ≤ 256) (h1 : (a : Int) ≤ G) (C R : Int) (hC : 1 ≤ C ∧ C ≤ 7) (hR : 16 ≤ R ∧ R ≤ 256) (hR2 : R < a) (ha1 : 1 < a) (s : Bool) (c p g e : Int)
    (H1 : Hid (∀ w, Calls Try.prog 19 #[.int .u64 a, .int .u64 m] w fun e w' => e = .returned (.tuple #[.agg #[.bool true, .int .i64 C, .int .i64 0, .int .i64 G], .int .i64 0]) ∧ w.grownBy w' none))
    (H2 : Hid (∀ w, Calls Try.prog 19 #[.int .u64 b, .int .u64 m] w fun x w' => x = .returned (.tuple #[.agg #[.bool s, .int .i64 c, .int .i64 p, .int .i64 g], .int .i64 e]) ∧ w.grownBy w' none))
    (H3 : Hid (∀ w, Calls Try.prog 9 #[.int .i64 C] w fun e w' => e = .returned (.tuple #[.int .i64 G, .int .i64 0]) ∧ w.grownBy w' none))
    (H4 : Hid (∀ w, Calls Try.prog 9 #[.int .i64 (C - 1)] w fun e w' => e = .returned (.tuple #[.int .i64 R, .int .i64 0]) ∧ w.grownBy w' none))
    (h2 : e = 0) (h3 : b < a) (w : World) : Calls Try.prog 7 #[.int .u64 a, .int .u64 b, .int .u64 m] w fun e w' => e = .returned (.bool true) ∧ w.grownBy w' none := by
  subst h2
  go_enter Try.func7, Try.ntmps7
  go_wp2_with fail
  refine (H1.out _).mono ?_
  rintro e w1 ⟨rfl, g1⟩
  have gs1 := g_alloc (g_refl w1 none) (.cells #[.bool true, .int .i64 C, .int .i64 0, .int .i64 G] 33)
  have b1 := Blk.new w1 [.bool true, .int .i64 C, .int .i64 0, .int .i64 G] 33
  have gg1 := g_none g1 gs1
  go_wp2_with fail
  refine (H2.out _).mono ?_
  rintro e w2 ⟨rfl, g2⟩
  have gs2 := g_alloc (g_refl w2 none) (.cells #[.bool s, .int .i64 c, .int .i64 p, .int .i64 g] 33)
  replace b1 := (b1.keptN g2).keptN gs2
  have b2 := Blk.new w2 [.bool s, .int .i64 c, .int .i64 p, .int .i64 g] 33
  have gg2 := g_none (g_none gg1 g2) gs2
  have c0 := b1.cellOf (i := 0) rfl
  have d0 := b2.cellOf (i := 0) rfl
  have c1 := b1.cellOf (i := 1) rfl
  have d1 := b2.cellOf (i := 1) rfl
  have c2 := b1.cellOf (i := 2) rfl
  have d2 := b2.cellOf (i := 2) rfl
  have c3 := b1.cellOf (i := 3) rfl
  have d3 := b2.cellOf (i := 3) rfl
  go_wp2_with (go_at_call 13; refine (num_any _ _).mono ?_; rintro e _ ⟨rfl, rfl⟩)
  refine (H3.out _).mono ?_
  rintro e w3 ⟨rfl, g3⟩
  replace b1 := b1.keptN g3
  replace b2 := b2.keptN g3
  have gg3 := g_none gg2 g3
  have c0 := b1.cellOf (i := 0) rfl
  have d0 := b2.cellOf (i := 0) rfl
  have c1 := b1.cellOf (i := 1) rfl
  have d1 := b2.cellOf (i := 1) rfl
  have c2 := b1.cellOf (i := 2) rfl
  have d2 := b2.cellOf (i := 2) rfl
  have c3 := b1.cellOf (i := 3) rfl
  have d3 := b2.cellOf (i := 3) rfl
  go_wp2_with (go_at_call 13; refine (num_any _ _).mono ?_; rintro e _ ⟨rfl, rfl⟩)
  refine (H4.out _).mono ?_
  rintro e w4 ⟨rfl, g4⟩
  replace b1 := b1.keptN g4
  replace b2 := b2.keptN g4
  have gg4 := g_none gg3 g4
  have c0 := b1.cellOf (i := 0) rfl
  have d0 := b2.cellOf (i := 0) rfl
  have c1 := b1.cellOf (i := 1) rfl
  have d1 := b2.cellOf (i := 1) rfl
  have c2 := b1.cellOf (i := 2) rfl
  have d2 := b2.cellOf (i := 2) rfl
  have c3 := b1.cellOf (i := 3) rfl
  have d3 := b2.cellOf (i := 3) rfl
  go_wp2_with (first
    | (go_at_call 13; refine (num_any _ _).mono ?_; rintro e _ ⟨rfl, rfl⟩)
    | (go_at_call 14; refine (works_true _).mono ?_; rintro e w5 ⟨rfl, g5⟩))
  go_ret
  exact ⟨rfl, g_none gg4 g5⟩

set_option maxRecDepth 100000 in
set_option maxHeartbeats 4000000 in
theorem holds_large_2a (a b m : Nat) (ha : a < 18446744073709551616) (hb : b < 18446744073709551616) (hm : m < 18446744073709551616) (h1 : (a : Int) ≤ 256) (s : Bool) (c p g e : Int)
    (H1 : Hid (∀ w, Calls Try.prog 19 #[.int .u64 a, .int .u64 m] w fun e w' => e = .returned (.tuple #[.agg #[.bool false, .int .i64 0, .int .i64 1, .int .i64 256], .int .i64 0]) ∧ w.grownBy w' none))
    (H2 : Hid (∀ w, Calls Try.prog 19 #[.int .u64 b, .int .u64 m] w fun x w' => x = .returned (.tuple #[.agg #[.bool s, .int .i64 c, .int .i64 p, .int .i64 g], .int .i64 e]) ∧ w.grownBy w' none))
    (h2 : e = 0) (h3 : b < a) (w : World) : Calls Try.prog 7 #[.int .u64 a, .int .u64 b, .int .u64 m] w fun e w' => e = .returned (.bool true) ∧ w.grownBy w' none := by
  subst h2
  go_enter Try.func7, Try.ntmps7
  go_wp2_with fail
  refine (H1.out _).mono ?_
  rintro e w1 ⟨rfl, g1⟩
  have gs1 := g_alloc (g_refl w1 none) (.cells #[.bool false, .int .i64 0, .int .i64 1, .int .i64 256] 33)
  have b1 := Blk.new w1 [.bool false, .int .i64 0, .int .i64 1, .int .i64 256] 33
  have gg1 := g_none g1 gs1
  go_wp2_with fail
  refine (H2.out _).mono ?_
  rintro e w2 ⟨rfl, g2⟩
  have gs2 := g_alloc (g_refl w2 none) (.cells #[.bool s, .int .i64 c, .int .i64 p, .int .i64 g] 33)
  replace b1 := (b1.keptN g2).keptN gs2
  have b2 := Blk.new w2 [.bool s, .int .i64 c, .int .i64 p, .int .i64 g] 33
  have gg2 := g_none (g_none gg1 g2) gs2
  have c0 := b1.cellOf (i := 0) rfl
  have d0 := b2.cellOf (i := 0) rfl
  have c1 := b1.cellOf (i := 1) rfl
  have d1 := b2.cellOf (i := 1) rfl
  have c2 := b1.cellOf (i := 2) rfl
  have d2 := b2.cellOf (i := 2) rfl
  have c3 := b1.cellOf (i := 3) rfl
  have d3 := b2.cellOf (i := 3) rfl
  go_wp2_with (first
    | (go_at_call 13; refine (num_any _ _).mono ?_; rintro e _ ⟨rfl, rfl⟩)
    | (go_at_call 14; refine (works_true _).mono ?_; rintro e w5 ⟨rfl, g5⟩))
  go_ret
  exact ⟨rfl, g_none gg2 g5⟩

set_option maxRecDepth 100000 in
set_option maxHeartbeats 4000000 in
theorem holds_large_2b (a b m : Nat) (ha : a < 18446744073709551616) (hb : b < 18446744073709551616) (hm : m < 18446744073709551616) (P : Int) (hP : 1 < P) (hP3 : P ≤ 1024) (hP2 : 256 * P - 256 < (a : Int)) (h1 : (a : Int) ≤ 256 * P) (s : Bool) (c p g e : Int)
    (H1 : Hid (∀ w, Calls Try.prog 19 #[.int .u64 a, .int .u64 m] w fun e w' => e = .returned (.tuple #[.agg #[.bool false, .int .i64 0, .int .i64 P, .int .i64 (256 * P)], .int .i64 0]) ∧ w.grownBy w' none))
    (H2 : Hid (∀ w, Calls Try.prog 19 #[.int .u64 b, .int .u64 m] w fun x w' => x = .returned (.tuple #[.agg #[.bool s, .int .i64 c, .int .i64 p, .int .i64 g], .int .i64 e]) ∧ w.grownBy w' none))
    (h2 : e = 0) (h3 : b < a) (w : World) : Calls Try.prog 7 #[.int .u64 a, .int .u64 b, .int .u64 m] w fun e w' => e = .returned (.bool true) ∧ w.grownBy w' none := by
  subst h2
  go_enter Try.func7, Try.ntmps7
  go_wp2_with fail
  refine (H1.out _).mono ?_
  rintro e w1 ⟨rfl, g1⟩
  have gs1 := g_alloc (g_refl w1 none) (.cells #[.bool false, .int .i64 0, .int .i64 P, .int .i64 (256 * P)] 33)
  have b1 := Blk.new w1 [.bool false, .int .i64 0, .int .i64 P, .int .i64 (256 * P)] 33
  have gg1 := g_none g1 gs1
  go_wp2_with fail
  refine (H2.out _).mono ?_
  rintro e w2 ⟨rfl, g2⟩
  have gs2 := g_alloc (g_refl w2 none) (.cells #[.bool s, .int .i64 c, .int .i64 p, .int .i64 g] 33)
  replace b1 := (b1.keptN g2).keptN gs2
  have b2 := Blk.new w2 [.bool s, .int .i64 c, .int .i64 p, .int .i64 g] 33
  have gg2 := g_none (g_none gg1 g2) gs2
  have c0 := b1.cellOf (i := 0) rfl
  have d0 := b2.cellOf (i := 0) rfl
  have c1 := b1.cellOf (i := 1) rfl
  have d1 := b2.cellOf (i := 1) rfl
  have c2 := b1.cellOf (i := 2) rfl
  have d2 := b2.cellOf (i := 2) rfl
  have c3 := b1.cellOf (i := 3) rfl
  have d3 := b2.cellOf (i := 3) rfl
  go_wp2_with (first
    | (go_at_call 13; refine (num_any _ _).mono ?_; rintro e _ ⟨rfl, rfl⟩)
    | (go_at_call 14; refine (works_true _).mono ?_; rintro e w5 ⟨rfl, g5⟩))
  go_ret
  exact ⟨rfl, g_none gg2 g5⟩

set_option maxRecDepth 100000 in
set_option maxHeartbeats 4000000 in
theorem holds_small0_3 (a b m : Nat) (ha : a < 18446744073709551616) (hb : b < 18446744073709551616) (hm : m < 18446744073709551616) (hm2 : m ≤ 16) (G : Int) (hG : G = 16) (h1 : (a : Int) ≤ G) (s : Bool) (c p g e : Int)
    (H1 : Hid (∀ w, Calls Try.prog 19 #[.int .u64 a, .int .u64 m] w fun e w' => e = .returned (.tuple #[.agg #[.bool true, .int .i64 0, .int .i64 0, .int .i64 G], .int .i64 0]) ∧ w.grownBy w' none))
    (H2 : Hid (∀ w, Calls Try.prog 19 #[.int .u64 b, .int .u64 m] w fun x w' => x = .returned (.tuple #[.agg #[.bool s, .int .i64 c, .int .i64 p, .int .i64 g], .int .i64 e]) ∧ w.grownBy w' none))
    (h2 : e = 0) (h3 : a ≤ b) (h4 : G ≤ g) (w : World) : Calls Try.prog 7 #[.int .u64 a, .int .u64 b, .int .u64 m] w fun e w' => e = .returned (.bool true) ∧ w.grownBy w' none := by
  subst h2
  have H3 := hid fun w => payload_ok 0 (by decide) w
  rw [show pay 0 = G by rw [hG]; rfl] at H3
  have H4 := hid fun w => payload_no (-1) (by decide) w
  have hGb : 16 ≤ G ∧ G ≤ 256 := by omega
  clear hG
  go_enter Try.func7, Try.ntmps7
  go_wp2_with fail
  refine (H1.out _).mono ?_
  rintro e w1 ⟨rfl, g1⟩
  have gs1 := g_alloc (g_refl w1 none) (.cells #[.bool true, .int .i64 0, .int .i64 0, .int .i64 G] 33)
  have b1 := Blk.new w1 [.bool true, .int .i64 0, .int .i64 0, .int .i64 G] 33
  have gg1 := g_none g1 gs1
  go_wp2_with fail
  refine (H2.out _).mono ?_
  rintro e w2 ⟨rfl, g2⟩
  have gs2 := g_alloc (g_refl w2 none) (.cells #[.bool s, .int .i64 c, .int .i64 p, .int .i64 g] 33)
  replace b1 := (b1.keptN g2).keptN gs2
  have b2 := Blk.new w2 [.bool s, .int .i64 c, .int .i64 p, .int .i64 g] 33
  have gg2 := g_none (g_none gg1 g2) gs2
  have c0 := b1.cellOf (i := 0) rfl
  have d0 := b2.cellOf (i := 0) rfl
  have c1 := b1.cellOf (i := 1) rfl
  have d1 := b2.cellOf (i := 1) rfl
  have c2 := b1.cellOf (i := 2) rfl
  have d2 := b2.cellOf (i := 2) rfl
  have c3 := b1.cellOf (i := 3) rfl
  have d3 := b2.cellOf (i := 3) rfl
  go_wp2_with (go_at_call 13; refine (num_any _ _).mono ?_; rintro e _ ⟨rfl, rfl⟩)
  refine (H3.out _).mono ?_
  rintro e w3 ⟨rfl, g3⟩
  replace b1 := b1.keptN g3
  replace b2 := b2.keptN g3
  have gg3 := g_none gg2 g3
  have c0 := b1.cellOf (i := 0) rfl
  have d0 := b2.cellOf (i := 0) rfl
  have c1 := b1.cellOf (i := 1) rfl
  have d1 := b2.cellOf (i := 1) rfl
  have c2 := b1.cellOf (i := 2) rfl
  have d2 := b2.cellOf (i := 2) rfl
  have c3 := b1.cellOf (i := 3) rfl
  have d3 := b2.cellOf (i := 3) rfl
  go_wp2_with (go_at_call 13; refine (num_any _ _).mono ?_; rintro e _ ⟨rfl, rfl⟩)
  refine (H4.out _).mono ?_
  rintro e w4 ⟨rfl, g4⟩
  replace b1 := b1.keptN g4
  replace b2 := b2.keptN g4
  have gg4 := g_none gg3 g4
  have c0 := b1.cellOf (i := 0) rfl
  have d0 := b2.cellOf (i := 0) rfl
  have c1 := b1.cellOf (i := 1) rfl
  have d1 := b2.cellOf (i := 1) rfl
  have c2 := b1.cellOf (i := 2) rfl
  have d2 := b2.cellOf (i := 2) rfl
  have c3 := b1.cellOf (i := 3) rfl
  have d3 := b2.cellOf (i := 3) rfl
  go_wp2_with (first
    | (go_at_call 13; refine (num_any _ _).mono ?_; rintro e _ ⟨rfl, rfl⟩)
    | (go_at_call 14; refine (works_true _).mono ?_; rintro e w5 ⟨rfl, g5⟩))
  go_ret
  exact ⟨rfl, g_none gg4 g5⟩

set_option maxRecDepth 100000 in
set_option maxHeartbeats 4000000 in
theorem holds_smallS_3 (a b m : Nat) (ha : a < 18446744073709551616) (hb : b < 18446744073709551616) (hm : m < 18446744073709551616) (hm2 : m ≤ 16) (G : Int) (hGb : 16 ≤ G ∧ G ≤ 256) (h1 : (a : Int) ≤ G) (C R : Int) (hC : 1 ≤ C ∧ C ≤ 7) (hR : 16 ≤ R ∧ R ≤ 256) (hR2 : R < a) (ha1 : 1 < a) (s : Bool) (c p g e : Int)
    (H1 : Hid (∀ w, Calls Try.prog 19 #[.int .u64 a, .int .u64 m] w fun e w' => e = .returned (.tuple #[.agg #[.bool true, .int .i64 C, .int .i64 0, .int .i64 G], .int .i64 0]) ∧ w.grownBy w' none))
    (H2 : Hid (∀ w, Calls Try.prog 19 #[.int .u64 b, .int .u64 m] w fun x w' => x = .returned (.tuple #[.agg #[.bool s, .int .i64 c, .int .i64 p, .int .i64 g], .int .i64 e]) ∧ w.grownBy w' none))
    (H3 : Hid (∀ w, Calls Try.prog 9 #[.int .i64 C] w fun e w' => e = .returned (.tuple #[.int .i64 G, .int .i64 0]) ∧ w.grownBy w' none))
    (H4 : Hid (∀ w, Calls Try.prog 9 #[.int .i64 (C - 1)] w fun e w' => e = .returned (.tuple #[.int .i64 R, .int .i64 0]) ∧ w.grownBy w' none))
    (h2 : e = 0) (h3 : a ≤ b) (h4 : G ≤ g) (w : World) : Calls Try.prog 7 #[.int .u64 a, .int .u64 b, .int .u64 m] w fun e w' => e = .returned (.bool true) ∧ w.grownBy w' none := by
  subst h2
  go_enter Try.func7, Try.ntmps7
  go_wp2_with fail
  refine (H1.out _).mono ?_
  rintro e w1 ⟨rfl, g1⟩
  have gs1 := g_alloc (g_refl w1 none) (.cells #[.bool true, .int .i64 C, .int .i64 0, .int .i64 G] 33)
  have b1 := Blk.new w1 [.bool true, .int .i64 C, .int .i64 0, .int .i64 G] 33
  have gg1 := g_none g1 gs1
  go_wp2_with fail
  refine (H2.out _).mono ?_
  rintro e w2 ⟨rfl, g2⟩
  have gs2 := g_alloc (g_refl w2 none) (.cells #[.bool s, .int .i64 c, .int .i64 p, .int .i64 g] 33)
  replace b1 := (b1.keptN g2).keptN gs2
  have b2 := Blk.new w2 [.bool s, .int .i64 c, .int .i64 p, .int .i64 g] 33
  have gg2 := g_none (g_none gg1 g2) gs2
  have c0 := b1.cellOf (i := 0) rfl
  have d0 := b2.cellOf (i := 0) rfl
  have c1 := b1.cellOf (i := 1) rfl
  have d1 := b2.cellOf (i := 1) rfl
  have c2 := b1.cellOf (i := 2) rfl
  have d2 := b2.cellOf (i := 2) rfl
  have c3 := b1.cellOf (i := 3) rfl
  have d3 := b2.cellOf (i := 3) rfl
  go_wp2_with (go_at_call 13; refine (num_any _ _).mono ?_; rintro e _ ⟨rfl, rfl⟩)
  refine (H3.out _).mono ?_
  rintro e w3 ⟨rfl, g3⟩
  replace b1 := b1.keptN g3
  replace b2 := b2.keptN g3
  have gg3 := g_none gg2 g3
  have c0 := b1.cellOf (i := 0) rfl
  have d0 := b2.cellOf (i := 0) rfl
  have c1 := b1.cellOf (i := 1) rfl
  have d1 := b2.cellOf (i := 1) rfl
  have c2 := b1.cellOf (i := 2) rfl
  have d2 := b2.cellOf (i := 2) rfl
  have c3 := b1.cellOf (i := 3) rfl
  have d3 := b2.cellOf (i := 3) rfl
  go_wp2_with (go_at_call 13; refine (num_any _ _).mono ?_; rintro e _ ⟨rfl, rfl⟩)
  refine (H4.out _).mono ?_
  rintro e w4 ⟨rfl, g4⟩
  replace b1 := b1.keptN g4
  replace b2 := b2.keptN g4
  have gg4 := g_none gg3 g4
  have c0 := b1.cellOf (i := 0) rfl
  have d0 := b2.cellOf (i := 0) rfl
  have c1 := b1.cellOf (i := 1) rfl
  have d1 := b2.cellOf (i := 1) rfl
  have c2 := b1.cellOf (i := 2) rfl
  have d2 := b2.cellOf (i := 2) rfl
  have c3 := b1.cellOf (i := 3) rfl
  have d3 := b2.cellOf (i := 3) rfl
  go_wp2_with (first
    | (go_at_call 13; refine (num_any _ _).mono ?_; rintro e _ ⟨rfl, rfl⟩)
    | (go_at_call 14; refine (works_true _).mono ?_; rintro e w5 ⟨rfl, g5⟩))
  go_ret
  exact ⟨rfl, g_none gg4 g5⟩

set_option maxRecDepth 100000 in
set_option maxHeartbeats 4000000 in
theorem holds_large_3a (a b m : Nat) (ha : a < 18446744073709551616) (hb : b < 18446744073709551616) (hm : m < 18446744073709551616) (h1 : (a : Int) ≤ 256) (s : Bool) (c p g e : Int)
    (H1 : Hid (∀ w, Calls Try.prog 19 #[.int .u64 a, .int .u64 m] w fun e w' => e = .returned (.tuple #[.agg #[.bool false, .int .i64 0, .int .i64 1, .int .i64 256], .int .i64 0]) ∧ w.grownBy w' none))
    (H2 : Hid (∀ w, Calls Try.prog 19 #[.int .u64 b, .int .u64 m] w fun x w' => x = .returned (.tuple #[.agg #[.bool s, .int .i64 c, .int .i64 p, .int .i64 g], .int .i64 e]) ∧ w.grownBy w' none))
    (h2 : e = 0) (h3 : a ≤ b) (h4 : 256 ≤ g) (w : World) : Calls Try.prog 7 #[.int .u64 a, .int .u64 b, .int .u64 m] w fun e w' => e = .returned (.bool true) ∧ w.grownBy w' none := by
  subst h2
  go_enter Try.func7, Try.ntmps7
  go_wp2_with fail
  refine (H1.out _).mono ?_
  rintro e w1 ⟨rfl, g1⟩
  have gs1 := g_alloc (g_refl w1 none) (.cells #[.bool false, .int .i64 0, .int .i64 1, .int .i64 256] 33)
  have b1 := Blk.new w1 [.bool false, .int .i64 0, .int .i64 1, .int .i64 256] 33
  have gg1 := g_none g1 gs1
  go_wp2_with fail
  refine (H2.out _).mono ?_
  rintro e w2 ⟨rfl, g2⟩
  have gs2 := g_alloc (g_refl w2 none) (.cells #[.bool s, .int .i64 c, .int .i64 p, .int .i64 g] 33)
  replace b1 := (b1.keptN g2).keptN gs2
  have b2 := Blk.new w2 [.bool s, .int .i64 c, .int .i64 p, .int .i64 g] 33
  have gg2 := g_none (g_none gg1 g2) gs2
  have c0 := b1.cellOf (i := 0) rfl
  have d0 := b2.cellOf (i := 0) rfl
  have c1 := b1.cellOf (i := 1) rfl
  have d1 := b2.cellOf (i := 1) rfl
  have c2 := b1.cellOf (i := 2) rfl
  have d2 := b2.cellOf (i := 2) rfl
  have c3 := b1.cellOf (i := 3) rfl
  have d3 := b2.cellOf (i := 3) rfl
  go_wp2_with (first
    | (go_at_call 13; refine (num_any _ _).mono ?_; rintro e _ ⟨rfl, rfl⟩)
    | (go_at_call 14; refine (works_true _).mono ?_; rintro e w5 ⟨rfl, g5⟩))
  go_ret
  exact ⟨rfl, g_none gg2 g5⟩

set_option maxRecDepth 100000 in
set_option maxHeartbeats 4000000 in
theorem holds_large_3b (a b m : Nat) (ha : a < 18446744073709551616) (hb : b < 18446744073709551616) (hm : m < 18446744073709551616) (P : Int) (hP : 1 < P) (hP3 : P ≤ 1024) (hP2 : 256 * P - 256 < (a : Int)) (h1 : (a : Int) ≤ 256 * P) (s : Bool) (c p g e : Int)
    (H1 : Hid (∀ w, Calls Try.prog 19 #[.int .u64 a, .int .u64 m] w fun e w' => e = .returned (.tuple #[.agg #[.bool false, .int .i64 0, .int .i64 P, .int .i64 (256 * P)], .int .i64 0]) ∧ w.grownBy w' none))
    (H2 : Hid (∀ w, Calls Try.prog 19 #[.int .u64 b, .int .u64 m] w fun x w' => x = .returned (.tuple #[.agg #[.bool s, .int .i64 c, .int .i64 p, .int .i64 g], .int .i64 e]) ∧ w.grownBy w' none))
    (h2 : e = 0) (h3 : a ≤ b) (h4 : 256 * P ≤ g) (w : World) : Calls Try.prog 7 #[.int .u64 a, .int .u64 b, .int .u64 m] w fun e w' => e = .returned (.bool true) ∧ w.grownBy w' none := by
  subst h2
  go_enter Try.func7, Try.ntmps7
  go_wp2_with fail
  refine (H1.out _).mono ?_
  rintro e w1 ⟨rfl, g1⟩
  have gs1 := g_alloc (g_refl w1 none) (.cells #[.bool false, .int .i64 0, .int .i64 P, .int .i64 (256 * P)] 33)
  have b1 := Blk.new w1 [.bool false, .int .i64 0, .int .i64 P, .int .i64 (256 * P)] 33
  have gg1 := g_none g1 gs1
  go_wp2_with fail
  refine (H2.out _).mono ?_
  rintro e w2 ⟨rfl, g2⟩
  have gs2 := g_alloc (g_refl w2 none) (.cells #[.bool s, .int .i64 c, .int .i64 p, .int .i64 g] 33)
  replace b1 := (b1.keptN g2).keptN gs2
  have b2 := Blk.new w2 [.bool s, .int .i64 c, .int .i64 p, .int .i64 g] 33
  have gg2 := g_none (g_none gg1 g2) gs2
  have c0 := b1.cellOf (i := 0) rfl
  have d0 := b2.cellOf (i := 0) rfl
  have c1 := b1.cellOf (i := 1) rfl
  have d1 := b2.cellOf (i := 1) rfl
  have c2 := b1.cellOf (i := 2) rfl
  have d2 := b2.cellOf (i := 2) rfl
  have c3 := b1.cellOf (i := 3) rfl
  have d3 := b2.cellOf (i := 3) rfl
  go_wp2_with (first
    | (go_at_call 13; refine (num_any _ _).mono ?_; rintro e _ ⟨rfl, rfl⟩)
    | (go_at_call 14; refine (works_true _).mono ?_; rintro e w5 ⟨rfl, g5⟩))
  go_ret
  exact ⟨rfl, g_none gg2 g5⟩

end Go.Proofs.Ytfgiokaohbpeiaa
