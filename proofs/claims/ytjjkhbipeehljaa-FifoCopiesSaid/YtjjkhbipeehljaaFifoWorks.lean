/-
  A quarantine in memory: the chapter's rows.
-/
import Derived.Test.YtjjkhbipeehljaaFifoNew
namespace Go.Proofs.Ytjjkhbipeehljaa
open Go.RowKit

theorem L3.build1 (w : World) (x y z : Int) (b : Nat) (hb : w.heap.size = b) : L3 (w.alloc (.cells #[.int .i64 x, .int .i64 y, .int .i64 z] 33)) (.slice (some ⟨b, 0, none⟩) 1 1) [(x, y, z)] := by
  subst hb
  have h := Blk.new w [.int .i64 x, .int .i64 y, .int .i64 z] 33
  refine ⟨_, 1, rfl, by simp, by simp, by unfold maxLen; omega, .inr ⟨w.heap.size, 0, rfl, fun i a b c hi => ?_⟩⟩
  match i, hi with
  | 0, hi => simp at hi; obtain ⟨rfl, rfl, rfl⟩ := hi; exact ⟨h.cellOf rfl, h.cellOf rfl, h.cellOf rfl⟩
  | i + 1, hi => simp at hi
theorem L3.build2 (w : World) (x y z x' y' z' : Int) (b : Nat) (hb : w.heap.size = b) : L3 (w.alloc (.cells #[.int .i64 x, .int .i64 y, .int .i64 z, .int .i64 x', .int .i64 y', .int .i64 z'] 33)) (.slice (some ⟨b, 0, none⟩) 2 2) [(x, y, z), (x', y', z')] := by
  subst hb
  have h := Blk.new w [.int .i64 x, .int .i64 y, .int .i64 z, .int .i64 x', .int .i64 y', .int .i64 z'] 33
  refine ⟨_, 2, rfl, by simp, by simp, by unfold maxLen; omega, .inr ⟨w.heap.size, 0, rfl, fun i a b c hi => ?_⟩⟩
  match i, hi with
  | 0, hi => simp at hi; obtain ⟨rfl, rfl, rfl⟩ := hi; exact ⟨h.cellOf rfl, h.cellOf rfl, h.cellOf rfl⟩
  | 1, hi => simp at hi; obtain ⟨rfl, rfl, rfl⟩ := hi; exact ⟨h.cellOf rfl, h.cellOf rfl, h.cellOf rfl⟩
  | i + 2, hi => simp at hi
theorem outL3 {w : World} {base : Nat} {a : Option Addr} {n c : Nat} {xs : List T3} (hl : xs.length ≤ 1000) (h : w.ownsRow base 33 3 (.slice a n c) xs.length (flat3 xs)) : L3 w (.slice a n c) xs ∧ n = xs.length ∧ (∀ r, (Value.slice a n c).ownBlock = some r → base ≤ r) := by
  refine ⟨L3.own hl h, ?_, fun r hr => (row_base h r hr).1⟩
  rcases h.2 with ⟨e, h0⟩ | ⟨g, cap, cur, e, _⟩
  · cases e; exact h0.symm
  · cases e; rfl
theorem good_of (xs : List T3) (h : xs.all (fun x => decide (0 ≤ x.2.2) && decide (x.2.2 ≤ 1048576)) = true) : Good xs := fun x hx => by
  have := List.all_eq_true.1 h x hx
  simpa using this

set_option maxRecDepth 100000 in
set_option maxHeartbeats 4000000 in
theorem works_true (w : World) : Calls Try.prog 6 #[] w fun e w' => e = .returned (.bool true) ∧ w.grownBy w' none := by
  go_enter Try.func6, Try.ntmps6
  go_wp2_with fail
  refine (new_yes 2 100 w (by decide)).mono ?_
  rintro e w1 ⟨p, rfl, h1, gg1, hp⟩
  go_wp2_with fail
  refine (of_any 1 50 _).mono ?_
  rintro e w2 ⟨rfl, ga2⟩
  have h2 := h1.keptN ga2
  have gg2 := g_none gg1 ga2
  go_wp2_with fail
  refine (push_any p 2 100 _ [] 0 1 50 (good_of _ (by decide)) (by simp) _ h2).mono ?_
  rintro e w3 ⟨a0, n0, c0, v0, rfl, h3, hr0, ga3, _, _⟩
  rw [show pushL 2 100 [] (0, 1, 50) = [(0, 1, 50)] by decide] at h3
  rw [show pushO 2 100 [] (0, 1, 50) = [] by decide] at hr0
  rw [show pushE [] (0, 1, 50) = 0 by decide]
  have hpl0 : p < w2.heap.size := h2.1.lt
  obtain ⟨ol0, on0, ob0⟩ := outL3 (by simp) hr0
  simp only [List.length_cons, List.length_nil] at on0
  subst on0
  have r0 := hid (fun r hr => Nat.lt_of_lt_of_le hpl0 (ob0 r hr))
  have gg3 := g_trans (row := none) gg2 ga3 (fun r e => by cases e; exact .inr hp)
  clear hr0 ob0
  have o0w3 := hid ol0
  clear ol0
  go_wp2_with fail
  refine (of_any 2 50 _).mono ?_
  rintro e w4 ⟨rfl, ga4⟩
  have h4 := h3.keptN ga4
  have gg4 := g_none gg3 ga4
  go_wp2_with fail
  refine (push_any p 2 100 _ [(0, 1, 50)] 0 2 50 (good_of _ (by decide)) (by simp) _ h4).mono ?_
  rintro e w5 ⟨a1, n1, c1, v1, rfl, h5, hr1, ga5, _, _⟩
  rw [show pushL 2 100 [(0, 1, 50)] (0, 2, 50) = [(0, 1, 50), (0, 2, 50)] by decide] at h5
  rw [show pushO 2 100 [(0, 1, 50)] (0, 2, 50) = [] by decide] at hr1
  rw [show pushE [(0, 1, 50)] (0, 2, 50) = 0 by decide]
  have hpl1 : p < w4.heap.size := h4.1.lt
  obtain ⟨ol1, on1, ob1⟩ := outL3 (by simp) hr1
  simp only [List.length_cons, List.length_nil] at on1
  subst on1
  have r1 := hid (fun r hr => Nat.lt_of_lt_of_le hpl1 (ob1 r hr))
  have gg5 := g_trans (row := none) gg4 ga5 (fun r e => by cases e; exact .inr hp)
  clear hr1 ob1
  have o1w5 := hid ol1
  clear ol1
  go_wp2_with fail
  refine (of_any 3 10 _).mono ?_
  rintro e w6 ⟨rfl, ga6⟩
  have h6 := h5.keptN ga6
  have gg6 := g_none gg5 ga6
  go_wp2_with fail
  refine (push_any p 2 100 _ [(0, 1, 50), (0, 2, 50)] 0 3 10 (good_of _ (by decide)) (by simp) _ h6).mono ?_
  rintro e w7 ⟨a2, n2, c2, v2, rfl, h7, hr2, ga7, _, _⟩
  rw [show pushL 2 100 [(0, 1, 50), (0, 2, 50)] (0, 3, 10) = [(0, 2, 50), (0, 3, 10)] by decide] at h7
  rw [show pushO 2 100 [(0, 1, 50), (0, 2, 50)] (0, 3, 10) = [(0, 1, 50)] by decide] at hr2
  rw [show pushE [(0, 1, 50), (0, 2, 50)] (0, 3, 10) = 0 by decide]
  have hpl2 : p < w6.heap.size := h6.1.lt
  obtain ⟨ol2, on2, ob2⟩ := outL3 (by simp) hr2
  simp only [List.length_cons, List.length_nil] at on2
  subst on2
  have r2 := hid (fun r hr => Nat.lt_of_lt_of_le hpl2 (ob2 r hr))
  have gg7 := g_trans (row := none) gg6 ga7 (fun r e => by cases e; exact .inr hp)
  clear hr2 ob2
  have o2w7 := hid ol2
  clear ol2
  go_wp2_with fail
  refine (of_any 3 10 _).mono ?_
  rintro e w8 ⟨rfl, ga8⟩
  have h8 := h7.keptN ga8
  have gg8 := g_none gg7 ga8
  have o2w8 := hid ((o2w7).out.keptN ga8)
  go_wp2_with fail
  refine (push_any p 2 100 _ [(0, 2, 50), (0, 3, 10)] 0 3 10 (good_of _ (by decide)) (by simp) _ h8).mono ?_
  rintro e w9 ⟨a3, n3, c3, v3, rfl, h9, hr3, ga9, _, _⟩
  rw [show pushL 2 100 [(0, 2, 50), (0, 3, 10)] (0, 3, 10) = [(0, 2, 50), (0, 3, 10)] by decide] at h9
  rw [show pushO 2 100 [(0, 2, 50), (0, 3, 10)] (0, 3, 10) = [] by decide] at hr3
  rw [show pushE [(0, 2, 50), (0, 3, 10)] (0, 3, 10) = 280 by decide]
  have hpl3 : p < w8.heap.size := h8.1.lt
  obtain ⟨ol3, on3, ob3⟩ := outL3 (by simp) hr3
  simp only [List.length_cons, List.length_nil] at on3
  subst on3
  have r3 := hid (fun r hr => Nat.lt_of_lt_of_le hpl3 (ob3 r hr))
  have gg9 := g_trans (row := none) gg8 ga9 (fun r e => by cases e; exact .inr hp)
  clear hr3 ob3
  have o2w9 := hid ((o2w8).out.kept ga9 (fun r hr e => by cases hr; have := r2.out _ e; omega))
  have o3w9 := hid ol3
  clear ol3
  go_wp2_with fail
  refine (age_some p 2 100 _ _ 0 2 _ h9).mono ?_
  rintro e w10 ⟨rfl, ga10⟩
  rw [show ageOf [(0, 2, 50), (0, 3, 10)] 0 2 = 1 by decide, show (decide (0 ≤ atOf [(0, 2, 50), (0, 3, 10)] 0 2)) = true by decide]
  have h10 := h9.keptN ga10
  have gg10 := g_none gg9 ga10
  have o2w10 := hid ((o2w9).out.keptN ga10)
  go_wp2_with fail
  refine (len_some p 2 100 _ _ (good_of _ (by decide)) _ h10).mono ?_
  rintro e w11 ⟨rfl, ga11⟩
  rw [show sum3 [(0, 2, 50), (0, 3, 10)] = 60 by decide, show (([(0, 2, 50), (0, 3, 10)] : List T3).length : Int) = 2 by decide]
  have h11 := h10.keptN ga11
  have gg11 := g_none gg10 ga11
  have o2w11 := hid ((o2w10).out.keptN ga11)
  go_wp2_with fail
  refine (of_any 4 95 _).mono ?_
  rintro e w12 ⟨rfl, ga12⟩
  have h12 := h11.keptN ga12
  have gg12 := g_none gg11 ga12
  have o2w12 := hid ((o2w11).out.keptN ga12)
  go_wp2_with fail
  refine (push_any p 2 100 _ [(0, 2, 50), (0, 3, 10)] 0 4 95 (good_of _ (by decide)) (by simp) _ h12).mono ?_
  rintro e w13 ⟨a4, n4, c4, v4, rfl, h13, hr4, ga13, _, _⟩
  rw [show pushL 2 100 [(0, 2, 50), (0, 3, 10)] (0, 4, 95) = [(0, 4, 95)] by decide] at h13
  rw [show pushO 2 100 [(0, 2, 50), (0, 3, 10)] (0, 4, 95) = [(0, 2, 50), (0, 3, 10)] by decide] at hr4
  rw [show pushE [(0, 2, 50), (0, 3, 10)] (0, 4, 95) = 0 by decide]
  have hpl4 : p < w12.heap.size := h12.1.lt
  obtain ⟨ol4, on4, ob4⟩ := outL3 (by simp) hr4
  simp only [List.length_cons, List.length_nil] at on4
  subst on4
  have r4 := hid (fun r hr => Nat.lt_of_lt_of_le hpl4 (ob4 r hr))
  have gg13 := g_trans (row := none) gg12 ga13 (fun r e => by cases e; exact .inr hp)
  clear hr4 ob4
  have o2w13 := hid ((o2w12).out.kept ga13 (fun r hr e => by cases hr; have := r2.out _ e; omega))
  have o4w13 := hid ol4
  clear ol4
  go_wp2_with fail
  refine (of_any 5 200 _).mono ?_
  rintro e w14 ⟨rfl, ga14⟩
  have h14 := h13.keptN ga14
  have gg14 := g_none gg13 ga14
  have o2w14 := hid ((o2w13).out.keptN ga14)
  have o4w14 := hid ((o4w13).out.keptN ga14)
  go_wp2_with fail
  refine (push_any p 2 100 _ [(0, 4, 95)] 0 5 200 (good_of _ (by decide)) (by simp) _ h14).mono ?_
  rintro e w15 ⟨a5, n5, c5, v5, rfl, h15, hr5, ga15, _, _⟩
  rw [show pushL 2 100 [(0, 4, 95)] (0, 5, 200) = [] by decide] at h15
  rw [show pushO 2 100 [(0, 4, 95)] (0, 5, 200) = [(0, 4, 95), (0, 5, 200)] by decide] at hr5
  rw [show pushE [(0, 4, 95)] (0, 5, 200) = 0 by decide]
  have hpl5 : p < w14.heap.size := h14.1.lt
  obtain ⟨ol5, on5, ob5⟩ := outL3 (by simp) hr5
  simp only [List.length_cons, List.length_nil] at on5
  subst on5
  have r5 := hid (fun r hr => Nat.lt_of_lt_of_le hpl5 (ob5 r hr))
  have gg15 := g_trans (row := none) gg14 ga15 (fun r e => by cases e; exact .inr hp)
  clear hr5 ob5
  have o2w15 := hid ((o2w14).out.kept ga15 (fun r hr e => by cases hr; have := r2.out _ e; omega))
  have o4w15 := hid ((o4w14).out.kept ga15 (fun r hr e => by cases hr; have := r4.out _ e; omega))
  have o5w15 := hid ol5
  clear ol5
  clear h1
  go_wp2_with (go_at_call 8; refine (num_any _ _).mono ?_; rintro e _ ⟨rfl, rfl⟩)
  refine (of_any 1 50 _).mono ?_
  rintro e w16 ⟨rfl, ga16⟩
  have gg16 := g_none gg15 ga16
  have o2w16 := hid ((o2w15).out.keptN ga16)
  have o4w16 := hid ((o4w15).out.keptN ga16)
  have o5w16 := hid ((o5w15).out.keptN ga16)
  go_wp2_with (go_at_call 8; refine (num_any _ _).mono ?_; rintro e _ ⟨rfl, rfl⟩)
  have ga17 := g_alloc (g_refl w16 none) (.cells #[.int .i64 0, .int .i64 1, .int .i64 50] 33)
  refine (refSame_any _ _ [(0, 1, 50)] [(0, 1, 50)] _ ((o2w16).out.keptN ga17) (L3.build1 w16 0 1 50 _ rfl)).mono ?_
  rintro e w17 ⟨rfl, m16, hw16⟩
  rw [show decide (([(0, 1, 50)] : List T3) = [(0, 1, 50)]) = true by decide]
  have gd17 := g_drewM ga17 m16
  rw [hw16] at gd17
  have gg17 := g_none gg16 gd17
  clear hw16
  have o2w17 := hid ((o2w16).out.keptN gd17)
  have o4w17 := hid ((o4w16).out.keptN gd17)
  have o5w17 := hid ((o5w16).out.keptN gd17)
  go_wp2_with (go_at_call 8; refine (num_any _ _).mono ?_; rintro e _ ⟨rfl, rfl⟩)
  refine (of_any 2 50 _).mono ?_
  rintro e w18 ⟨rfl, ga18⟩
  have gg18 := g_none gg17 ga18
  have o2w18 := hid ((o2w17).out.keptN ga18)
  have o4w18 := hid ((o4w17).out.keptN ga18)
  have o5w18 := hid ((o5w17).out.keptN ga18)
  go_wp2_with (go_at_call 8; refine (num_any _ _).mono ?_; rintro e _ ⟨rfl, rfl⟩)
  refine (of_any 3 10 _).mono ?_
  rintro e w19 ⟨rfl, ga19⟩
  have gg19 := g_none gg18 ga19
  have o2w19 := hid ((o2w18).out.keptN ga19)
  have o4w19 := hid ((o4w18).out.keptN ga19)
  have o5w19 := hid ((o5w18).out.keptN ga19)
  go_wp2_with (go_at_call 8; refine (num_any _ _).mono ?_; rintro e _ ⟨rfl, rfl⟩)
  have ga20 := g_alloc (g_refl w19 none) (.cells #[.int .i64 0, .int .i64 2, .int .i64 50, .int .i64 0, .int .i64 3, .int .i64 10] 33)
  refine (refSame_any _ _ [(0, 2, 50), (0, 3, 10)] [(0, 2, 50), (0, 3, 10)] _ ((o4w19).out.keptN ga20) (L3.build2 w19 0 2 50 0 3 10 _ rfl)).mono ?_
  rintro e w20 ⟨rfl, m19, hw19⟩
  rw [show decide (([(0, 2, 50), (0, 3, 10)] : List T3) = [(0, 2, 50), (0, 3, 10)]) = true by decide]
  have gd20 := g_drewM ga20 m19
  rw [hw19] at gd20
  have gg20 := g_none gg19 gd20
  clear hw19
  have o2w20 := hid ((o2w19).out.keptN gd20)
  have o4w20 := hid ((o4w19).out.keptN gd20)
  have o5w20 := hid ((o5w19).out.keptN gd20)
  go_wp2_with (go_at_call 8; refine (num_any _ _).mono ?_; rintro e _ ⟨rfl, rfl⟩)
  refine (of_any 4 95 _).mono ?_
  rintro e w21 ⟨rfl, ga21⟩
  have gg21 := g_none gg20 ga21
  have o2w21 := hid ((o2w20).out.keptN ga21)
  have o4w21 := hid ((o4w20).out.keptN ga21)
  have o5w21 := hid ((o5w20).out.keptN ga21)
  go_wp2_with (go_at_call 8; refine (num_any _ _).mono ?_; rintro e _ ⟨rfl, rfl⟩)
  refine (of_any 5 200 _).mono ?_
  rintro e w22 ⟨rfl, ga22⟩
  have gg22 := g_none gg21 ga22
  have o2w22 := hid ((o2w21).out.keptN ga22)
  have o4w22 := hid ((o4w21).out.keptN ga22)
  have o5w22 := hid ((o5w21).out.keptN ga22)
  go_wp2_with (go_at_call 8; refine (num_any _ _).mono ?_; rintro e _ ⟨rfl, rfl⟩)
  have ga23 := g_alloc (g_refl w22 none) (.cells #[.int .i64 0, .int .i64 4, .int .i64 95, .int .i64 0, .int .i64 5, .int .i64 200] 33)
  refine (refSame_any _ _ [(0, 4, 95), (0, 5, 200)] [(0, 4, 95), (0, 5, 200)] _ ((o5w22).out.keptN ga23) (L3.build2 w22 0 4 95 0 5 200 _ rfl)).mono ?_
  rintro e w23 ⟨rfl, m22, hw22⟩
  rw [show decide (([(0, 4, 95), (0, 5, 200)] : List T3) = [(0, 4, 95), (0, 5, 200)]) = true by decide]
  have gd23 := g_drewM ga23 m22
  rw [hw22] at gd23
  have gg23 := g_none gg22 gd23
  clear hw22
  have o2w23 := hid ((o2w22).out.keptN gd23)
  have o4w23 := hid ((o4w22).out.keptN gd23)
  have o5w23 := hid ((o5w22).out.keptN gd23)
  go_wp2_with (go_at_call 8; refine (num_any _ _).mono ?_; rintro e _ ⟨rfl, rfl⟩)
  go_ret
  exact ⟨rfl, gg23⟩
end Go.Proofs.Ytjjkhbipeehljaa
