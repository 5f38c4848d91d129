/-
  A call by both, that tells a number: Pick, Draw, Seek.
-/
import Derived.Test.YtkeicoadpdfkkaaFeedNone
namespace Go.Proofs.Ytkeicoadpdfkkaa
open Go.RowKit

theorem results_trt {P : Program} {fn : Func} {a p u : Tmp} {ty : TypeId} (h : fn.results = #[.tmp a, .cell p ty, .tmp u]) (tmps : Array Value) (w : World) (g : Nat) (t : TypeId) (cs : Array Value) (fr : Nat × Nat) (d : TypeDesc)
    (hp : tmps.getD p undef = .pointer (some ⟨g, 0, none⟩)) (hg : w.heap[g]? = some (.cells cs t fr))
    (hu : P.underlying ty = some d) (hd : (match d with | .struct _ | .array _ _ => true | _ => false) = true) (hi : (P.info? ty).map (·.size) = some cs.size) :
    (results fn tmps).run P w = .ok (.tuple #[tmps.getD a undef, .agg cs, tmps.getD u undef]) w := by
  have e : (results fn tmps).run P w =
      ((asAddr (tmps.getD p undef)).run P w).andThen fun x w₁ => ((loadVar ty x).run P w₁).andThen fun v w₂ => .ok (.tuple #[tmps.getD a undef, v, tmps.getD u undef]) w₂ := by
    simp only [results, h]
    simp [Sem.run_bind, Result.andThen]
  rw [e, hp]
  simp [asAddr, run_loadVar_row w g t ty cs fr d hg hu hd hi]

/-- What a call by both leaves. -/
def ActPost (p : Nat) (v : Value) (xs : List Int) (w : World) (e : Ending) (w' : World) : Prop :=
  ∃ p' v' k', e = .returned (.tuple #[.pointer (some ⟨p', 0, none⟩), RF xs k', .bool true]) ∧ FeedAt w' p' v' xs k' ∧ ((p' = p ∧ v' = v) ∨ (w.heap.size ≤ p' ∧ ∀ r, v'.ownBlock = some r → w.heap.size ≤ r)) ∧ w.grownBy w' (some p)
/-- The frame of such a call. -/
theorem act_cells (xs : List Int) (k : Nat) (what N : Int) (w : World) : Blk (((w.alloc (.cells #[.string (strOfNums xs), .int .i64 k] 41)).alloc (.cells #[.int .i64 what, .int .i64 N] 45)).alloc (.cells #[.string { data := #[] }, .int .i64 0] 41)) w.heap.size 41 [.string (strOfNums xs), .int .i64 k] ∧ Blk (((w.alloc (.cells #[.string (strOfNums xs), .int .i64 k] 41)).alloc (.cells #[.int .i64 what, .int .i64 N] 45)).alloc (.cells #[.string { data := #[] }, .int .i64 0] 41)) (w.heap.size + 1) 45 [.int .i64 what, .int .i64 N] ∧ Blk (((w.alloc (.cells #[.string (strOfNums xs), .int .i64 k] 41)).alloc (.cells #[.int .i64 what, .int .i64 N] 45)).alloc (.cells #[.string { data := #[] }, .int .i64 0] 41)) (w.heap.size + 2) 41 [.string { data := #[] }, .int .i64 0] ∧ w.grownBy (((w.alloc (.cells #[.string (strOfNums xs), .int .i64 k] 41)).alloc (.cells #[.int .i64 what, .int .i64 N] 45)).alloc (.cells #[.string { data := #[] }, .int .i64 0] 41)) none := by
  have b1 := Blk.new w [.string (strOfNums xs), .int .i64 (k : Int)] 41
  have b2 := Blk.new (w.alloc (.cells #[.string (strOfNums xs), .int .i64 k] 41)) [.int .i64 what, .int .i64 N] 45
  have b3 := Blk.new ((w.alloc (.cells #[.string (strOfNums xs), .int .i64 k] 41)).alloc (.cells #[.int .i64 what, .int .i64 N] 45)) [.string { data := #[] }, .int .i64 0] 41
  simp only [World.size_alloc] at b2 b3
  exact ⟨(b1.alloc _).alloc _, b2.alloc _, b3, g_alloc (g_alloc (g_alloc (g_refl w none) _) _) _⟩
theorem act_fin {w W : World} {p k b d : Nat} {v x y : Value} {xs : List Int} (hF : FeedAt W p v xs k) (hg : w.grownBy W (some p)) (hp : p < w.heap.size) (hv : ∀ r, v.ownBlock = some r → r < w.heap.size) (hb : w.heap.size ≤ b) :
    FeedAt (((W.setCell ⟨b, 0, none⟩ x).setCell ⟨b, 1, none⟩ y).drewN d) p v xs k ∧ w.grownBy (((W.setCell ⟨b, 0, none⟩ x).setCell ⟨b, 1, none⟩ y).drewN d) (some p) := by
  have h1 := hF.kept (grownBy_setCell'' W b 0 x) (by simp; omega) (.inl (fun e => by have := hv b e; omega))
  have h2 := h1.kept (grownBy_setCell'' _ b 1 y) (by simp; omega) (.inl (fun e => by have := hv b e; omega))
  exact ⟨h2.keptN (g_drewM (g_refl _ none) d), g_drewM (g_set (g_set hg x (.inr hb)) y (.inr hb)) d⟩


set_option maxRecDepth 100000 in
set_option maxHeartbeats 8000000 in
theorem act_pick (p : Nat) (v : Value) (xs : List Int) (k k' : Nat) (what N yy no : Int) (hw : what = 0)
    (hR : ∀ w : World, Calls Try.prog 31 #[RF xs k, .int .i64 N] w fun e w' => e = .returned (.tuple #[RF xs k', .int .i64 yy, .int .i64 no]) ∧ w.grownBy w' none)
    (hC : ∀ w : World, FeedAt w p v xs k → Calls Try.prog 20 #[.pointer (some ⟨p, 0, none⟩), .int .i64 N] w fun e w' => e = .returned (.tuple #[.int .i64 yy, .int .i64 no]) ∧ FeedAt w' p v xs k' ∧ w.grownBy w' (some p))
    (w : World) (h : FeedAt w p v xs k) :
    Calls Try.prog 16 #[.pointer (some ⟨p, 0, none⟩), RF xs k, .agg #[.int .i64 what, .int .i64 N]] w (ActPost p v xs w) := by
  subst hw
  have hpw := h.facts.2.2.2
  have hvw := h.vlt
  obtain ⟨b1, b2, b3, hgA⟩ := act_cells xs k 0 N w
  have h0 := h.keptN hgA
  have x0 := b2.cellOf (i := 0) rfl
  have x1 := b2.cellOf (i := 1) rfl
  have a0 := b1.cellOf (i := 0) rfl
  have a1 := b1.cellOf (i := 1) rfl
  have HF := hid h0
  clear h h0
  go_enter Try.func16, Try.ntmps16
  go_wp2_with fail
  refine (hR _).mono ?_
  rintro e w1 ⟨rfl, hg1⟩
  have hs1 : w.heap.size + 3 ≤ w1.heap.size := by have := hg1.size; simpa using this
  have gg1 := g_none hgA hg1
  have hF1 := (HF.out.keptN hg1).keptN (g_alloc (g_refl w1 none) (.cells #[.string (strOfNums xs), .int .i64 k'] 41))
  have gg2 := g_alloc gg1 (.cells #[.string (strOfNums xs), .int .i64 k'] 41)
  have b4 := Blk.new w1 [.string (strOfNums xs), .int .i64 (k' : Int)] 41
  have b5 := (b2.keptN hg1).alloc (.cells #[.string (strOfNums xs), .int .i64 k'] 41)
  have b6 := (b3.keptN hg1).alloc (.cells #[.string (strOfNums xs), .int .i64 k'] 41)
  have x2 := b5.cellOf (i := 1) rfl
  clear hg1 gg1 b1 b2 b3 a0 a1 hgA x0 x1 HF
  go_wp2_with fail
  refine (hC _ hF1).mono ?_
  rintro e w2 ⟨rfl, hF2, hg2⟩
  have b7 := b4.kept hg2 (by simp; omega)
  have b8 := b6.kept hg2 (by simp; omega)
  have gg3 := g_same (g_weak gg2) hg2
  have hs2 : w1.heap.size < w2.heap.size := b7.lt
  have b9 := b8.set 0 (.string (strOfNums xs))
  have b10 := b9.set 1 (.int .i64 (k' : Int))
  have f0 := b8.frozen 0
  have f1 := b9.frozen 1
  have c0 := b8.cellOf (i := 0) rfl
  have c1 := b9.cellOf (i := 1) rfl
  have k2 := b7.cellOf (i := 0) rfl
  have k3 := b7.cellOf (i := 1) rfl
  have hne3 : w1.heap.size ≠ w.heap.size + 2 := by omega
  have kS0 : ∀ u v, ((w2.drew.setCell ⟨w.heap.size + 2, 0, none⟩ u).setCell ⟨w.heap.size + 2, 1, none⟩ v).cell? ⟨w1.heap.size, 0, none⟩ = some (.string (strOfNums xs)) := fun u v => ((b7.drew.other (a := ⟨w.heap.size + 2, 0, none⟩) hne3 u).other (a := ⟨w.heap.size + 2, 1, none⟩) hne3 v).cellOf rfl
  have kS1 : ∀ u v, ((w2.drew.setCell ⟨w.heap.size + 2, 0, none⟩ u).setCell ⟨w.heap.size + 2, 1, none⟩ v).cell? ⟨w1.heap.size, 1, none⟩ = some (.int .i64 k') := fun u v => ((b7.drew.other (a := ⟨w.heap.size + 2, 0, none⟩) hne3 u).other (a := ⟨w.heap.size + 2, 1, none⟩) hne3 v).cellOf rfl
  clear hg2 gg2 b4 b5 b6 b7 b8 b9 x2 hF1
  go_wp2_with fail
  go_region_held3 (fun w' => w'.cell? ⟨w1.heap.size, 0, none⟩ = some (.string (strOfNums xs)) ∧ w'.cell? ⟨w1.heap.size, 1, none⟩ = some (.int .i64 k')) (first | assumption | exact ⟨k2, k3⟩ | exact ⟨kS0 _ _, kS1 _ _⟩) (first | (go_at_call 10; refine (num_any _ _).mono ?_; rintro e _ ⟨rfl, rfl⟩) | fail)
  all_goals
    go_wp2
    obtain ⟨hFf, hgf⟩ := act_fin (d := 1) (x := .string (strOfNums xs)) (y := .int .i64 (k' : Int)) hF2 gg3 hpw hvw (show w.heap.size ≤ w.heap.size + 2 by omega)
    refine bodyPost_ret (results_trt rfl _ _ (w.heap.size + 2) _ _ _ _ rfl b10 Try.underlying41 rfl (by kernel_rfl)) rfl ?_
    exact ⟨p, v, k', rfl, hFf, .inl ⟨rfl, rfl⟩, hgf⟩


set_option maxRecDepth 100000 in
set_option maxHeartbeats 8000000 in
theorem act_draw (p : Nat) (v : Value) (xs : List Int) (k k' : Nat) (what N yy no : Int) (hw : what = 1)
    (hR : ∀ w : World, Calls Try.prog 32 #[RF xs k] w fun e w' => e = .returned (.tuple #[RF xs k', .int .u32 yy]) ∧ w.grownBy w' none)
    (hC : ∀ w : World, FeedAt w p v xs k → Calls Try.prog 15 #[.pointer (some ⟨p, 0, none⟩)] w fun e w' => e = .returned (.tuple #[.int .u32 yy, .int .i64 0]) ∧ FeedAt w' p v xs k' ∧ w.grownBy w' (some p))
    (w : World) (h : FeedAt w p v xs k) :
    Calls Try.prog 16 #[.pointer (some ⟨p, 0, none⟩), RF xs k, .agg #[.int .i64 what, .int .i64 N]] w (ActPost p v xs w) := by
  subst hw
  have hpw := h.facts.2.2.2
  have hvw := h.vlt
  obtain ⟨b1, b2, b3, hgA⟩ := act_cells xs k 1 N w
  have h0 := h.keptN hgA
  have x0 := b2.cellOf (i := 0) rfl
  have x1 := b2.cellOf (i := 1) rfl
  have a0 := b1.cellOf (i := 0) rfl
  have a1 := b1.cellOf (i := 1) rfl
  have HF := hid h0
  clear h h0
  go_enter Try.func16, Try.ntmps16
  go_wp2_with fail
  refine (hR _).mono ?_
  rintro e w1 ⟨rfl, hg1⟩
  have hs1 : w.heap.size + 3 ≤ w1.heap.size := by have := hg1.size; simpa using this
  have gg1 := g_none hgA hg1
  have hF1 := (HF.out.keptN hg1).keptN (g_alloc (g_refl w1 none) (.cells #[.string (strOfNums xs), .int .i64 k'] 41))
  have gg2 := g_alloc gg1 (.cells #[.string (strOfNums xs), .int .i64 k'] 41)
  have b4 := Blk.new w1 [.string (strOfNums xs), .int .i64 (k' : Int)] 41
  have b5 := (b2.keptN hg1).alloc (.cells #[.string (strOfNums xs), .int .i64 k'] 41)
  have b6 := (b3.keptN hg1).alloc (.cells #[.string (strOfNums xs), .int .i64 k'] 41)
  have x2 := b5.cellOf (i := 1) rfl
  clear hg1 gg1 b1 b2 b3 a0 a1 hgA x0 x1 HF
  go_wp2_with fail
  refine (hC _ hF1).mono ?_
  rintro e w2 ⟨rfl, hF2, hg2⟩
  have b7 := b4.kept hg2 (by simp; omega)
  have b8 := b6.kept hg2 (by simp; omega)
  have gg3 := g_same (g_weak gg2) hg2
  have hs2 : w1.heap.size < w2.heap.size := b7.lt
  have b9 := b8.set 0 (.string (strOfNums xs))
  have b10 := b9.set 1 (.int .i64 (k' : Int))
  have f0 := b8.frozen 0
  have f1 := b9.frozen 1
  have c0 := b8.cellOf (i := 0) rfl
  have c1 := b9.cellOf (i := 1) rfl
  have k2 := b7.cellOf (i := 0) rfl
  have k3 := b7.cellOf (i := 1) rfl
  have hne3 : w1.heap.size ≠ w.heap.size + 2 := by omega
  have kS0 : ∀ u v, ((w2.drew.setCell ⟨w.heap.size + 2, 0, none⟩ u).setCell ⟨w.heap.size + 2, 1, none⟩ v).cell? ⟨w1.heap.size, 0, none⟩ = some (.string (strOfNums xs)) := fun u v => ((b7.drew.other (a := ⟨w.heap.size + 2, 0, none⟩) hne3 u).other (a := ⟨w.heap.size + 2, 1, none⟩) hne3 v).cellOf rfl
  have kS1 : ∀ u v, ((w2.drew.setCell ⟨w.heap.size + 2, 0, none⟩ u).setCell ⟨w.heap.size + 2, 1, none⟩ v).cell? ⟨w1.heap.size, 1, none⟩ = some (.int .i64 k') := fun u v => ((b7.drew.other (a := ⟨w.heap.size + 2, 0, none⟩) hne3 u).other (a := ⟨w.heap.size + 2, 1, none⟩) hne3 v).cellOf rfl
  clear hg2 gg2 b4 b5 b6 b7 b8 b9 x2 hF1
  go_wp2_with fail
  go_region_held3 (fun w' => w'.cell? ⟨w1.heap.size, 0, none⟩ = some (.string (strOfNums xs)) ∧ w'.cell? ⟨w1.heap.size, 1, none⟩ = some (.int .i64 k')) (first | assumption | exact ⟨k2, k3⟩ | exact ⟨kS0 _ _, kS1 _ _⟩) (first | (go_at_call 10; refine (num_any _ _).mono ?_; rintro e _ ⟨rfl, rfl⟩) | fail)
  all_goals
    go_wp2
    obtain ⟨hFf, hgf⟩ := act_fin (d := 1) (x := .string (strOfNums xs)) (y := .int .i64 (k' : Int)) hF2 gg3 hpw hvw (show w.heap.size ≤ w.heap.size + 2 by omega)
    refine bodyPost_ret (results_trt rfl _ _ (w.heap.size + 2) _ _ _ _ rfl b10 Try.underlying41 rfl (by kernel_rfl)) rfl ?_
    exact ⟨p, v, k', rfl, hFf, .inl ⟨rfl, rfl⟩, hgf⟩


set_option maxRecDepth 100000 in
set_option maxHeartbeats 8000000 in
theorem act_seek (p : Nat) (v : Value) (xs : List Int) (k k' : Nat) (what N yy no : Int) (hw : what = 3)
    (hR : ∀ w : World, Calls Try.prog 34 #[RF xs k, .int .i64 N] w fun e w' => e = .returned (.tuple #[RF xs k', .int .i64 yy, .int .i64 no]) ∧ w.grownBy w' none)
    (hC : ∀ w : World, FeedAt w p v xs k → Calls Try.prog 14 #[.pointer (some ⟨p, 0, none⟩), .int .i64 N] w fun e w' => e = .returned (.tuple #[.int .i64 yy, .int .i64 no]) ∧ FeedAt w' p v xs k' ∧ w.grownBy w' (some p))
    (w : World) (h : FeedAt w p v xs k) :
    Calls Try.prog 16 #[.pointer (some ⟨p, 0, none⟩), RF xs k, .agg #[.int .i64 what, .int .i64 N]] w (ActPost p v xs w) := by
  subst hw
  have hpw := h.facts.2.2.2
  have hvw := h.vlt
  obtain ⟨b1, b2, b3, hgA⟩ := act_cells xs k 3 N w
  have h0 := h.keptN hgA
  have x0 := b2.cellOf (i := 0) rfl
  have x1 := b2.cellOf (i := 1) rfl
  have a0 := b1.cellOf (i := 0) rfl
  have a1 := b1.cellOf (i := 1) rfl
  have HF := hid h0
  clear h h0
  go_enter Try.func16, Try.ntmps16
  go_wp2_with fail
  refine (hR _).mono ?_
  rintro e w1 ⟨rfl, hg1⟩
  have hs1 : w.heap.size + 3 ≤ w1.heap.size := by have := hg1.size; simpa using this
  have gg1 := g_none hgA hg1
  have hF1 := (HF.out.keptN hg1).keptN (g_alloc (g_refl w1 none) (.cells #[.string (strOfNums xs), .int .i64 k'] 41))
  have gg2 := g_alloc gg1 (.cells #[.string (strOfNums xs), .int .i64 k'] 41)
  have b4 := Blk.new w1 [.string (strOfNums xs), .int .i64 (k' : Int)] 41
  have b5 := (b2.keptN hg1).alloc (.cells #[.string (strOfNums xs), .int .i64 k'] 41)
  have b6 := (b3.keptN hg1).alloc (.cells #[.string (strOfNums xs), .int .i64 k'] 41)
  have x2 := b5.cellOf (i := 1) rfl
  clear hg1 gg1 b1 b2 b3 a0 a1 hgA x0 x1 HF
  go_wp2_with fail
  refine (hC _ hF1).mono ?_
  rintro e w2 ⟨rfl, hF2, hg2⟩
  have b7 := b4.kept hg2 (by simp; omega)
  have b8 := b6.kept hg2 (by simp; omega)
  have gg3 := g_same (g_weak gg2) hg2
  have hs2 : w1.heap.size < w2.heap.size := b7.lt
  have b9 := b8.set 0 (.string (strOfNums xs))
  have b10 := b9.set 1 (.int .i64 (k' : Int))
  have f0 := b8.frozen 0
  have f1 := b9.frozen 1
  have c0 := b8.cellOf (i := 0) rfl
  have c1 := b9.cellOf (i := 1) rfl
  have k2 := b7.cellOf (i := 0) rfl
  have k3 := b7.cellOf (i := 1) rfl
  have hne3 : w1.heap.size ≠ w.heap.size + 2 := by omega
  have kS0 : ∀ u v, ((w2.drew.setCell ⟨w.heap.size + 2, 0, none⟩ u).setCell ⟨w.heap.size + 2, 1, none⟩ v).cell? ⟨w1.heap.size, 0, none⟩ = some (.string (strOfNums xs)) := fun u v => ((b7.drew.other (a := ⟨w.heap.size + 2, 0, none⟩) hne3 u).other (a := ⟨w.heap.size + 2, 1, none⟩) hne3 v).cellOf rfl
  have kS1 : ∀ u v, ((w2.drew.setCell ⟨w.heap.size + 2, 0, none⟩ u).setCell ⟨w.heap.size + 2, 1, none⟩ v).cell? ⟨w1.heap.size, 1, none⟩ = some (.int .i64 k') := fun u v => ((b7.drew.other (a := ⟨w.heap.size + 2, 0, none⟩) hne3 u).other (a := ⟨w.heap.size + 2, 1, none⟩) hne3 v).cellOf rfl
  clear hg2 gg2 b4 b5 b6 b7 b8 b9 x2 hF1
  go_wp2_with fail
  go_region_held3 (fun w' => w'.cell? ⟨w1.heap.size, 0, none⟩ = some (.string (strOfNums xs)) ∧ w'.cell? ⟨w1.heap.size, 1, none⟩ = some (.int .i64 k')) (first | assumption | exact ⟨k2, k3⟩ | exact ⟨kS0 _ _, kS1 _ _⟩) (first | (go_at_call 10; refine (num_any _ _).mono ?_; rintro e _ ⟨rfl, rfl⟩) | fail)
  all_goals
    go_wp2
    obtain ⟨hFf, hgf⟩ := act_fin (d := 1) (x := .string (strOfNums xs)) (y := .int .i64 (k' : Int)) hF2 gg3 hpw hvw (show w.heap.size ≤ w.heap.size + 2 by omega)
    refine bodyPost_ret (results_trt rfl _ _ (w.heap.size + 2) _ _ _ _ rfl b10 Try.underlying41 rfl (by kernel_rfl)) rfl ?_
    exact ⟨p, v, k', rfl, hFf, .inl ⟨rfl, rfl⟩, hgf⟩

end Go.Proofs.Ytkeicoadpdfkkaa
