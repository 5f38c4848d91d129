/-
  The iterator Picks: among no number, of no feed.
-/
import Derived.Test.YtkeicoadpdfkkaaFeedPicks
namespace Go.Proofs.Ytkeicoadpdfkkaa
open Go.RowKit

attribute [local go_sem] Oper.semAt_some

set_option maxHeartbeats 4000000 in
theorem picks1_no (p b1 b2 : Nat) (v : Value) (xs : List Int) (k : Nat) (n : Int) (hn : n < 1 ∨ 256 < n) (W : World) :
    IterAtG [] Try.prog 45 #[.pointer (some ⟨b1, 0, none⟩), .pointer (some ⟨b2, 0, none⟩)] (fun x : Int => #[.int .i64 x]) (PickX p b1 b2 v xs k n) (fun _ _ W1 W2 => W1 = W2) (fun _ _ => False) (fun ys => ys = []) (fun _ => False) W := by
  intro l J Jx bs rb hfoot hown hX hJ hJx hY h0
  have HY := hid hY
  have HX := hid hX
  have hX0 := hX _ _ h0
  have hpW := hX0.2.2.facts.2.2.2
  have x1 := g_cellN (g_alloc (g_refl W none) (.cells #[.func (.yield l) #[] #[]] 81)) hX0.1
  clear hX hY hX0
  have hgW : W.grownBy (W.alloc (.cells #[.func (.yield l) #[] #[]] 81)) none := g_alloc (g_refl W _) _
  have hYb := (Blk.new W [.func (.yield l) #[] #[]] 81).cellOf (i := 0) rfl
  have hturns := turns_any (some ⟨p, 0, none⟩)
  refine calls_of_wp_marks Try.func45 rfl (wpIn_wide.2 ?_)
  simp only [Try.ntmps45, List.size_toArray, List.length_cons, List.length_nil, Nat.reduceAdd, Nat.reduceSub, Array.replicate_succ, Array.replicate_zero, List.push_toArray, List.append_toArray, List.nil_append, List.cons_append, Array.append_empty]
  go_wp2_with (first | apply wp_scope_straight | apply wp_label)
  refine (hturns _).mono ?_
  rintro e w1 ⟨tb, rfl, ht, htb, hg1⟩
  go_wp2_with (first | apply wp_scope_straight | apply wp_label)
  have hgW1 := g_none hgW hg1
  have hs1 : W.heap.size ≤ w1.heap.size := hgW1.size
  have hfootP := hfoot
  have bY := Box.new hfootP hgW1 (Nat.le_refl _) (g_cellN hg1 hYb)
  have bT := Box.new hfootP hgW1 (by simp at htb; omega) ht
  refine wp_of_in (wp_iter (gf := 47) (lb := #[.pointer (some ⟨tb, 0, none⟩)]) rfl (Go.Proofs.enters_of Try.func47 (by kernel_rfl) rfl)
    (encs := fun x : Nat => #[.int .i64 x]) (fun _ => rfl) bs rb (hfootP.grown hgW1)
    (fun W1 _ => turns1_iter p tb v xs k W1)
    (fun pre' W1 => ∃ pre : List Int, (pre = [] ∧ pre.length = pre'.length) ∧ J pre W1 ∧ Box bs rb W.heap.size W.heap.size (.func (.yield l) #[] #[]) W1 ∧ Box bs rb W.heap.size tb (.pointer (some ⟨p, 0, none⟩)) W1)
    (fun c pre' W1 => c = .exit 0 ∧ J [] W1)
    (fun s A B row ⟨pre, h1, h2, h3, h4⟩ hg hr => ⟨pre, h1, own_mono hJ hs1 pre A B row h2 hg hr, own_mono (Box.own (α := Unit) hfootP) hs1 () A B row h3 hg hr, own_mono (Box.own (α := Unit) hfootP) hs1 () A B row h4 hg hr⟩)
    (fun c s A B row ⟨hc, h2⟩ hg hr => ⟨hc, own_mono hJ hs1 [] A B row h2 hg hr⟩)
    (fun pre' W1 ⟨pre, h1, h2, h3, h4⟩ => ⟨h4.2.2, by rw [← h1.2]; exact (HX.out _ _ h2).2.2⟩)
    ⟨[], ⟨rfl, rfl⟩, own_grown hJ h0 hgW1, bY, bT⟩
    (fun x a' _ => a' = { tmps := #[.func (.yield l) #[] #[], .pointer (some ⟨b1, 0, none⟩), .pointer (some ⟨b2, 0, none⟩), .pointer (some ⟨W.heap.size, 0, none⟩), undef, undef, .pointer (some ⟨p, 0, none⟩), .func (.func 47) #[] #[.pointer (some ⟨tb, 0, none⟩)], .int .i64 x, undef, undef, undef, undef, undef, undef, undef, undef, undef, undef, undef, undef, undef, undef], defers := [] })
    (fun x a' s A B row h _ _ => h) ?assign ?body ?done ?stop)
  case assign =>
    intro l' pre x W1 K _ _ hK
    gi_wp2
    exact hK _ _ (KeepsFrom.refl _ _) (Keeps.refl _ _ _) (by assumption) (by simp)
  case body =>
    rintro l' pre' x a' W1 hl' ⟨pre, ⟨hp0, hpl⟩, hJ1, bY1, bT1⟩ rfl _
    obtain rfl := hp0
    obtain ⟨c1, c2, hF⟩ := HX.out _ _ hJ1
    have hpk := pick_no p v xs (k + ([] : List Int).length) n hn W1 hF
    clear hF
    gi_wp2_with fail
    refine callsIn_wide.2 (hpk.mono ?_)
    rintro e W2 ⟨rfl, hg2⟩
    gi_wp2
    exact ⟨KeepsFrom.of_grownBy hg2 (fun j e => by cases e), Keeps.grown (fun b hb => by
      have h1 := hfootP.bl b hb
      exact Nat.lt_of_lt_of_le h1 bY1.1) hfootP.mem hg2, rfl, own_grown hJ hJ1 hg2⟩
  case done =>
    rintro D ys W2 hD hS ⟨pre, ⟨hp0, hpl⟩, hJ2, _⟩ hK
    show bodyPostM Fence.wide 10 _ _ _ .normal _ _
    refine ⟨by simp, .inl ⟨_, _, rfl, run_takeDeferred hK, ?_⟩⟩
    exact ⟨_, results_none rfl _ _ _, ⟨_, rfl⟩, .inl ⟨pre, hp0, hJ.putObj _ hJ2 (Nat.le_trans hs1 hD) hK rfl⟩⟩
  case stop =>
    rintro D c pre' W2 hD hp ⟨rfl, hJx2⟩ hK
    refine wpIn_exit ?_
    show bodyPostM Fence.wide 10 _ _ _ .normal _ _
    refine ⟨by simp, .inl ⟨_, _, rfl, run_takeDeferred hK, ?_⟩⟩
    exact ⟨_, results_none rfl _ _ _, ⟨_, rfl⟩, .inl ⟨[], rfl, hJ.putObj _ hJx2 (Nat.le_trans hs1 hD) hK rfl⟩⟩
set_option maxHeartbeats 4000000 in
theorem picks1_none (u : Option Addr) (b1 b2 : Nat) (n : Int) (W : World) :
    IterAtG [] Try.prog 45 #[.pointer (some ⟨b1, 0, none⟩), .pointer (some ⟨b2, 0, none⟩)] (fun x : Int => #[.int .i64 x]) (fun _ W => W.cell? ⟨b1, 0, none⟩ = some (.pointer u) ∧ W.cell? ⟨b2, 0, none⟩ = some (.int .i64 n) ∧ IsNone W u) (fun _ _ W1 W2 => W1 = W2) (fun _ _ => False) (fun ys => ys = []) (fun _ => False) W := by
  intro l J Jx bs rb hfoot hown hX hJ hJx hY h0
  have HY := hid hY
  have HX := hid hX
  have hX0 := hX _ _ h0
  have x1 := g_cellN (g_alloc (g_refl W none) (.cells #[.func (.yield l) #[] #[]] 81)) hX0.1
  clear hX hY hX0
  have hgW : W.grownBy (W.alloc (.cells #[.func (.yield l) #[] #[]] 81)) none := g_alloc (g_refl W _) _
  have hYb := (Blk.new W [.func (.yield l) #[] #[]] 81).cellOf (i := 0) rfl
  have hturns := turns_any u
  refine calls_of_wp_marks Try.func45 rfl (wpIn_wide.2 ?_)
  simp only [Try.ntmps45, List.size_toArray, List.length_cons, List.length_nil, Nat.reduceAdd, Nat.reduceSub, Array.replicate_succ, Array.replicate_zero, List.push_toArray, List.append_toArray, List.nil_append, List.cons_append, Array.append_empty]
  go_wp2_with (first | apply wp_scope_straight | apply wp_label)
  refine (hturns _).mono ?_
  rintro e w1 ⟨tb, rfl, ht, htb, hg1⟩
  go_wp2_with (first | apply wp_scope_straight | apply wp_label)
  have hgW1 := g_none hgW hg1
  have hs1 : W.heap.size ≤ w1.heap.size := hgW1.size
  have hfootP := hfoot
  have bY := Box.new hfootP hgW1 (Nat.le_refl _) (g_cellN hg1 hYb)
  have bT := Box.new hfootP hgW1 (by simp at htb; omega) ht
  refine wp_of_in (wp_iter (gf := 47) (lb := #[.pointer (some ⟨tb, 0, none⟩)]) rfl (Go.Proofs.enters_of Try.func47 (by kernel_rfl) rfl)
    (encs := fun x : Nat => #[.int .i64 x]) (fun _ => rfl) bs rb (hfootP.grown hgW1)
    (fun W1 _ => turns1_none u tb W1)
    (fun pre' W1 => ∃ pre : List Int, pre = [] ∧ J pre W1 ∧ Box bs rb W.heap.size W.heap.size (.func (.yield l) #[] #[]) W1 ∧ Box bs rb W.heap.size tb (.pointer u) W1)
    (fun c pre' W1 => c = .exit 0 ∧ J [] W1)
    (fun s A B row ⟨pre, h1, h2, h3, h4⟩ hg hr => ⟨pre, h1, own_mono hJ hs1 pre A B row h2 hg hr, own_mono (Box.own (α := Unit) hfootP) hs1 () A B row h3 hg hr, own_mono (Box.own (α := Unit) hfootP) hs1 () A B row h4 hg hr⟩)
    (fun c s A B row ⟨hc, h2⟩ hg hr => ⟨hc, own_mono hJ hs1 [] A B row h2 hg hr⟩)
    (fun pre' W1 ⟨pre, h1, h2, h3, h4⟩ => ⟨h4.2.2, (HX.out _ _ h2).2.2⟩)
    ⟨[], rfl, own_grown hJ h0 hgW1, bY, bT⟩
    (fun x a' _ => a' = { tmps := #[.func (.yield l) #[] #[], .pointer (some ⟨b1, 0, none⟩), .pointer (some ⟨b2, 0, none⟩), .pointer (some ⟨W.heap.size, 0, none⟩), undef, undef, .pointer u, .func (.func 47) #[] #[.pointer (some ⟨tb, 0, none⟩)], .int .i64 x, undef, undef, undef, undef, undef, undef, undef, undef, undef, undef, undef, undef, undef, undef], defers := [] })
    (fun x a' s A B row h _ _ => h) ?assign ?body ?done ?stop)
  case assign =>
    intro l' pre x W1 K _ _ hK
    gi_wp2
    exact hK _ _ (KeepsFrom.refl _ _) (Keeps.refl _ _ _) (by assumption) (by simp)
  case body =>
    intro l' pre' x a' W1 hl' _ _ hx
    exact hx.elim
  case done =>
    rintro D ys W2 hD hS ⟨pre, hp0, hJ2, _⟩ hK
    show bodyPostM Fence.wide 10 _ _ _ .normal _ _
    refine ⟨by simp, .inl ⟨_, _, rfl, run_takeDeferred hK, ?_⟩⟩
    exact ⟨_, results_none rfl _ _ _, ⟨_, rfl⟩, .inl ⟨pre, hp0, hJ.putObj _ hJ2 (Nat.le_trans hs1 hD) hK rfl⟩⟩
  case stop =>
    rintro D c pre' W2 hD hp ⟨rfl, hJx2⟩ hK
    refine wpIn_exit ?_
    show bodyPostM Fence.wide 10 _ _ _ .normal _ _
    refine ⟨by simp, .inl ⟨_, _, rfl, run_takeDeferred hK, ?_⟩⟩
    exact ⟨_, results_none rfl _ _ _, ⟨_, rfl⟩, .inl ⟨[], rfl, hJ.putObj _ hJx2 (Nat.le_trans hs1 hD) hK rfl⟩⟩
end Go.Proofs.Ytkeicoadpdfkkaa
