/-
  The iterators: numbers, All.
-/
import Derived.Test.YtfgiokaohbpeiaaSizeWorks
import Derived.Test.YtfgiokaohbpeiaaHead
import Derived.LoopIn
import Derived.TacticsInMore
import Derived.WalkMore
import Derived.StillTailTactics
import Derived.Shelf.Abstract
namespace Go.Proofs.Ytfgiokaohbpeiaa
open Go.RowKit

theorem own_grown {α : Type} {B : Nat} {J : α → World → Prop} (h : OwnFrom B J) {s : α} {A W : World} (hA : J s A) (hg : A.grownBy W none) : J s W := h s A W none hA hg (fun r e => by cases e)
theorem own_mono {α : Type} {B B' : Nat} {J : α → World → Prop} (h : OwnFrom B J) (hB : B ≤ B') : OwnFrom B' J := fun s A W row hA hg hr => h s A W row hA hg (fun r e => ⟨Nat.le_trans hB (hr r e).1, (hr r e).2⟩)

attribute [local go_sem] Oper.semAt_some

theorem numbers_any (w : World) : Calls Try.prog 48 #[] w fun e w' => e = .returned (.func (.func 49) #[] #[]) ∧ w = w' := by
  go_enter Try.func48, Try.ntmps48
  go_wp2
  go_ret
  exact ⟨rfl, rfl⟩

set_option maxHeartbeats 1000000 in
theorem numbers1_iter (W : World) :
    IterAt Try.prog 49 #[] (fun x : Nat => #[.int .i64 x]) (fun _ _ => True) (fun pre x => pre = List.range x ∧ x < 8) (fun ys => ys = List.range 8) (fun pre => ∃ k, k ≤ 8 ∧ pre = List.range k) W := by
  intro l J Jx bs rb hfoot hX hJ hJx hY h0
  have HY := hid hY
  clear hX hY
  refine calls_of_wpIn Try.func49 rfl ?_
  simp only [Try.ntmps49, List.size_toArray, List.length_cons, List.length_nil, Nat.reduceAdd, Nat.reduceSub, Array.replicate_succ, Array.replicate_zero, List.push_toArray, List.append_toArray, List.nil_append, List.cons_append, Array.append_empty]
  gi_wp2
  gi_loopw [3] (fun v wr => ∃ (k : Nat), k ≤ 8 ∧ v = .int .i64 k ∧ J (List.range k) wr ∧ W.heap.size ≤ wr.heap.size) (fun v _ => 8 - (intOf v).toNat)
  case atStart => exact ⟨0, by omega, rfl, by simpa using h0, Nat.le_refl _⟩
  case round =>
    obtain ⟨k, hk, rfl, hJk, hsz⟩ := hrel
    by_cases hlt : k < 8
    · obtain ⟨fn, tmps, assign, body, hy, hR⟩ := HY.out (List.range k) k wr hJk ⟨rfl, hlt⟩
      try simp only [] at hy
      gi_wp2
      refine (hR _).mono ?_
      rintro e W3 ⟨hk3, hkp3, (⟨rfl, hJ3⟩ | ⟨rfl, hJx3⟩)⟩
      · gi_wp2
        go_roundw
        case rel => exact ⟨k + 1, by omega, by simp, by rw [List.range_succ]; exact hJ3, Nat.le_trans hsz hk3.size⟩
        case measure => simp [intOf]; omega
      · gi_wp2
        refine bodyPost_ret (results_none rfl _ _ _) rfl ?_
        exact ⟨⟨_, rfl⟩, .inr ⟨_, ⟨k + 1, by omega, by rw [List.range_succ]⟩, hJx3⟩⟩
    · obtain rfl : k = 8 := by omega
      gi_wp2
      go_end0
      exact ⟨⟨_, rfl⟩, .inl hJk⟩

/-- A box of one's own, that the loop's body does not write. -/
def Box (bs : List Nat) (rb : Option Nat) (B p : Nat) (v : Value) (W : World) : Prop := B ≤ W.heap.size ∧ NotW bs rb p W ∧ W.cell? ⟨p, 0, none⟩ = some v
section
variable {bs : List Nat} {rb : Option Nat} {B p : Nat} {v : Value} {A W W0 : World}
theorem Box.keeps (h : Box bs rb B p v A) (k : Keeps bs rb A W) : Box bs rb B p v W := ⟨Nat.le_trans h.1 k.size, h.2.1.keeps k, h.2.1.cell k h.2.2⟩
theorem Box.own {α : Type} (hf : Foot bs rb W0) : OwnFrom W0.heap.size (fun (_ : α) W => Box bs rb W0.heap.size p v W) := by
  rintro s A W row ⟨hB, hN, hc⟩ hg hr
  have hne : ∀ r, row = some r → p ≠ r := fun r e hpr => by
    obtain ⟨_, o, ho, hcl⟩ := hr r e
    subst hpr
    cases o <;> simp [Obj.isCells] at hcl <;> simp [World.cell?, ho] at hc
  refine ⟨Nat.le_trans hB hg.size, hN.grown (fun b hb => Nat.lt_of_lt_of_le (hf.bl b hb) hB) hf.mem hg (fun r e hrb => ?_), g_cell (a := ⟨p, 0, none⟩) hg hN.1 (fun e => hne p e.symm rfl) ▸ hc⟩
  have h1 : r < W0.heap.size := hf.bl r (hf.mem r hrb)
  have h2 : W0.heap.size ≤ r := (hr r e).1
  omega
theorem Box.new (hf : Foot bs rb W0) (hg : W0.grownBy W none) (hp : W0.heap.size ≤ p) (hc : W.cell? ⟨p, 0, none⟩ = some v) : Box bs rb W0.heap.size p v W := by
  refine ⟨hg.size, ⟨?_, fun hw => hf.new hp (wr_back hf.bl hf.mem hg (fun r e => by cases e) hw)⟩, hc⟩
  have := hc
  by_cases h : p < W.heap.size
  · exact h
  · have h0 : W.heap[p]? = none := Array.getElem?_eq_none (by omega)
    simp [World.cell?, h0] at this
end

set_option maxHeartbeats 1000000 in
theorem all1_iter (W : World) :
    IterAt Try.prog 47 #[] (fun x : Nat => #[.int .i64 x, .int .i64 (pay x)]) (fun _ _ => True) (fun pre x => pre = List.range x ∧ x < 8) (fun ys => ys = List.range 8) (fun pre => ∃ k, k ≤ 8 ∧ pre = List.range k) W := by
  intro l J Jx bs rb hfoot hX hJ hJx hY h0
  have HY := hid hY
  clear hX hY
  have hgW : W.grownBy (W.alloc (.cells #[.func (.yield l) #[] #[]] 78)) none := g_alloc (g_refl W _) _
  have hYb := (Blk.new W [.func (.yield l) #[] #[]] 78).cellOf (i := 0) rfl
  refine calls_of_wp_marks Try.func47 rfl (wpIn_wide.2 ?_)
  simp only [Try.ntmps47, List.size_toArray, List.length_cons, List.length_nil, Nat.reduceAdd, Nat.reduceSub, Array.replicate_succ, Array.replicate_zero, List.push_toArray, List.append_toArray, List.nil_append, List.cons_append, Array.append_empty]
  go_wp2_with (first | apply wp_scope_straight | apply wp_label | (go_at_call 48; refine (numbers_any _).mono ?_; rintro e w1 ⟨rfl, rfl⟩))
  have hs1 : W.heap.size ≤ (W.alloc (.cells #[.func (.yield l) #[] #[]] 78)).heap.size := hgW.size
  have bY := Box.new hfoot hgW (Nat.le_refl _) hYb
  refine wp_of_in (wp_iter (gf := 49) (lb := #[]) rfl (Go.Proofs.enters_of Try.func49 (by kernel_rfl) rfl)
    (encs := fun x : Nat => #[.int .i64 x]) (fun _ => rfl) bs rb (hfoot.grown hgW)
    (fun W1 _ => numbers1_iter W1)
    (fun pre W1 => J pre W1 ∧ Box bs rb W.heap.size W.heap.size (.func (.yield l) #[] #[]) W1)
    (fun c pre W1 => c = .exit 0 ∧ Jx pre W1)
    (own_mono (OwnFrom.and hJ (Box.own hfoot)) hs1)
    (fun c s A B row h hg hr => ⟨h.1, own_mono hJx hs1 s A B row h.2 hg hr⟩)
    (fun pre W1 h => trivial)
    ⟨own_grown hJ h0 hgW, bY⟩
    (fun x a' _ => a' = { tmps := #[.func (.yield l) #[] #[], .pointer (some ⟨W.heap.size, 0, none⟩), .int .i64 x, .func (.func 49) #[] #[], .int .i64 x, undef, undef, undef, undef, undef, undef, undef], defers := [] })
    (fun x a' s A B row h _ _ => h) ?assign ?body ?done ?stop)
  case assign =>
    intro l' pre x W1 K _ _ hK
    gi_wp2
    exact hK _ _ (KeepsFrom.refl _ _) (Keeps.refl _ _ _) (by assumption) rfl
  case body =>
    rintro l' pre x a' W1 hl' ⟨hJ1, bY1⟩ rfl hnx
    have hyc := bY1.2.2
    gi_step
    gi_step
    refine wpIn_region_head (r := some l') (fun w' => w'.cell? ⟨W.heap.size, 0, none⟩ = some (.func (.yield l) #[] #[]) ∧ W1.grownBy w' none) 5 #[true, true, true, true, true, false, false] (by kernel_rfl) (by kernel_rfl) (by kernel_rfl) ?_
    have hS1 : W1.drew.cell? ⟨W.heap.size, 0, none⟩ = some (.func (.yield l) #[] #[]) ∧ W1.grownBy W1.drew none := ⟨hyc, g_drew (g_refl W1 none)⟩
    refine anyH_take (n := 5) 0 (v := .func (.yield l) #[] #[]) rfl (by kernel_rfl) (by kernel_rfl) (.inl ⟨rfl, fun w h => ?load⟩) hS1 ?_
    case load =>
      have h1 := h.1
      simp [go_sem, h1]
    refine anyH_take (n := 5) 1 (v := .int .i64 x) rfl (by kernel_rfl) (by kernel_rfl) (.inl ⟨rfl, fun w h => ?_⟩) hS1 ?_
    · simp [go_sem]
    refine anyH_take (n := 5) 3 (v := .int .i64 x) rfl (by kernel_rfl) (by kernel_rfl) (.inl ⟨rfl, fun w h => ?_⟩) hS1 ?_
    · simp [go_sem]
    refine anyH_only 2 (by kernel_rfl) (hOp_call rfl rfl (f := 28) (args := #[]) ?_ ((payloads_any _).mono ?_))
    · simp [go_sem]
    rintro e w2 ⟨rfl, hg2⟩
    refine ⟨_, rfl, ⟨g_cellN hg2 hyc, g_none hS1.2 hg2⟩, ?_⟩
    refine anyH_take (n := 5) 4 (v := .int .i64 (pay x)) rfl (by kernel_rfl) (by kernel_rfl) (.inl ⟨rfl, fun w h => ?_⟩) ⟨g_cellN hg2 hyc, g_none hS1.2 hg2⟩ ?_
    · simp [go_sem, index_any x hnx.2]
    refine ⟨rfl, ?_⟩
    have hg3 := g_none hS1.2 hg2
    obtain ⟨fn, tmps, assign, body, hy, hR⟩ := HY.out pre x w2 (own_grown hJ hJ1 hg3) hnx
    try simp only [] at hy
    simp only [List.drop_succ_cons, List.drop_zero]
    change wpListIn (Fence.wide.inRound l') 9 _ _ _ _ _ w2
    gi_wp2
    refine (hR _).mono ?_
    rintro e W3 ⟨hk3, hkp3, (⟨rfl, hJ3⟩ | ⟨rfl, hJx3⟩)⟩
    · gi_wp2
      have hkp : Keeps bs rb W1 W3 := (Keeps.grown (fun b hb => Nat.lt_of_lt_of_le (hfoot.bl b hb) bY1.1) hfoot.mem hg3).trans hkp3
      exact ⟨(KeepsFrom.of_grownBy hg3 (fun _ e => by cases e)).trans (keepsFrom_more hk3 hs1), hkp, hJ3, bY1.keeps hkp⟩
    · gi_wp2
      have hkp : Keeps bs rb W1 W3 := (Keeps.grown (fun b hb => Nat.lt_of_lt_of_le (hfoot.bl b hb) bY1.1) hfoot.mem hg3).trans hkp3
      exact ⟨(KeepsFrom.of_grownBy hg3 (fun _ e => by cases e)).trans (keepsFrom_more hk3 hs1), hkp, rfl, hJx3⟩
  case done =>
    rintro D ys W2 hD rfl ⟨hJ2, _⟩ hK
    show bodyPostM Fence.wide 10 _ _ _ .normal _ _
    refine ⟨by simp, .inl ⟨_, _, rfl, run_takeDeferred hK, ?_⟩⟩
    exact ⟨_, results_none rfl _ _ _, ⟨_, rfl⟩, .inl ⟨_, rfl, hJ.putObj _ hJ2 (Nat.le_trans hs1 hD) hK rfl⟩⟩
  case stop =>
    rintro D c pre W2 hD hp ⟨rfl, hJx2⟩ hK
    refine wpIn_exit ?_
    show bodyPostM Fence.wide 10 _ _ _ .normal _ _
    refine ⟨by simp, .inl ⟨_, _, rfl, run_takeDeferred hK, ?_⟩⟩
    exact ⟨_, results_none rfl _ _ _, ⟨_, rfl⟩, .inr ⟨_, hp, hJx.putObj _ hJx2 (Nat.le_trans hs1 hD) hK rfl⟩⟩
end Go.Proofs.Ytfgiokaohbpeiaa
