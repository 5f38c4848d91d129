/-
  All, and what it hands back.
-/
import Derived.Test.YtnpimkigiioiaaaCellIter
import Derived.StillTailTactics
import Derived.Shelf.Abstract
namespace Go.Proofs.Ytnpimkigiioiaaa
open Go.RowKit
set_option maxRecDepth 100000

/-- A box of one's own, that the loop's body does not write. -/
def Box (bs : List Nat) (rb : Option Nat) (B p : Nat) (v : Value) (W : World) : Prop := B ≤ W.heap.size ∧ NotW bs rb p W ∧ W.cell? ⟨p, 0, none⟩ = some v
section
variable {bs : List Nat} {rb : Option Nat} {B p : Nat} {v : Value} {A W W0 : World}
theorem Box.keeps (h : Box bs rb B p v A) (k : Keeps bs rb A W) : Box bs rb B p v W := ⟨Nat.le_trans h.1 k.size, h.2.1.keeps k, h.2.1.cell k h.2.2⟩
theorem Box.own {α : Type} (hf : Foot bs rb W0) : OwnFrom W0.heap.size (fun (_ : α) W => Box bs rb W0.heap.size p v W) := by
  rintro s A W row ⟨hB, hN, hc⟩ hg hr
  have hne : ∀ r, row = some r → p ≠ r := fun r e hpr => by
    obtain ⟨_, o, ho, hcl⟩ := hr r e
    subst hpr
    cases o <;> simp [Obj.isCells] at hcl <;> simp [World.cell?, ho] at hc
  refine ⟨Nat.le_trans hB hg.size, hN.grown (fun b hb => Nat.lt_of_lt_of_le (hf.bl b hb) hB) hf.mem hg (fun r e hrb => ?_), g_cell (a := ⟨p, 0, none⟩) hg hN.1 (fun e => hne p e.symm rfl) ▸ hc⟩
  have h1 : r < W0.heap.size := hf.bl r (hf.mem r hrb)
  have h2 : W0.heap.size ≤ r := (hr r e).1
  omega
theorem Box.new (hf : Foot bs rb W0) (hg : W0.grownBy W none) (hp : W0.heap.size ≤ p) (hc : W.cell? ⟨p, 0, none⟩ = some v) : Box bs rb W0.heap.size p v W := by
  refine ⟨hg.size, ⟨?_, fun hw => hf.new hp (wr_back hf.bl hf.mem hg (fun r e => by cases e) hw)⟩, hc⟩
  have := hc
  by_cases h : p < W.heap.size
  · exact h
  · have h0 : W.heap[p]? = none := Array.getElem?_eq_none (by omega)
    simp [World.cell?, h0] at this
end
theorem wp_of_in {P : Program} {c : Code} {Q : Exit → Act → World → Prop} {a : Act} {w : World} (h : c.wpIn Fence.wide 10 P Q a w) : c.wp P Q a w := wpIn_wide.1 h
theorem own_mono {α : Type} {B B' : Nat} {J : α → World → Prop} (h : OwnFrom B J) (hB : B ≤ B') : OwnFrom B' J := fun s A W row hA hg hr => h s A W row hA hg (fun r e => ⟨Nat.le_trans hB (hr r e).1, (hr r e).2⟩)

theorem those_any (fn : Nat) (a : Option Addr) (n c : Nat) (w : World) : Calls Try.prog 69 #[.func (.func fn) #[] #[], .slice a n c] w fun e w' => ∃ lb sb, e = .returned (.func (.func 74) #[] #[.pointer (some ⟨lb, 0, none⟩), .pointer (some ⟨sb, 0, none⟩)]) ∧ w.grownBy w' none ∧ w.heap.size ≤ lb ∧ w.heap.size ≤ sb ∧ w'.cell? ⟨lb, 0, none⟩ = some (.slice a n c) ∧ w'.cell? ⟨sb, 0, none⟩ = some (.func (.func fn) #[] #[]) := by
  obtain ⟨f, hf⟩ : ∃ f, f = Value.func (.func fn) #[] #[] := ⟨_, rfl⟩
  obtain ⟨v, hv⟩ : ∃ v, v = Value.slice a n c := ⟨_, rfl⟩
  have h1 := Blk.new w [f] 117
  have h2 := Blk.new (w.alloc (.cells #[f] 117)) [v] 97
  subst hf; subst hv
  go_enter Try.func69, Try.ntmps69
  go_wp2
  go_ret
  refine ⟨w.heap.size + 1, w.heap.size, rfl, g_alloc (g_alloc (g_refl w _) _) _, by omega, Nat.le_refl _, ?_, ?_⟩
  · rw [World.size_alloc] at h2; exact h2.cellOf rfl
  · exact (h1.alloc _).cellOf rfl

/-- What All's iterator reads. -/
def AllX (wb : Nat) (v : Value) (xs : List (Int × Int)) (W : World) : Prop := W.cell? ⟨wb, 0, none⟩ = some v ∧ SliceOf W .u64 .i64 v xs

attribute [local go_sem] Oper.semAt_some

set_option maxHeartbeats 1000000 in
theorem all1_iter (wb : Nat) (v : Value) (xs : List (Int × Int)) (W : World) :
    IterAt Try.prog 68 #[.pointer (some ⟨wb, 0, none⟩)] (fun x : Nat × Int => #[.int .i64 x.1, .int .u64 x.2]) (fun _ => AllX wb v xs) (fun pre x => pre ++ [x] <+: nz 0 xs) (fun ys => ys = nz 0 xs) (fun pre => pre <+: nz 0 xs) W := by
  intro l J Jx bs rb hfoot hX hJ hJx hY h0
  have hX0 := hX _ _ h0
  obtain ⟨hwb, a, cap, rfl, hlen, hcells⟩ := hX0
  have HX := hid hX
  have HY := hid hY
  have HC := hid hcells
  clear hX hY hcells
  have hgY : W.grownBy (W.alloc (.cells #[.func (.yield l) #[] #[]] 113)) none := g_alloc (g_refl W _) _
  have hwb2 := g_cellN hgY hwb
  have hYb := (Blk.new W [.func (.yield l) #[] #[]] 113).cellOf (i := 0) rfl
  refine calls_of_wp_marks Try.func68 rfl (wpIn_wide.2 ?_)
  simp only [Try.ntmps68, List.size_toArray, List.length_cons, List.length_nil, Nat.reduceAdd, Nat.reduceSub, Array.replicate_succ, Array.replicate_zero, List.push_toArray, List.append_toArray, List.nil_append, List.cons_append]
  go_wp2_with (first | apply wp_scope_straight | apply wp_label | (go_at_call 69; refine (those_any _ _ _ _ _).mono ?_; rintro e w1 ⟨lb, sb, rfl, hg1, hlb, hsb, hcl, hcs⟩))
  have hgW : W.grownBy w1 none := g_none hgY hg1
  have hs1 : W.heap.size ≤ w1.heap.size := hgW.size
  have bY := Box.new hfoot hgW (Nat.le_refl _) (g_cellN hg1 hYb)
  have bL := Box.new hfoot hgW (by simp at hlb; omega) hcl
  have bS := Box.new hfoot hgW (by simp at hsb; omega) hcs
  refine wp_of_in (wp_iter (gf := 74) (lb := #[.pointer (some ⟨lb, 0, none⟩), .pointer (some ⟨sb, 0, none⟩)]) rfl (Go.Proofs.enters_of Try.func74 (by kernel_rfl) rfl)
    (encs := fun x : Nat × Int => #[.int .i64 x.1]) (fun _ => rfl) bs rb (hfoot.grown hgW)
    (fun W1 _ => those1_iter lb sb (.slice a xs.length cap) xs W1)
    (fun pre W1 => ((J pre W1 ∧ Box bs rb W.heap.size W.heap.size (.func (.yield l) #[] #[]) W1) ∧ Box bs rb W.heap.size lb (.slice a xs.length cap) W1) ∧ Box bs rb W.heap.size sb (.func (.func 70) #[] #[]) W1)
    (fun c pre W1 => c = .exit 0 ∧ Jx pre W1)
    (own_mono (OwnFrom.and (OwnFrom.and (OwnFrom.and hJ (Box.own hfoot)) (Box.own hfoot)) (Box.own hfoot)) hs1)
    (fun c s A B row h hg hr => ⟨h.1, own_mono hJx hs1 s A B row h.2 hg hr⟩)
    (fun pre W1 h => ⟨h.1.2.2.2, h.2.2.2, (HX.out _ _ h.1.1.1).2⟩)
    ⟨⟨⟨own_grown hJ h0 hgW, bY⟩, bL⟩, bS⟩
    (fun x a' _ => a' = { tmps := #[.func (.yield l) #[] #[], .pointer (some ⟨wb, 0, none⟩), .pointer (some ⟨W.heap.size, 0, none⟩), .int .i64 x.1, .slice a xs.length cap, .func (.func 74) #[] #[.pointer (some ⟨lb, 0, none⟩), .pointer (some ⟨sb, 0, none⟩)], .int .i64 x.1, undef, undef, undef, undef, undef, undef, undef, undef, undef], defers := [] })
    (fun x a' s A B row h _ _ => h) ?assign ?body ?done ?stop)
  case assign =>
    intro l' pre x W1 K _ _ hK
    gi_wp2
    exact hK _ _ (KeepsFrom.refl _ _) (Keeps.refl _ _ _) (by assumption) rfl
  case body =>
    rintro l' pre x a' W1 hl' ⟨⟨⟨hJ1, bY1⟩, bL1⟩, bS1⟩ rfl hnx
    obtain ⟨hwb1, hsl1⟩ := HX.out _ _ hJ1
    obtain ⟨_, c, hxc⟩ := nz_mem xs 0 x (hnx.subset (by simp))
    simp only [Nat.sub_zero] at hxc
    have hxl : x.1 < xs.length := (List.getElem?_eq_some_iff.1 hxc).1
    obtain ⟨g, rfl, _⟩ := HC.out (by omega)
    obtain ⟨a2, cap2, e2, _, hc2⟩ := hsl1
    cases e2
    obtain ⟨g2, e2, hc3⟩ := hc2 (by omega)
    cases e2
    obtain ⟨d1, _⟩ := hc3 x.1 x.2 c hxc
    clear hc3 hc2
    have hyc := bY1.2.2
    have hJd : J pre W1.drew := own_grown hJ hJ1 (g_drew (g_refl W1 none))
    obtain ⟨fn, tmps, assign, body, hy, hR⟩ := HY.out pre x W1.drew hJd hnx
    try simp only [] at hy
    gi_step
    gi_step
    refine wpIn_region_still_tail (r := some l') 7 (by kernel_rfl) (by kernel_rfl) (by kernel_rfl) ?_
    simp only [List.take_succ_cons, List.take_zero, List.drop_succ_cons, List.drop_zero]
    repeat still_step
    refine wpStill_nil ?_
    change wpListIn (Fence.wide.inRound l') 9 _ _ _ _ _ W1.drew
    gi_wp2
    refine (hR _).mono ?_
    rintro e W3 ⟨hk3, hkp3, (⟨rfl, hJ3⟩ | ⟨rfl, hJx3⟩)⟩
    · gi_wp2
      have hkp : Keeps bs rb W1 W3 := (Keeps.grown (fun b hb => Nat.lt_of_lt_of_le (hfoot.bl b hb) bY1.1) hfoot.mem (g_drew (g_refl W1 none))).trans hkp3
      exact ⟨⟨hk3.size, (keepsFrom_more hk3 hs1).same⟩, hkp, ⟨⟨hJ3, bY1.keeps hkp⟩, bL1.keeps hkp⟩, bS1.keeps hkp⟩
    · gi_wp2
      have hkp : Keeps bs rb W1 W3 := (Keeps.grown (fun b hb => Nat.lt_of_lt_of_le (hfoot.bl b hb) bY1.1) hfoot.mem (g_drew (g_refl W1 none))).trans hkp3
      exact ⟨⟨hk3.size, (keepsFrom_more hk3 hs1).same⟩, hkp, rfl, hJx3⟩
  case done =>
    rintro D ys W2 hD rfl ⟨⟨⟨hJ2, _⟩, _⟩, _⟩ hK
    show bodyPostM Fence.wide 10 _ _ _ .normal _ _
    refine ⟨by simp, .inl ⟨_, _, rfl, run_takeDeferred hK, ?_⟩⟩
    exact ⟨_, results_none rfl _ _ _, ⟨_, rfl⟩, .inl ⟨_, rfl, hJ.putObj _ hJ2 (Nat.le_trans hs1 hD) hK rfl⟩⟩
  case stop =>
    rintro D c pre W2 hD hp ⟨rfl, hJx2⟩ hK
    refine wpIn_exit ?_
    show bodyPostM Fence.wide 10 _ _ _ .normal _ _
    refine ⟨by simp, .inl ⟨_, _, rfl, run_takeDeferred hK, ?_⟩⟩
    exact ⟨_, results_none rfl _ _ _, ⟨_, rfl⟩, .inr ⟨_, hp, hJx.putObj _ hJx2 (Nat.le_trans hs1 hD) hK rfl⟩⟩

/-- c.All(): of cells. -/
theorem all_some (p g : Nat) (xs : List (Int × Int)) (hx : xs.length ≤ 1000000) (w : World) (h : CellsAt w p g xs) :
    Calls Try.prog 51 #[.pointer (some ⟨p, 0, none⟩)] w fun e w' => ∃ wb v, e = .returned (.func (.func 68) #[] #[.pointer (some ⟨wb, 0, none⟩)]) ∧ AllX wb v xs w' ∧ w.grownBy w' none ∧ (∀ r, v.ownBlock = some r → w.heap.size ≤ r ∧ r < w'.heap.size) ∧ w.heap.size ≤ wb := by
  obtain ⟨cap, c0, hlist⟩ := h.list
  have hgA : w.grownBy (w.alloc (.cells #[.slice none 0 0] 98)) none := g_alloc (g_refl w _) _
  have h2 := h.kept hgA (by simp) (by simp)
  have hlist2 := hlist.keptN hgA
  have c02 := g_cellN hgA c0
  have hb := Blk.new w [.slice none 0 0] 98
  have hbc := hb.cellOf (i := 0) rfl
  have hbf := hb.frozen 0
  go_enter Try.func51, Try.ntmps51
  go_wp2_with (first | (go_at_call 58; refine (none_some _ _ _ _ h2).mono ?_; rintro e w' ⟨rfl, rfl⟩) | (go_at_call 67; refine (clone_any _ xs hx _ hlist2).mono ?_; rintro e w1 ⟨v', rfl, hl', hg', hn'⟩; obtain ⟨g', cap', tail', rfl, hb', hl2, hm2, hcap2⟩ := hl'; have hbc1 := (hb.keptN hg').cellOf (i := 0) rfl; have hbf1 := (hb.keptN hg').frozen 0))
  go_ret
  have hg1 : w.heap.size + 1 ≤ g' := by have := hn' g' rfl; simpa using this
  have hgF := g_set (g_none hgA hg') (a := ⟨w.heap.size, 0, none⟩) (.slice (some ⟨g', 0, none⟩) xs.length cap') (.inr (Nat.le_refl _))
  have hL : ListAt (w1.setCell ⟨w.heap.size, 0, none⟩ (.slice (some ⟨g', 0, none⟩) xs.length cap')) 109 (.slice (some ⟨g', 0, none⟩) xs.length cap') xs := ⟨g', cap', tail', rfl, hb'.other (by simp; omega) _, hl2, hm2, hcap2⟩
  exact ⟨w.heap.size, _, rfl, ⟨((hb.keptN hg').set 0 _).cellOf rfl, SliceOf.list hL hx⟩, hgF, fun r hr => ⟨by simp [Value.ownBlock] at hr; omega, hL.lt r hr⟩, Nat.le_refl _⟩
theorem all_none (v : Option Addr) (w : World) (h : IsNone w v) :
    Calls Try.prog 51 #[.pointer v] w fun e w' => ∃ wb v, e = .returned (.func (.func 68) #[] #[.pointer (some ⟨wb, 0, none⟩)]) ∧ AllX wb v [] w' ∧ w.grownBy w' none ∧ (∀ r, v.ownBlock = some r → w.heap.size ≤ r ∧ r < w'.heap.size) ∧ w.heap.size ≤ wb := by
  have hgA : w.grownBy (w.alloc (.cells #[.slice none 0 0] 98)) none := g_alloc (g_refl w _) _
  have h' : IsNone (w.alloc (.cells #[.slice none 0 0] 98)) v := h.imp id fun ⟨p, hv, hc⟩ => ⟨p, hv, g_cellN hgA hc⟩
  have hb := Blk.new w [.slice none 0 0] 98
  go_enter Try.func51, Try.ntmps51
  go_wp2_with (go_at_call 58; refine (none_none _ _ h').mono ?_; rintro e w' ⟨rfl, rfl⟩)
  go_ret
  exact ⟨w.heap.size, _, rfl, ⟨hb.cellOf rfl, none, 0, rfl, by simp, fun h => by simp at h⟩, hgA, fun r hr => by simp [Value.ownBlock] at hr, Nat.le_refl _⟩
end Go.Proofs.Ytnpimkigiioiaaa
