/-
  The iterator Picks, which writes the feed between the rounds.
-/
import Derived.Test.YtkeicoadpdfkkaaFeedIter
namespace Go.Proofs.Ytkeicoadpdfkkaa
open Go.RowKit

/-- A box of one's own, that the loop's body does not write. -/
def Box (bs : List Nat) (rb : Option Nat) (B p : Nat) (v : Value) (W : World) : Prop := B ≤ W.heap.size ∧ NotW bs rb p W ∧ W.cell? ⟨p, 0, none⟩ = some v
section
variable {bs : List Nat} {rb : Option Nat} {B p : Nat} {v : Value} {A W W0 : World}
theorem Box.keeps (h : Box bs rb B p v A) (k : Keeps bs rb A W) : Box bs rb B p v W := ⟨Nat.le_trans h.1 k.size, h.2.1.keeps k, h.2.1.cell k h.2.2⟩
theorem Box.own {α : Type} (hf : Foot bs rb W0) : OwnFrom W0.heap.size (fun (_ : α) W => Box bs rb W0.heap.size p v W) := by
  rintro s A W row ⟨hB, hN, hc⟩ hg hr
  have hne : ∀ r, row = some r → p ≠ r := fun r e hpr => by
    obtain ⟨_, o, ho, hcl⟩ := hr r e
    subst hpr
    cases o <;> simp [Obj.isCells] at hcl <;> simp [World.cell?, ho] at hc
  refine ⟨Nat.le_trans hB hg.size, hN.grown (fun b hb => Nat.lt_of_lt_of_le (hf.bl b hb) hB) hf.mem hg (fun r e hrb => ?_), g_cell (a := ⟨p, 0, none⟩) hg hN.1 (fun e => hne p e.symm rfl) ▸ hc⟩
  have h1 : r < W0.heap.size := hf.bl r (hf.mem r hrb)
  have h2 : W0.heap.size ≤ r := (hr r e).1
  omega
theorem Box.new (hf : Foot bs rb W0) (hg : W0.grownBy W none) (hp : W0.heap.size ≤ p) (hc : W.cell? ⟨p, 0, none⟩ = some v) : Box bs rb W0.heap.size p v W := by
  refine ⟨hg.size, ⟨?_, fun hw => hf.new hp (wr_back hf.bl hf.mem hg (fun r e => by cases e) hw)⟩, hc⟩
  have := hc
  by_cases h : p < W.heap.size
  · exact h
  · have h0 : W.heap[p]? = none := Array.getElem?_eq_none (by omega)
    simp [World.cell?, h0] at this
end

theorem turns_any (u : Option Addr) (w : World) : Calls Try.prog 46 #[.pointer u] w fun e w' => ∃ b, e = .returned (.func (.func 47) #[] #[.pointer (some ⟨b, 0, none⟩)]) ∧ w'.cell? ⟨b, 0, none⟩ = some (.pointer u) ∧ w.heap.size ≤ b ∧ w.grownBy w' none := by
  have h1 := (Blk.new w [.pointer u] 24).cellOf (i := 0) rfl
  go_enter Try.func46, Try.ntmps46
  go_wp2
  go_ret
  exact ⟨w.heap.size, rfl, h1, Nat.le_refl _, g_alloc (g_refl w none) _⟩
theorem Picks_any (u : Option Addr) (n : Int) (w : World) : Calls Try.prog 42 #[.pointer u, .int .i64 n] w fun e w' => ∃ b, e = .returned (.func (.func 45) #[] #[.pointer (some ⟨b, 0, none⟩), .pointer (some ⟨b + 1, 0, none⟩)]) ∧ w'.cell? ⟨b, 0, none⟩ = some (.pointer u) ∧ w'.cell? ⟨b + 1, 0, none⟩ = some (.int .i64 n) ∧ w.heap.size ≤ b ∧ w.grownBy w' none := by
  have h1 := ((Boxed.new w 24 (.pointer u)).alloc (.cells #[.int .i64 n] 3)).cell
  have h2 := (Boxed.new (w.alloc (.cells #[.pointer u] 24)) 3 (.int .i64 n)).cell
  rw [World.size_alloc] at h2
  go_enter Try.func42, Try.ntmps42
  go_wp2
  go_ret
  exact ⟨w.heap.size, rfl, h1, h2, Nat.le_refl _, g_alloc (g_alloc (g_refl w none) _) _⟩

attribute [local go_sem] Oper.semAt_some

/-- What Picks finds. -/
def PickX (p b1 b2 : Nat) (v : Value) (xs : List Int) (k : Nat) (n : Int) (pre : List Int) (W : World) : Prop := W.cell? ⟨b1, 0, none⟩ = some (.pointer (some ⟨p, 0, none⟩)) ∧ W.cell? ⟨b2, 0, none⟩ = some (.int .i64 n) ∧ FeedAt W p v xs (k + pre.length)
def PickNx (xs : List Int) (k : Nat) (n : Int) (pre : List Int) (x : Int) : Prop := k + pre.length < xs.length ∧ x = pickV ((xs.drop (k + pre.length)).take 1) n
def PickSt (p : Nat) (v : Value) (xs : List Int) (k : Nat) (pre : List Int) (_ : Int) (W1 W2 : World) : Prop := W1.grownBy W2 (some p) ∧ FeedAt W2 p v xs (k + pre.length + 1)

set_option maxHeartbeats 4000000 in
theorem picks1_ok (p b1 b2 : Nat) (v : Value) (xs : List Int) (hu : ∀ x ∈ xs, 0 ≤ x ∧ x < 256) (k : Nat) (n : Int) (hn : 1 ≤ n) (hn2 : n ≤ 256) (W : World) :
    IterAtG [p] Try.prog 45 #[.pointer (some ⟨b1, 0, none⟩), .pointer (some ⟨b2, 0, none⟩)] (fun x : Int => #[.int .i64 x]) (PickX p b1 b2 v xs k n) (PickSt p v xs k) (PickNx xs k n) (fun ys => xs.length ≤ k + ys.length) (fun _ => True) W := by
  intro l J Jx bs rb hfoot hown hX hJ hJx hY h0
  have HY := hid hY
  have HX := hid hX
  have hX0 := hX _ _ h0
  have hpW := hX0.2.2.facts.2.2.2
  have x1 := g_cellN (g_alloc (g_refl W none) (.cells #[.func (.yield l) #[] #[]] 81)) hX0.1
  clear hX hY hX0
  have hnp : p ∉ bs := hown p (by simp)
  have hgW : W.grownBy (W.alloc (.cells #[.func (.yield l) #[] #[]] 81)) none := g_alloc (g_refl W _) _
  have hYb := (Blk.new W [.func (.yield l) #[] #[]] 81).cellOf (i := 0) rfl
  have hturns := turns_any (some ⟨p, 0, none⟩)
  refine calls_of_wp_marks Try.func45 rfl (wpIn_wide.2 ?_)
  simp only [Try.ntmps45, List.size_toArray, List.length_cons, List.length_nil, Nat.reduceAdd, Nat.reduceSub, Array.replicate_succ, Array.replicate_zero, List.push_toArray, List.append_toArray, List.nil_append, List.cons_append, Array.append_empty]
  go_wp2_with (first | apply wp_scope_straight | apply wp_label)
  refine (hturns _).mono ?_
  rintro e w1 ⟨tb, rfl, ht, htb, hg1⟩
  go_wp2_with (first | apply wp_scope_straight | apply wp_label)
  have hgW1 := g_none hgW hg1
  have hs1 : W.heap.size ≤ w1.heap.size := hgW1.size
  have hfootP : Foot (p :: bs) rb W := ⟨fun b hw => by
    rcases hw with hm | h2
    · rcases List.mem_cons.1 hm with rfl | hm
      · exact hpW
      · exact hfoot.bl b hm
    · exact hfoot.lt b (.inr h2), fun r hr => List.mem_cons_of_mem _ (hfoot.mem r hr)⟩
  have bY := Box.new hfootP hgW1 (Nat.le_refl _) (g_cellN hg1 hYb)
  have bT := Box.new hfootP hgW1 (by simp at htb; omega) ht
  have hrbp : rb ≠ some p := fun e => hnp (hfoot.mem p e)
  refine wp_of_in (wp_iter (gf := 47) (lb := #[.pointer (some ⟨tb, 0, none⟩)]) rfl (Go.Proofs.enters_of Try.func47 (by kernel_rfl) rfl)
    (encs := fun x : Nat => #[.int .i64 x]) (fun _ => rfl) (p :: bs) rb (hfootP.grown hgW1)
    (fun W1 _ => turns1_iter p tb v xs k W1)
    (fun pre' W1 => ∃ pre : List Int, pre.length = pre'.length ∧ J pre W1 ∧ Box (p :: bs) rb W.heap.size W.heap.size (.func (.yield l) #[] #[]) W1 ∧ Box (p :: bs) rb W.heap.size tb (.pointer (some ⟨p, 0, none⟩)) W1)
    (fun c pre' W1 => c = .exit 0 ∧ ∃ pre : List Int, Jx pre W1)
    (fun s A B row ⟨pre, h1, h2, h3, h4⟩ hg hr => ⟨pre, h1, own_mono hJ hs1 pre A B row h2 hg hr, own_mono (Box.own (α := Unit) hfootP) hs1 () A B row h3 hg hr, own_mono (Box.own (α := Unit) hfootP) hs1 () A B row h4 hg hr⟩)
    (fun c s A B row ⟨hc, pre, h2⟩ hg hr => ⟨hc, pre, own_mono hJx hs1 pre A B row h2 hg hr⟩)
    (fun pre' W1 ⟨pre, h1, h2, h3, h4⟩ => ⟨h4.2.2, by rw [← h1]; exact (HX.out _ _ h2).2.2⟩)
    ⟨[], rfl, own_grown hJ h0 hgW1, bY, bT⟩
    (fun x a' _ => a' = { tmps := #[.func (.yield l) #[] #[], .pointer (some ⟨b1, 0, none⟩), .pointer (some ⟨b2, 0, none⟩), .pointer (some ⟨W.heap.size, 0, none⟩), undef, undef, .pointer (some ⟨p, 0, none⟩), .func (.func 47) #[] #[.pointer (some ⟨tb, 0, none⟩)], .int .i64 x, undef, undef, undef, undef, undef, undef, undef, undef, undef, undef, undef, undef, undef, undef], defers := [] })
    (fun x a' s A B row h _ _ => h) ?assign ?body ?done ?stop)
  case assign =>
    intro l' pre x W1 K _ _ hK
    gi_wp2
    exact hK _ _ (KeepsFrom.refl _ _) (Keeps.refl _ _ _) (by assumption) (by simp)
  case body =>
    rintro l' pre' x a' W1 hl' ⟨pre, hpl, hJ1, bY1, bT1⟩ rfl ⟨hx1, hx2⟩
    rw [← hpl] at hx1 hx2
    obtain ⟨c1, c2, hF⟩ := HX.out _ _ hJ1
    have hpk := pick_ok p v xs hu (k + pre.length) 1 (by omega) n hn hn2 W1 hF
    have hNx : PickNx xs k n pre (pickV ((xs.drop (k + pre.length)).take 1) n) := ⟨hx2, rfl⟩
    generalize pickV ((xs.drop (k + pre.length)).take 1) n = y at *
    clear hx1 hF
    gi_wp2_with fail
    refine callsIn_wide.2 (hpk.mono ?_)
    rintro e W2 ⟨rfl, hF2, hg2⟩
    have hyc := g_cell (a := ⟨W.heap.size, 0, none⟩) hg2 bY1.2.1.1 (fun e => by cases e; exact bY1.2.1.2 (.inl (by simp)))
    rw [bY1.2.2] at hyc
    obtain ⟨fn, tmps, assign, body, hy, hR⟩ := HY.out pre y W1 W2 hJ1 hNx ⟨hg2, hF2⟩
    try simp only [] at hy
    have hkB : Keeps (p :: bs) rb W1 W2 := Keeps.one (fun b hb => by
      have h1 := hfootP.bl b hb
      exact Nat.lt_of_lt_of_le h1 bY1.1) hfootP.mem hg2 (.inl (.inl (by simp))) hrbp
    have hkF : KeepsFrom W.heap.size W1 W2 := KeepsFrom.of_grownBy hg2 (fun j e => by cases e; exact hpW)
    clear hpk hF2 c1 c2
    gi_wp2
    refine (hR _).mono ?_
    rintro e W3 ⟨hk3, hkp3, (⟨rfl, hJ3⟩ | ⟨rfl, hJx3⟩)⟩
    · gi_wp2
      have hkp := hkB.trans (hkp3.more p)
      exact ⟨keepsFrom_more (hkF.trans hk3) hs1, hkp, _, by simp [hpl], hJ3, bY1.keeps hkp, bT1.keeps hkp⟩
    · gi_wp2
      exact ⟨keepsFrom_more (hkF.trans hk3) hs1, hkB.trans (hkp3.more p), rfl, _, hJx3⟩
  case done =>
    rintro D ys W2 hD hS ⟨pre, hpl, hJ2, _⟩ hK
    show bodyPostM Fence.wide 10 _ _ _ .normal _ _
    refine ⟨by simp, .inl ⟨_, _, rfl, run_takeDeferred hK, ?_⟩⟩
    exact ⟨_, results_none rfl _ _ _, ⟨_, rfl⟩, .inl ⟨pre, by rw [hpl]; exact hS, hJ.putObj _ hJ2 (Nat.le_trans hs1 hD) hK rfl⟩⟩
  case stop =>
    rintro D c pre' W2 hD hp ⟨rfl, pre, hJx2⟩ hK
    refine wpIn_exit ?_
    show bodyPostM Fence.wide 10 _ _ _ .normal _ _
    refine ⟨by simp, .inl ⟨_, _, rfl, run_takeDeferred hK, ?_⟩⟩
    exact ⟨_, results_none rfl _ _ _, ⟨_, rfl⟩, .inr ⟨pre, trivial, hJx.putObj _ hJx2 (Nat.le_trans hs1 hD) hK rfl⟩⟩
end Go.Proofs.Ytkeicoadpdfkkaa
