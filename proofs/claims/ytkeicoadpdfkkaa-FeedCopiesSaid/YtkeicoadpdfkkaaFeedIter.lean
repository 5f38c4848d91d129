/-
  The iterators: turns, Picks.
-/
import Derived.Test.YtkeicoadpdfkkaaFeedMore
import Derived.Test.YtkeicoadpdfkkaaIterM
import Derived.Test.YtkeicoadpdfkkaaHead
import Derived.LoopIn
import Derived.TacticsInMore
import Derived.WalkMore
import Derived.Shelf.Abstract
namespace Go.Proofs.Ytkeicoadpdfkkaa
open Go.RowKit

theorem own_mono {α : Type} {B B' : Nat} {J : α → World → Prop} (h : OwnFrom B J) (hB : B ≤ B') : OwnFrom B' J := fun s A W row hA hg hr => h s A W row hA hg (fun r e => ⟨Nat.le_trans hB (hr r e).1, (hr r e).2⟩)

attribute [local go_sem] Oper.semAt_some

/-- A feed's place, as it lies. -/
def place (p : Nat) (W : World) : Nat := match W.cell? ⟨p, 1, none⟩ with
  | some (.int _ n) => n.toNat
  | _ => 0
theorem FeedAt.place {w : World} {p k : Nat} {v : Value} {xs : List Int} (h : FeedAt w p v xs k) : place p w = k := by
  unfold Go.Proofs.Ytkeicoadpdfkkaa.place
  rw [h.facts.2.1]
  simp
/-- What turns finds: a feed, by a pointer in a box. -/
def TurnX (p b : Nat) (v : Value) (xs : List Int) (k : Nat) (pre : List Nat) (W : World) : Prop := W.cell? ⟨b, 0, none⟩ = some (.pointer (some ⟨p, 0, none⟩)) ∧ FeedAt W p v xs (k + pre.length)

set_option maxHeartbeats 2000000 in
theorem turns1_iter (p b : Nat) (v : Value) (xs : List Int) (k : Nat) (W : World) :
    IterAt Try.prog 47 #[.pointer (some ⟨b, 0, none⟩)] (fun x : Nat => #[.int .i64 x]) (TurnX p b v xs k) (fun pre x => x = xs.length - (k + pre.length) ∧ k + pre.length < xs.length) (fun ys => xs.length ≤ k + ys.length) (fun _ => True) W := by
  intro l J Jx bs rb hfoot hX hJ hJx hY h0
  have HY := hid hY
  have HX := hid hX
  clear hX hY
  refine calls_of_wpIn Try.func47 rfl ?_
  simp only [Try.ntmps47, List.size_toArray, List.length_cons, List.length_nil, Nat.reduceAdd, Nat.reduceSub, Array.replicate_succ, Array.replicate_zero, List.push_toArray, List.append_toArray, List.nil_append, List.cons_append, Array.append_empty]
  gi_wp2
  gi_loopw [3] (fun _ wr => ∃ (pre : List Nat), J pre wr ∧ W.heap.size ≤ wr.heap.size) (fun _ wr => xs.length - place p wr)
  case atStart => exact ⟨[], h0, Nat.le_refl _⟩
  case round =>
    obtain ⟨pre, hJp, hsz⟩ := hrel
    obtain ⟨hb, hF⟩ := HX.out _ _ hJp
    have hpl := hF.place
    have hlf := lft_some p v xs (k + pre.length) wr hF
    have hcl := hF.2.2.2.1
    have HF := hid hF
    have HPL := hid hpl
    clear hF hpl
    by_cases hlt : k + pre.length < xs.length
    · obtain ⟨x, hx⟩ : ∃ x, x = xs.length - (k + pre.length) := ⟨_, rfl⟩
      rw [← hx] at hlf
      have hx0 : (0 : Int) < (x : Int) := by omega
      have HX2 := hid hx
      clear hx
      gi_wp2_with fail
      refine callsIn_wide.2 (hlf.mono ?_)
      rintro e w1 ⟨rfl, n1, rfl⟩
      have hF1 := HF.out.keptN (g_drewM (g_refl wr none) n1)
      have hlf2 := lft_some p v xs (k + pre.length) _ hF1
      rw [← HX2.out] at hlf2
      clear hF1
      gi_wp2_with fail
      refine callsIn_wide.2 (hlf2.mono ?_)
      rintro e w2 ⟨rfl, n2, rfl⟩
      have hg2 : wr.grownBy (wr.drewN (n1 + n2)) none := g_drewM (g_refl wr none) (n1 + n2)
      obtain ⟨fn, tmps, assign, body, hy, hR⟩ := HY.out pre x _ (own_grown hJ hJp hg2) ⟨HX2.out, hlt⟩
      try simp only [] at hy
      gi_wp2
      refine (hR _).mono ?_
      rintro e W3 ⟨hk3, hkp3, (⟨rfl, hJ3⟩ | ⟨rfl, hJx3⟩)⟩
      · gi_wp2
        have hp3 := (HX.out _ _ hJ3).2.place
        go_roundw
        case rel => exact ⟨_, hJ3, Nat.le_trans hsz hk3.size⟩
        case measure =>
          have h1 := HPL.out
          rw [hp3, h1]
          simp
          omega
      · gi_wp2
        go_end0
        exact ⟨⟨_, rfl⟩, .inr ⟨_, trivial, hJx3⟩⟩
    · have hz : xs.length - (k + pre.length) = 0 := by omega
      rw [hz] at hlf
      gi_wp2_with fail
      refine callsIn_wide.2 (hlf.mono ?_)
      rintro e w1 ⟨rfl, n1, rfl⟩
      gi_wp2
      go_end0
      exact ⟨⟨_, rfl⟩, .inl ⟨pre, by omega, own_grown hJ hJp (g_drewM (g_refl wr none) n1)⟩⟩

/-- Of no feed: nothing. -/
theorem turns1_none (u : Option Addr) (b : Nat) (W : World) :
    IterAt Try.prog 47 #[.pointer (some ⟨b, 0, none⟩)] (fun x : Nat => #[.int .i64 x]) (fun _ W => W.cell? ⟨b, 0, none⟩ = some (.pointer u) ∧ IsNone W u) (fun _ _ => False) (fun ys => ys = []) (fun _ => False) W := by
  intro l J Jx bs rb hfoot hX hJ hJx hY h0
  obtain ⟨hb, hN⟩ := hX _ _ h0
  have hlf := lft_none u W hN
  clear hX hY hN
  refine calls_of_wpIn Try.func47 rfl ?_
  simp only [Try.ntmps47, List.size_toArray, List.length_cons, List.length_nil, Nat.reduceAdd, Nat.reduceSub, Array.replicate_succ, Array.replicate_zero, List.push_toArray, List.append_toArray, List.nil_append, List.cons_append, Array.append_empty]
  gi_wp2
  gi_loopw [3] (fun _ wr => W = wr) (fun _ wr => 0)
  case atStart => rfl
  case round =>
    obtain rfl := hrel
    gi_wp2_with fail
    refine callsIn_wide.2 (hlf.mono ?_)
    rintro e w1 ⟨rfl, rfl⟩
    gi_wp2
    go_end0
    exact ⟨⟨_, rfl⟩, .inl ⟨[], rfl, h0⟩⟩
end Go.Proofs.Ytkeicoadpdfkkaa
