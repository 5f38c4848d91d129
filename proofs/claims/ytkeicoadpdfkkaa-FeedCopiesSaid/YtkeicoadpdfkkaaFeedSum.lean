/-
  A feed in memory: the number of some bytes, the lowest ahead; an iterator from behind.
-/
import Derived.Test.YtkeicoadpdfkkaaFeedLeft
import Derived.LoopIn
import Derived.TacticsInMore
import Derived.WalkMore
import Derived.Shelf.Abstract
namespace Go.Proofs.Ytkeicoadpdfkkaa
open Go.RowKit

theorem own_grown {α : Type} {B : Nat} {J : α → World → Prop} (h : OwnFrom B J) {s : α} {A W : World} (hA : J s A) (hg : A.grownBy W none) : J s W := h s A W none hA hg (fun r e => by cases e)

theorem back_any (v : Value) (a : Option Addr) (n c : Nat) (hv : v = .slice a n c) (w : World) :
    Calls Try.prog 41 #[v] w fun e w' => ∃ lb, e = .returned (.func (.func 44) #[] #[.pointer (some ⟨lb, 0, none⟩)]) ∧ w.grownBy w' none ∧ w.heap.size ≤ lb ∧ w'.cell? ⟨lb, 0, none⟩ = some v := by
  have h1 := Blk.new w [v] 22
  subst hv
  go_enter Try.func41, Try.ntmps41
  go_wp2
  go_ret
  exact ⟨w.heap.size, rfl, g_alloc (g_refl w _) _, Nat.le_refl _, h1.cellOf rfl⟩

def BackX (lb : Nat) (v : Value) (xs : List Int) (W : World) : Prop := W.cell? ⟨lb, 0, none⟩ = some v ∧ LB W v xs

attribute [local go_sem] Oper.semAt_some

set_option maxHeartbeats 1000000 in
theorem back1_iter (lb : Nat) (v : Value) (xs : List Int) (W : World) :
    IterAt Try.prog 44 #[.pointer (some ⟨lb, 0, none⟩)] (fun x : Nat × Int => #[.int .i64 x.1, .int .u8 x.2]) (fun _ => BackX lb v xs)
      (fun pre x => x.1 + pre.length + 1 = xs.length ∧ xs[x.1]? = some x.2) (fun ys => ys.length = xs.length) (fun _ => True) W := by
  intro l J Jx bs rb hfoot hX hJ hJx hY h0
  obtain ⟨hlb, hL⟩ := hX _ _ h0
  obtain ⟨a, cap, rfl, hlen, hcp, hm, hcc⟩ := id hL
  clear hcc
  have HX := hid hX
  have HY := hid hY
  clear hX hY
  refine calls_of_wpIn Try.func44 rfl ?_
  simp only [Try.ntmps44, List.size_toArray, List.length_cons, List.length_nil, Nat.reduceAdd, Nat.reduceSub, Array.replicate_succ, Array.replicate_zero, List.push_toArray, List.append_toArray, List.nil_append, List.cons_append]
  gi_wp2
  gi_loopw [3] (fun v wr => ∃ (k : Nat) (pre : List (Nat × Int)), k + pre.length = xs.length ∧ v = .int .i64 ((k : Int) - 1) ∧ J pre wr ∧ W.heap.size ≤ wr.heap.size) (fun v _ => (intOf v + 1).toNat)
  case atStart => exact ⟨xs.length, [], by simp, by go_num, h0, Nat.le_refl _⟩
  case round =>
    obtain ⟨k, pre, hkp, rfl, hJk, hsz⟩ := hrel
    have HKP := hid hkp
    cases k with
    | zero =>
      clear hkp
      gi_wp2
      refine bodyPost_end (results_none rfl _ _ _) rfl ?_
      exact ⟨⟨_, rfl⟩, .inl ⟨pre, by have := HKP.out; omega, hJk⟩⟩
    | succ k =>
      obtain ⟨hl1, hL1⟩ := HX.out _ _ hJk
      have hkl : k < xs.length := by omega
      obtain ⟨x, hx⟩ : ∃ x, xs[k]? = some x := ⟨xs[k], List.getElem?_eq_getElem hkl⟩
      obtain ⟨g, off, cap', e', d0⟩ := hL1.at hx
      cases e'
      obtain ⟨fn, tmps, assign, body, hy, hR⟩ := HY.out pre (k, x) wr hJk ⟨by show k + pre.length + 1 = xs.length; omega, hx⟩
      try simp only [] at hy
      have hk1 : (((k + 1 : Nat) : Int) - 1) = (k : Int) := by omega
      rw [hk1]
      clear hkp hx hk1
      gi_wp2_with fail
      refine (hR _).mono ?_
      rintro e W3 ⟨hk3, hkp3, (⟨rfl, hJ3⟩ | ⟨rfl, hJx3⟩)⟩
      · gi_wp2
        go_roundw
        case rel => exact ⟨k, pre ++ [(k, x)], by have := HKP.out; simp; omega, by go_num, hJ3, Nat.le_trans hsz hk3.size⟩
        case measure => simp [intOf]
      · gi_wp2
        refine bodyPost_ret (results_none rfl _ _ _) rfl ?_
        exact ⟨⟨_, rfl⟩, .inr ⟨_, trivial, hJx3⟩⟩

def stepV (n c : Int) : Int := bits BinOp.or IntKind.u32 (n * 256 % 4294967296) (c % 4294967296)
/-- The number of some bytes. -/
def sumV (xs : List Int) : Int := xs.foldr (fun c n => stepV n c) 0

set_option maxHeartbeats 1000000 in
theorem sum_any (v : Value) (xs : List Int) (w : World) (h : LB w v xs) :
    Calls Try.prog 30 #[v] w fun e w' => e = .returned (.int .u32 (sumV xs)) ∧ w.grownBy w' none := by
  obtain ⟨a, cap, hv, hlen, hcp, hm, hcc⟩ := id h
  subst hv
  clear hcc
  have hgA := g_alloc (g_refl w none) (.cells #[.int .u32 0] 35)
  have bO := Blk.new w [.int .u32 0] 35
  have hA := h.keptN hgA
  refine calls_of_wp_marks Try.func30 rfl (wpIn_wide.2 ?_)
  simp only [Try.ntmps30, List.size_toArray, List.length_cons, List.length_nil, Nat.reduceAdd, Nat.reduceSub, Array.replicate_succ, Array.replicate_zero, List.push_toArray, List.append_toArray, List.nil_append, List.cons_append]
  go_wp2_with (first | apply wp_scope_straight | apply wp_label)
  refine (back_any _ _ _ _ rfl _).mono ?_
  rintro e w2 ⟨lb, rfl, hg2, hlb, hcl⟩
  go_wp2_with (first | apply wp_scope_straight | apply wp_label)
  have hgW : w.grownBy w2 none := g_none hgA hg2
  have hs2 : w.heap.size + 1 ≤ w2.heap.size := by have := hg2.size; simpa using this
  have bO2 := bO.keptN hg2
  have hlbw : w.heap.size + 1 ≤ lb := by simpa using hlb
  have HL2 := hid (h.keptN hgW)
  have hfoot : Foot [w.heap.size] none w2 := ⟨fun b hw => by
    rcases hw with hm' | ⟨r, u, hr, hc, hu⟩
    · simp at hm'; omega
    · exact absurd hr (by simp), fun r hr => absurd hr (by simp)⟩
  have nlb : lb ∉ [w.heap.size] := by simp; omega
  have HKL : ∀ W : World, KeepW [w.heap.size] w2 W → LB W (.slice a xs.length cap) xs := fun W hk => by
    obtain ⟨a', cap', e, h1, h2, h3, hc⟩ := h
    cases e
    refine ⟨a, cap, rfl, h1, h2, h3, fun h0 => ?_⟩
    obtain ⟨g, off, rfl, hx⟩ := hc h0
    exact ⟨g, off, rfl, fun i x hi => hk.cell (g_cellN hgW (hx i x hi)) (by have := cell_lt (hx i x hi); simp; omega)⟩
  have HK := hid HKL
  clear HKL h hA bO HL2
  refine wp_of_in (wp_iter (gf := 44) (lb := #[.pointer (some ⟨lb, 0, none⟩)]) rfl (Go.Proofs.enters_of Try.func44 (by kernel_rfl) rfl)
    (encs := fun x : Nat × Int => #[.int .i64 x.1, .int .u8 x.2]) (fun _ => rfl) [w.heap.size] none hfoot
    (fun W1 _ => back1_iter lb (.slice a xs.length cap) xs W1)
    (fun pre W1 => (Blk W1 w.heap.size 35 [.int .u32 (sumV (xs.drop (xs.length - pre.length)))] ∧ pre.length ≤ xs.length) ∧ KeepW [w.heap.size] w2 W1)
    (fun c pre W1 => False)
    (OwnFrom.and (OwnFrom.and (Own.from (blk_own _ _ _) _) (Own.from (pure_own (fun (pre : List (Nat × Int)) => pre.length ≤ xs.length)) _)) KeepW.own)
    (fun c s A B row h hg hr => h)
    (fun pre W1 h => ⟨h.2.cell hcl nlb, HK.out _ h.2⟩)
    ⟨⟨by simpa [sumV] using bO2, by simp⟩, KeepW.refl _ _⟩
    (fun x a' _ => a' = { tmps := #[.slice a xs.length cap, undef, .pointer (some ⟨w.heap.size, 0, none⟩), undef, .int .u8 x.2, .slice a xs.length cap, .func (.func 44) #[] #[.pointer (some ⟨lb, 0, none⟩)], .int .i64 x.1, .int .u8 x.2, undef, undef, undef, undef, undef, undef], defers := [] })
    (fun x a' s A B row h _ _ => h) ?assign ?body ?done ?stop)
  case assign =>
    intro l' pre x W1 K _ hN0 hK
    clear hN0
    gi_wp2
    exact hK _ _ (KeepsFrom.refl _ _) (Keeps.refl _ _ _) (by assumption) rfl
  case body =>
    rintro l' pre ⟨i, x⟩ a' W1 hl' ⟨⟨hb, hpl⟩, hkw⟩ rfl ⟨hix, hx⟩
    simp only [] at hix hx
    have HX := hid hx
    have HI := hid hix
    obtain ⟨S, hS⟩ : ∃ S, S = sumV (xs.drop (xs.length - pre.length)) := ⟨_, rfl⟩
    rw [← hS] at hb
    have HS := hid hS
    have hc1 := hb.cellOf (i := 0) rfl
    have hf1 := hb.frozen 0
    clear hx hix hS
    gi_wp2_with fail
    have st := (Stp.refl [w.heap.size] W1).set (b := w.heap.size) (i := 0) (.int .u32 (bits BinOp.or IntKind.u32 (S * 256 % 4294967296) (x % 4294967296))) (.inl (by simp))
    have hb' := hb.set 0 (.int .u32 (bits BinOp.or IntKind.u32 (S * 256 % 4294967296) (x % 4294967296)))
    have hI := HI.out
    have hd : xs.drop (xs.length - (pre ++ [(i, x)]).length) = x :: xs.drop (xs.length - pre.length) := by
      have e1 : xs.length - (pre ++ [(i, x)]).length = i := by simp; omega
      have e2 : xs.length - pre.length = i + 1 := by omega
      rw [e1, e2]
      have hil := (List.getElem?_eq_some_iff.1 HX.out)
      rw [List.drop_eq_getElem_cons hil.1, hil.2]
    refine ⟨st.2.from _, st.1.keeps, ⟨?_, by simp; omega⟩, hkw.trans st.1⟩
    have hv : sumV (x :: xs.drop (xs.length - pre.length)) = bits BinOp.or IntKind.u32 (S * 256 % 4294967296) (x % 4294967296) := by
      rw [HS.out]; rfl
    rw [hd, hv]
    exact hb'
  case done =>
    rintro D ys W1 hD hys ⟨⟨hb, hpl⟩, hkw⟩ hK
    rw [hys, Nat.sub_self, List.drop_zero] at hb
    obtain ⟨S, hS⟩ : ∃ S, S = sumV xs := ⟨_, rfl⟩
    rw [← hS] at hb
    have HS0 := hid hS
    clear hS
    have hc1 := hb.cellOf (i := 0) rfl
    have hf1 := hb.frozen 0
    have hne : D ≠ w.heap.size := by omega
    have hK' : (W1.setCell ⟨w.heap.size, 0, none⟩ (.int .u32 S)).heap[D]? = some (.deferred (some [])) := (Below.heap_setCell _ _ _ D hne).trans hK
    have hb2 : Blk _ w.heap.size 35 [.int .u32 S] := (hb.set 0 (.int .u32 S)).kept (grownBy_putObj' _ D (.deferred none)) (by simp; omega)
    have hkF : KeepW [w.heap.size] w2 ((W1.setCell ⟨w.heap.size, 0, none⟩ (.int .u32 S)).putObj D (.deferred none)) := (hkw.set _ (.inl (by simp))).grown (grownBy_putObj' _ D _) (fun r e => by cases e; exact .inr hD)
    go_wp2_with fail
    try refine noGoto_retI ?_
    refine ⟨by simp, .inl ⟨_, _, rfl, run_takeDeferred hK', ?_⟩⟩
    exact ⟨_, results_box rfl _ _ w.heap.size _ _ rfl Try.underlying35 rfl (hb2.cellOf (i := 0) rfl), by rw [HS0.out], hkF.byOne hgW (fun b hb => by simp at hb; exact .inr (by omega))⟩
  case stop =>
    rintro D c pre W2 hD hp h hK
    exact h.elim
end Go.Proofs.Ytkeicoadpdfkkaa
