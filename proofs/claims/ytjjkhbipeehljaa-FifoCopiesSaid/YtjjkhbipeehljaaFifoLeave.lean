/-
  A quarantine in memory: going over what leaves.
-/
import Derived.Test.YtjjkhbipeehljaaFifoLeft
import Derived.Test.YtjjkhbipeehljaaStage
import Derived.LoopIn
import Derived.TacticsInMore
import Derived.WalkMore
namespace Go.Proofs.Ytjjkhbipeehljaa
open Go.RowKit

theorem own_grown {α : Type} {B : Nat} {J : α → World → Prop} (h : OwnFrom B J) {s : α} {A W : World} (hA : J s A) (hg : A.grownBy W none) : J s W := h s A W none hA hg (fun r e => by cases e)

theorem leaving_any (v : Value) (a : Option Addr) (n c : Nat) (hv : v = .slice a n c) (fb : Nat) (w : World) :
    Calls Try.prog 41 #[v, .func (.func 42) #[] #[.pointer (some ⟨fb, 0, none⟩)]] w fun e w' => ∃ lb sb, e = .returned (.func (.func 47) #[] #[.pointer (some ⟨lb, 0, none⟩), .pointer (some ⟨sb, 0, none⟩)]) ∧ w.grownBy w' none ∧
      w.heap.size ≤ lb ∧ w.heap.size ≤ sb ∧ w'.cell? ⟨lb, 0, none⟩ = some v ∧ w'.cell? ⟨sb, 0, none⟩ = some (.func (.func 42) #[] #[.pointer (some ⟨fb, 0, none⟩)]) := by
  obtain ⟨f, hf⟩ : ∃ f, f = Value.func (.func 42) #[] #[.pointer (some ⟨fb, 0, none⟩)] := ⟨_, rfl⟩
  have h1 := Blk.new w [v] 23
  have h2 := Blk.new (w.alloc (.cells #[v] 23)) [f] 85
  subst hf; subst hv
  go_enter Try.func41, Try.ntmps41
  go_wp2
  go_ret
  refine ⟨w.heap.size, w.heap.size + 1, rfl, g_alloc (g_alloc (g_refl w _) _) _, Nat.le_refl _, by omega, ?_, ?_⟩
  · exact (h1.alloc _).cellOf rfl
  · rw [World.size_alloc] at h2; exact h2.cellOf rfl

/-- What the rounds read. -/
def LeavX (lb sb fb p : Nat) (M Y : Int) (v : Value) (xs : List T3) (W : World) : Prop :=
  W.cell? ⟨lb, 0, none⟩ = some v ∧ W.cell? ⟨sb, 0, none⟩ = some (.func (.func 42) #[] #[.pointer (some ⟨fb, 0, none⟩)]) ∧
    W.cell? ⟨fb, 0, none⟩ = some (.pointer (some ⟨p, 0, none⟩)) ∧ W.cell? ⟨p, 0, none⟩ = some (.int .i64 M) ∧ W.cell? ⟨p, 1, none⟩ = some (.int .i64 Y) ∧ L3 W v xs
def fits (M Y : Int) (xs : List T3) : Bool := fitB M Y xs.length (sum3 xs)

attribute [local go_sem] Oper.semAt_some

set_option maxHeartbeats 1000000 in
theorem leaving1_iter (lb sb fb p : Nat) (M Y : Int) (v : Value) (xs : List T3) (hG : Good xs) (W : World) :
    IterAt Try.prog 47 #[.pointer (some ⟨lb, 0, none⟩), .pointer (some ⟨sb, 0, none⟩)] (fun i : Nat => #[.int .i64 i]) (fun _ => LeavX lb sb fb p M Y v xs)
      (fun pre i => i = pre.length ∧ i < xs.length ∧ fits M Y (xs.drop i) = false) (fun ys => ys.length ≤ xs.length ∧ (ys.length = xs.length ∨ fits M Y (xs.drop ys.length) = true)) (fun _ => True) W := by
  intro l J Jx bs rb hfoot hX hJ hJx hY h0
  obtain ⟨hlb, hsb, hfb, hp0, hp1, hL⟩ := hX _ _ h0
  obtain ⟨a, cap, rfl, hlen, hcp, hm, _⟩ := id hL
  have HX := hid hX
  have HY := hid hY
  have HG := hid hG
  clear hX hY hG
  refine calls_of_wpIn Try.func47 rfl ?_
  simp only [Try.ntmps47, List.size_toArray, List.length_cons, List.length_nil, Nat.reduceAdd, Nat.reduceSub, Array.replicate_succ, Array.replicate_zero, List.push_toArray, List.append_toArray, List.nil_append, List.cons_append]
  gi_wp2
  gi_loopw [7] (fun v wr => ∃ (pre : List Nat), pre.length ≤ xs.length ∧ v = .int .i64 pre.length ∧ J pre wr ∧ W.heap.size ≤ wr.heap.size) (fun v _ => xs.length - (intOf v).toNat)
  case atStart => exact ⟨[], Nat.zero_le _, rfl, h0, Nat.le_refl _⟩
  case round =>
    obtain ⟨pre, hk, rfl, hJk, hsz⟩ := hrel
    obtain ⟨k, hkk⟩ : ∃ k, k = pre.length := ⟨_, rfl⟩
    have HK := hid hkk
    rw [← hkk] at hk ⊢
    by_cases hlt : k < xs.length
    · obtain ⟨hl1, hs1, hf1, hp1, hq1, hL1⟩ := HX.out _ _ hJk
      obtain ⟨t3, hn⟩ : ∃ n, xs[k]? = some n := ⟨xs[k], List.getElem?_eq_getElem hlt⟩
      obtain ⟨x, y, z⟩ := t3
      obtain ⟨g, off, cap', e', _⟩ := hL1.at hn
      cases e'
      have hD := hL1.drop (k := k) (by omega)
      have HD := hid hD
      clear hn hD hkk
      have hgd : wr.grownBy wr.drew none := g_drewN (g_refl wr none) rfl
      have hck : ¬ cap = k := by omega
      have hL2 := HD.out.keptN hgd
      have hJd := own_grown hJ hJk hgd
      clear hp0 hsb hfb hL hlb
      gi_wp2_with fail
      refine wpIn_region_stages (r := none) [(4, 2), (2, 3)] (by kernel_rfl) (by kernel_rfl) (by kernel_rfl) (by kernel_rfl) ?_
      simp only [stagesP, List.take_succ_cons, List.take_zero, List.drop_succ_cons, List.drop_zero]
      repeat still_step
      refine wpStill_nil ?_
      change wpListIn Fence.wide 10 _ _ _ _ _ wr.drew
      have hLs : L3 wr.drew (.slice (some ⟨g, off + k * 3, none⟩) (xs.length - k) (cap - k)) (xs.drop k) := hL2
      cases hb : fits M Y (xs.drop k) with
      | true =>
        have hb' : fitB M Y ((xs.drop k).length : Int) (sum3 (xs.drop k)) = true := hb
        have HB := hid hb
        clear hb
        gi_wp2_with fail
        refine (callsIn_wide.2 (left1_any fb p M Y _ (xs.drop k) _ hLs (HG.out.drop k) hf1 hp1 hq1)).mono ?_
        rintro e w2 ⟨rfl, hg2⟩
        simp only [hb']
        gi_wp2_with fail
        repeat still_step
        refine wpStill_nil ?_
        change wpListIn Fence.wide 10 _ _ _ _ _ w2
        gi_wp2_with fail
        refine bodyPost_ret (results_none rfl _ _ _) rfl ?_
        exact ⟨⟨_, rfl⟩, .inl ⟨pre, ⟨by rw [← HK.out]; omega, .inr (by rw [← HK.out]; exact HB.out)⟩, own_grown hJ hJd hg2⟩⟩
      | false =>
        have hb' : fitB M Y ((xs.drop k).length : Int) (sum3 (xs.drop k)) = false := hb
        have HB := hid hb
        clear hb
        gi_wp2_with fail
        refine (callsIn_wide.2 (left1_any fb p M Y _ (xs.drop k) _ hLs (HG.out.drop k) hf1 hp1 hq1)).mono ?_
        rintro e w2 ⟨rfl, hg2⟩
        simp only [hb']
        obtain ⟨fn, tmps, assign, body, hy, hR⟩ := HY.out pre k w2 (own_grown hJ hJd hg2) ⟨HK.out, hlt, HB.out⟩
        try simp only [] at hy
        gi_wp2_with fail
        repeat still_step
        refine wpStill_nil ?_
        change wpListIn Fence.wide 10 _ _ _ _ _ w2
        gi_wp2_with fail
        refine (hR _).mono ?_
        rintro e W3 ⟨hk3, hkp3, (⟨rfl, hJ3⟩ | ⟨rfl, hJx3⟩)⟩
        · gi_wp2
          go_roundw
          case rel => exact ⟨pre ++ [k], by have := HK.out; simp; omega, by have := HK.out; simp; omega, hJ3, Nat.le_trans hsz (Nat.le_trans (g_none hgd hg2).size hk3.size)⟩
          case measure => simp [intOf]; omega
        · gi_wp2
          refine bodyPost_ret (results_none rfl _ _ _) rfl ?_
          exact ⟨⟨_, rfl⟩, .inr ⟨_, trivial, hJx3⟩⟩
    · obtain rfl : k = xs.length := by omega
      gi_wp2
      go_end0
      exact ⟨⟨_, rfl⟩, .inl ⟨pre, ⟨by rw [← HK.out]; omega, .inl HK.out.symm⟩, hJk⟩⟩
end Go.Proofs.Ytjjkhbipeehljaa
