/-
  A quarantine in memory: what leaves, leaves.
-/
import Derived.Test.YtjjkhbipeehljaaFifoLeave
import Derived.Test.YtjjkhbipeehljaaKeep
import Derived.Shelf.Abstract
namespace Go.Proofs.Ytjjkhbipeehljaa
open Go.RowKit

/-- How many leave. -/
def lvN (M Y : Int) : List T3 → Nat
  | [] => 0
  | x :: xs => if fits M Y (x :: xs) then 0 else lvN M Y xs + 1
theorem lvN_of (M Y : Int) : ∀ (xs : List T3) (k : Nat), k ≤ xs.length → (∀ j, j < k → fits M Y (xs.drop j) = false) → (k = xs.length ∨ fits M Y (xs.drop k) = true) → lvN M Y xs = k
  | [], k, hk, _, _ => by simp at hk; simp [lvN, hk]
  | x :: xs, 0, _, _, h => by
    rcases h with h | h
    · simp at h
    · simp at h; simp [lvN, h]
  | x :: xs, k + 1, hk, hn, h => by
    have h0 := hn 0 (by omega)
    simp only [List.drop_zero] at h0
    have := lvN_of M Y xs k (by simpa using hk) (fun j hj => by have := hn (j + 1) (by omega); simpa using this) (by simpa using h)
    simp [lvN, h0, this]
theorem lvN_le (M Y : Int) : ∀ xs : List T3, lvN M Y xs ≤ xs.length
  | [] => by simp [lvN]
  | x :: xs => by have := lvN_le M Y xs; simp only [lvN]; split <;> simp <;> omega

theorem row_slice {w : World} {base size n : Nat} {e : TypeId} {v : Value} {xs : List Value} (h : w.ownsRow base e size v n xs) : ∃ a n' c, v = .slice a n' c := by
  rcases h.2 with ⟨rfl, _⟩ | ⟨g, cap, cur, rfl, _⟩
  · exact ⟨_, _, _, rfl⟩
  · exact ⟨_, _, _, rfl⟩

theorem grownBy_setCell'' (W : World) (b i : Nat) (v : Value) : W.grownBy (W.setCell ⟨b, i, none⟩ v) (some b) :=
  ⟨rfl, rfl, rfl, (KeepsWalks.setCell W _ v).size, fun k _ hk => Below.heap_setCell _ _ _ k (fun e => hk (by rw [e]))⟩

/-- The slice from number k on. -/
def vAt (g n cap k : Nat) : Value := .slice (if cap = k then some ⟨g, 0, none⟩ else some ⟨g, k * 3, none⟩) (n - k) (cap - k)
theorem vAt_L3 {w : World} {g cap : Nat} {xs : List T3} (h : L3 w (.slice (some ⟨g, 0, none⟩) xs.length cap) xs) {k : Nat} (hk : k ≤ xs.length) : L3 w (vAt g xs.length cap k) (xs.drop k) := by
  unfold vAt
  split
  · rename_i e
    have hcp : xs.length ≤ cap := by
      obtain ⟨_, _, e, _, h, _⟩ := h
      cases e; exact h
    have hl : (xs.drop k).length = 0 := by simp; omega
    have h0 : xs.drop k = [] := List.length_eq_zero_iff.1 hl
    rw [h0]
    refine ⟨_, cap - k, by rw [show xs.length - k = 0 by omega]; rfl, by simp, by simp, by unfold maxLen; omega, .inr ⟨g, 0, rfl, fun i x y z hi => by simp at hi⟩⟩
  · have := h.drop hk
    rwa [Nat.zero_add] at this
theorem vAt_block (g n cap k : Nat) : (vAt g n cap k).ownBlock = some g := by
  unfold vAt; split <;> rfl

/-- Behind the rounds: the box's own store, and the taking of the deferred calls. -/
theorem left_fin {p g cap D k : Nat} {M Y : Int} {xs : List T3} {w w2 W1 : World} {a3 : Option Addr} {n3 q3 : Nat} (hG : Good xs) (hgW : w.grownBy w2 none) (hs2 : w.heap.size + 3 ≤ w2.heap.size) (hpl : p < w.heap.size) (hgl : g < w.heap.size) (hpg : g ≠ p)
    (hKL : ∀ W : World, KeepW [w.heap.size + 1, p] w2 W → L3 W (.slice (some ⟨g, 0, none⟩) xs.length cap) xs) (hD : w2.heap.size ≤ D) (hK : W1.heap[D]? = some (.deferred (some [])))
    (hbo : Boxed W1 (w.heap.size + 1) 23 (.slice a3 n3 q3)) (hrow : W1.ownsRow w.heap.size 33 3 (.slice a3 n3 q3) k (flat3 (xs.take k)))
    (hbp : Blk W1 p 64 [.int .i64 M, .int .i64 Y, vAt g xs.length cap k, .bool true]) (hkw : KeepW [w.heap.size + 1, p] w2 W1) (hlv : lvN M Y xs = k) (hle : k ≤ xs.length) :
    (W1.setCell ⟨w.heap.size + 1, 0, none⟩ (.slice a3 n3 q3)).heap[D]? = some (.deferred (some [])) ∧
    ((W1.setCell ⟨w.heap.size + 1, 0, none⟩ (.slice a3 n3 q3)).putObj D (.deferred none)).cell? ⟨w.heap.size + 1, 0, none⟩ = some (.slice a3 n3 q3) ∧
    FifoAt ((W1.setCell ⟨w.heap.size + 1, 0, none⟩ (.slice a3 n3 q3)).putObj D (.deferred none)) p M Y (vAt g xs.length cap (lvN M Y xs)) (xs.drop (lvN M Y xs)) ∧
      ((W1.setCell ⟨w.heap.size + 1, 0, none⟩ (.slice a3 n3 q3)).putObj D (.deferred none)).ownsRow w.heap.size 33 3 (.slice a3 n3 q3) (lvN M Y xs) (flat3 (xs.take (lvN M Y xs))) ∧
      w.grownBy ((W1.setCell ⟨w.heap.size + 1, 0, none⟩ (.slice a3 n3 q3)).putObj D (.deferred none)) (some p) := by
  subst hlv
  have hne : D ≠ w.heap.size + 1 := by omega
  have hK' : (W1.setCell ⟨w.heap.size + 1, 0, none⟩ (.slice a3 n3 q3)).heap[D]? = some (.deferred (some [])) := (Below.heap_setCell _ _ _ D hne).trans hK
  have hput := grownBy_putObj' (W1.setCell ⟨w.heap.size + 1, 0, none⟩ (.slice a3 n3 q3)) D (.deferred none)
  have hkS : KeepW [w.heap.size + 1, p] w2 (W1.setCell ⟨w.heap.size + 1, 0, none⟩ (.slice a3 n3 q3)) := hkw.set _ (.inl (by simp))
  have hkF : KeepW [w.heap.size + 1, p] w2 ((W1.setCell ⟨w.heap.size + 1, 0, none⟩ (.slice a3 n3 q3)).putObj D (.deferred none)) := hkS.grown hput (fun r e => by cases e; exact .inr hD)
  have hb' := (hbo.set (.slice a3 n3 q3)).kept hput (by simp; omega)
  refine ⟨hK', hb'.cell, ⟨(hbp.other (a := ⟨w.heap.size + 1, 0, none⟩) (by simp; omega) _).kept hput (by simp; omega), vAt_L3 (hKL _ hkF) hle, by rw [vAt_block]; simpa using hpg⟩, ?_, hkF.byOne hgW (fun b hb => by
    simp at hb
    rcases hb with rfl | rfl
    · exact .inr (by omega)
    · exact .inl rfl)⟩
  exact ownsRow_putObj (hrow.kept (grownBy_setCell' W1 (w.heap.size + 1) _) (.inr (hbo.not_row (by decide) hrow).symm)) _ hK' rfl

attribute [local go_sem] Oper.semAt_some

set_option maxHeartbeats 2000000 in
theorem left_any (p : Nat) (M Y : Int) (g cap : Nat) (xs : List T3) (hl0 : 0 < xs.length) (hG : Good xs) (w : World) (h : FifoAt w p M Y (.slice (some ⟨g, 0, none⟩) xs.length cap) xs) (hgl : g < w.heap.size) :
    Calls Try.prog 25 #[.pointer (some ⟨p, 0, none⟩)] w fun e w' => ∃ out, e = .returned out ∧ FifoAt w' p M Y (vAt g xs.length cap (lvN M Y xs)) (xs.drop (lvN M Y xs)) ∧
      w'.ownsRow w.heap.size 33 3 out (lvN M Y xs) (flat3 (xs.take (lvN M Y xs))) ∧ w.grownBy w' (some p) := by
  obtain ⟨hb, hL, hne⟩ := id h
  have hpg : g ≠ p := fun e => hne (by rw [e]; rfl)
  obtain ⟨_, _, e0, hlen, hcp, hm, _⟩ := id hL
  cases e0
  have hpl := hb.lt
  obtain ⟨W1, hW1⟩ : ∃ W1, W1 = (w.alloc (.cells #[.pointer (some ⟨p, 0, none⟩)] 25)).alloc (.cells #[.slice none 0 0] 23) := ⟨_, rfl⟩
  have hg1 : w.grownBy ((((w.alloc (.cells #[.pointer (some ⟨p, 0, none⟩)] 25)).alloc (.cells #[.slice none 0 0] 23))).alloc (.cells #[.slice (some ⟨g, 0, none⟩) xs.length cap] 23)) none := g_alloc (g_alloc (g_alloc (g_refl w _) _) _) _
  have h1 := h.keptN hg1
  have c2 := h.1.cellOf (i := 2) rfl
  have bF := ((Blk.new w [.pointer (some ⟨p, 0, none⟩)] 25).alloc (.cells #[.slice none 0 0] 23)).alloc (.cells #[.slice (some ⟨g, 0, none⟩) xs.length cap] 23)
  have bO := (Boxed.new (w.alloc (.cells #[.pointer (some ⟨p, 0, none⟩)] 25)) 23 (.slice none 0 0)).alloc (.cells #[.slice (some ⟨g, 0, none⟩) xs.length cap] 23)
  have bL := Blk.new ((w.alloc (.cells #[.pointer (some ⟨p, 0, none⟩)] 25)).alloc (.cells #[.slice none 0 0] 23)) [.slice (some ⟨g, 0, none⟩) xs.length cap] 23
  simp only [World.size_alloc] at bO bL
  have kF := bF.cellOf (i := 0) rfl
  refine calls_of_wp_marks Try.func25 rfl (wpIn_wide.2 ?_)
  simp only [Try.ntmps25, List.size_toArray, List.length_cons, List.length_nil, Nat.reduceAdd, Nat.reduceSub, Array.replicate_succ, Array.replicate_zero, List.push_toArray, List.append_toArray, List.nil_append, List.cons_append]
  go_wp2_with (first | apply wp_scope_straight | apply wp_label)
  refine (leaving_any _ _ _ _ rfl _ _).mono ?_
  rintro e w2 ⟨lb, sb, rfl, hg2, hlb, hsb, hcl, hcs⟩
  go_wp2_with (first | apply wp_scope_straight | apply wp_label)
  have hgW : w.grownBy w2 none := g_none hg1 hg2
  have hs2 : w.heap.size + 3 ≤ w2.heap.size := by have := hg2.size; simpa using this
  have c2F := g_cellN hg2 kF
  have c2L := (bL.keptN hg2).cellOf (i := 0) rfl
  have bO2 := bO.kept hg2 (by simp)
  have hb2 := (h1.keptN hg2).1
  have hL2 := (h1.keptN hg2).2.1
  have hlbw : w.heap.size + 3 ≤ lb := by simpa using hlb
  have hsbw : w.heap.size + 3 ≤ sb := by simpa using hsb
  have hfoot : Foot [w.heap.size + 1, p] none w2 := ⟨fun b hw => by
    rcases hw with hm' | ⟨r, u, hr, hc, hu⟩
    · simp at hm'; omega
    · exact absurd hr (by simp), fun r hr => absurd hr (by simp)⟩
  have nF : w.heap.size ∉ [w.heap.size + 1, p] := by simp; omega
  have nL : w.heap.size + 1 + 1 ∉ [w.heap.size + 1, p] := by simp; omega
  have nlb : lb ∉ [w.heap.size + 1, p] := by simp; omega
  have nsb : sb ∉ [w.heap.size + 1, p] := by simp; omega
  have ng : g ∉ [w.heap.size + 1, p] := by simp; omega
  have HL2 := hid hL2
  have HG := hid hG
  clear hL2 hG hL h1 h bF bO bL kF hlb hsb hg1 hb
  have kL : ∀ W : World, KeepW [w.heap.size + 1, p] w2 W → L3 W (.slice (some ⟨g, 0, none⟩) xs.length cap) xs := fun W hk => HL2.out.keptC (fun r hr hl => by
    simp [Value.ownBlock] at hr
    subst hr
    exact hk.same _ hl ng)
  have HKL := hid kL
  clear kL
  refine wp_of_in (wp_iter (gf := 47) (lb := #[.pointer (some ⟨lb, 0, none⟩), .pointer (some ⟨sb, 0, none⟩)]) rfl (Go.Proofs.enters_of Try.func47 (by kernel_rfl) rfl)
    (encs := fun i : Nat => #[.int .i64 i]) (fun _ => rfl) [w.heap.size + 1, p] none hfoot
    (fun W1 _ => leaving1_iter lb sb w.heap.size p M Y (.slice (some ⟨g, 0, none⟩) xs.length cap) xs HG.out W1)
    (fun pre W1 => ((∃ vo, Boxed W1 (w.heap.size + 1) 23 vo ∧ W1.ownsRow w.heap.size 33 3 vo pre.length (flat3 (xs.take pre.length)) ∧ (pre.length < xs.length ∧ ∀ j, j < pre.length → fits M Y (xs.drop j) = false)) ∧ Blk W1 p 64 [.int .i64 M, .int .i64 Y, vAt g xs.length cap pre.length, .bool true]) ∧ KeepW [w.heap.size + 1, p] w2 W1)
    (fun c pre W1 => ((∃ vo, Boxed W1 (w.heap.size + 1) 23 vo ∧ W1.ownsRow w.heap.size 33 3 vo pre.length (flat3 (xs.take pre.length)) ∧ (c = .exit 0 ∧ pre.length = xs.length ∧ ∀ j, j < pre.length → fits M Y (xs.drop j) = false)) ∧ Blk W1 p 64 [.int .i64 M, .int .i64 Y, vAt g xs.length cap pre.length, .bool true]) ∧ KeepW [w.heap.size + 1, p] w2 W1)
    (OwnFrom.and (OwnFrom.and (Own.from (holdsRow_own _ _ _ _ _ (fun (pre : List Nat) => pre.length) (fun pre => flat3 (xs.take pre.length)) (fun (pre : List Nat) _ => pre.length < xs.length ∧ ∀ j, j < pre.length → fits M Y (xs.drop j) = false)) _) (Own.from (blk_own _ _ _) _)) KeepW.own)
    (fun c => OwnFrom.and (OwnFrom.and (Own.from (holdsRow_own _ _ _ _ _ (fun (pre : List Nat) => pre.length) (fun pre => flat3 (xs.take pre.length)) (fun (pre : List Nat) _ => c = .exit 0 ∧ pre.length = xs.length ∧ ∀ j, j < pre.length → fits M Y (xs.drop j) = false)) _) (Own.from (blk_own _ _ _) _)) KeepW.own)
    (fun pre W1 h => ⟨h.2.cell hcl nlb, h.2.cell hcs nsb, h.2.cell c2F nF, h.1.2.cellOf rfl, h.1.2.cellOf rfl, HKL.out _ h.2⟩)
    ⟨⟨⟨_, bO2, World.ownsRow_nil _ _ _ _, hl0, fun j hj => absurd hj (by simp)⟩, by simpa [vAt, show ¬ cap = 0 by omega] using hb2⟩, KeepW.refl _ _⟩
    (fun i a' _ => a' = { tmps := #[.pointer (some ⟨p, 0, none⟩), .pointer (some ⟨w.heap.size, 0, none⟩), .pointer (some ⟨w.heap.size + 1, 0, none⟩), .pointer (some ⟨w.heap.size + 1 + 1, 0, none⟩), .int .i64 i,
      .pointer (some ⟨p, 0, none⟩), .pointer (some ⟨p, 0, none⟩), .pointer (some ⟨p, 2, none⟩), .slice (some ⟨g, 0, none⟩) xs.length cap, .slice (some ⟨g, 0, none⟩) xs.length cap, .func (.func 42) #[] #[.pointer (some ⟨w.heap.size, 0, none⟩)],
      .func (.func 47) #[] #[.pointer (some ⟨lb, 0, none⟩), .pointer (some ⟨sb, 0, none⟩)], .int .i64 i, undef, undef, undef, undef, undef, undef, undef, undef, undef, undef, undef, undef, undef, undef, undef, undef, undef, undef, undef, undef], defers := [] })
    (fun x a' s A B row h _ _ => h) ?assign ?body ?done ?stop)
  case assign =>
    intro l' pre x W1 K _ hN0 hK
    clear hN0
    gi_wp2
    exact hK _ _ (KeepsFrom.refl _ _) (Keeps.refl _ _ _) (by assumption) rfl
  case body =>
    rintro l' pre x a' W1 hl' ⟨⟨⟨vo, hbo, hrow, hkl, hnf⟩, hbp⟩, hkw⟩ rfl ⟨rfl, _, hnx⟩
    have HN := hid hnf
    have HX := hid hnx
    clear hnf hnx
    have hc1 := hbo.cell
    have hc2 := hkw.cell c2F nF
    have hc3 := hkw.cell c2L nL
    obtain ⟨⟨x, y, z⟩, hxk⟩ : ∃ n, xs[pre.length]? = some n := ⟨xs[pre.length], List.getElem?_eq_getElem hkl⟩
    obtain ⟨g', off', cap', e', d0, d1, d2⟩ := (HKL.out _ hkw).at hxk
    cases e'
    simp only [Nat.zero_add] at d0 d1 d2
    have HXK := hid hxk
    clear hxk
    have hLo : L3 W1.drew vo (xs.take pre.length) := (L3.own (by simp; omega) (by simpa [Nat.min_eq_left (Nat.le_of_lt hkl)] using hrow) : L3 W1 vo (xs.take pre.length)).keptN (g_drewN (g_refl W1 none) rfl)
    gi_wp2_with fail
    refine wpIn_region_stages (r := some l') [(5, 2)] (by kernel_rfl) (by kernel_rfl) (by kernel_rfl) (by kernel_rfl) ?_
    simp only [stagesP, List.take_succ_cons, List.take_zero, List.drop_succ_cons, List.drop_zero]
    repeat still_step
    refine wpStill_nil ?_
    change wpListIn (Fence.wide.inRound l') 9 _ _ _ _ _ W1.drew
    gi_wp2_with fail
    refine (callsIn_wide.2 (behind_any vo (xs.take pre.length) x y z (by simp; omega) W1.drew hLo)).mono ?_
    rintro e w3 ⟨v3, rfl, hr3, hg3⟩
    have hkt : (xs.take pre.length).length = pre.length := by simp; omega
    have ht : xs.take (pre.length + 1) = xs.take pre.length ++ [(x, y, z)] := by rw [List.take_add_one, HXK.out]; rfl
    rw [hkt, ← ht] at hr3
    have HT := hid ht
    clear ht hkt
    obtain ⟨g3, cap3, rfl⟩ := ownsRow_succ hr3
    have hgd : W1.grownBy W1.drew none := g_drewN (g_refl W1 none) rfl
    have hs1 : w2.heap.size ≤ W1.heap.size := hkw.size
    have hb3 : Boxed w3 (w.heap.size + 1) 23 vo := (hbo.kept hgd (by simp)).kept hg3 (by simp)
    have c3 := hb3.cell
    have f3 := hb3.frozen
    have st3 : Stp [w.heap.size + 1, p] W1 w3 := (Stp.refl _ _).drew.grown hg3
    have st4 := st3.set (b := w.heap.size + 1) (i := 0) (.slice (some ⟨g3, 0, none⟩) (pre.length + 1) cap3) (.inl (by simp))
    have hk4 := hkw.trans st4.1
    have hb4 := hb3.set (.slice (some ⟨g3, 0, none⟩) (pre.length + 1) cap3)
    have hp4 : Blk _ p _ _ := ((hbp.keptN hgd).keptN hg3).other (a := ⟨w.heap.size + 1, 0, none⟩) (by simp; omega) (.slice (some ⟨g3, 0, none⟩) (pre.length + 1) cap3)
    have hg3b : g3 ≠ p ∧ g3 ≠ w.heap.size + 1 ∧ w.heap.size ≤ g3 := by
      have h1 := (row_base hr3 g3 rfl).1
      have h2 : W1.drew.heap.size = W1.heap.size := rfl
      omega
    have hr4 := (behindR hr3 w.heap.size (by have h2 : W1.drew.heap.size = W1.heap.size := rfl
                                             omega)).kept (grownBy_setCell' w3 (w.heap.size + 1) (.slice (some ⟨g3, 0, none⟩) (pre.length + 1) cap3)) (.inr (by simp [Value.ownBlock]; omega))
    have e2 := hk4.cell c2F nF
    have e3 := hk4.cell c2L nL
    have e4 := hp4.cellOf (i := 2) rfl
    have e5 := hp4.frozen 2
    obtain ⟨k1, hk1⟩ : ∃ k1, k1 = pre.length + 1 := ⟨_, rfl⟩
    have hwr : IntKind.i64.wrap ((pre.length : Int) + 1) = (k1 : Int) := by rw [wrap_in _ (by omega) (by omega)]; omega
    have hk1l : k1 ≤ xs.length := by omega
    have hk1c : k1 ≤ cap := by omega
    have HK1 := hid hk1
    clear hk1
    gi_wp2_with fail
    refine wpIn_region_stages (r := some l') [(7, 1)] (by kernel_rfl) (by kernel_rfl) (by kernel_rfl) (by kernel_rfl) ?_
    simp only [stagesP, List.take_succ_cons, List.take_zero, List.drop_succ_cons, List.drop_zero]
    repeat still_step
    refine wpStill_nil ?_
    change wpListIn (Fence.wide.inRound l') 9 _ _ _ _ _ (World.drew _)
    obtain ⟨ad, had⟩ : ∃ ad : Option Addr, ad = (if cap = k1 then some ⟨g, 0, none⟩ else some ⟨g, k1 * 3, none⟩) := ⟨_, rfl⟩
    obtain ⟨m, hmm⟩ : ∃ m, m = xs.length - k1 := ⟨_, rfl⟩
    have HM := hid hmm
    have HA := hid had
    rw [← hmm, ← had]
    have st5 := (st4.set (b := p) (i := 2) (.slice ad m (cap - k1)) (.inl (by simp))).drew
    have hk5 := hkw.trans st5.1
    have i1 := hk5.cell c2F nF
    have hp5 := (hp4.set 2 (.slice ad m (cap - k1))).drew
    have i2 := hp5.cellOf (i := 2) rfl
    have hb5 := (hb4.kept (grownBy_setCell'' _ p 2 (.slice ad m (cap - k1))) (by simp; omega)).kept (g_drewN (row := none) (g_refl _ none) rfl) (by simp)
    have hr5 := (hr4.kept (grownBy_setCell'' _ p 2 (.slice ad m (cap - k1))) (.inr (by simp [Value.ownBlock]; omega))).kept (g_drewN (row := none) (g_refl _ none) rfl) (.inr (by simp [Value.ownBlock]))
    have hnf' : ∀ j, j < k1 → fits M Y (xs.drop j) = false := fun j hj => by
      have := HK1.out
      by_cases hj' : j < pre.length
      · exact HN.out j hj'
      · obtain rfl : j = pre.length := by omega
        exact HX.out
    have HN' := hid hnf'
    clear hmm hnf' had
    by_cases hz : m = 0
    · subst hz
      gi_wp2_with fail
      have hKK := HK1.out
      subst hKK
      have hl1 : (pre ++ [pre.length]).length = pre.length + 1 := by simp
      have hMM := HM.out
      refine ⟨st5.2.from _, st5.1.keeps, ⟨⟨_, hb5, by rw [hl1]; exact hr5, rfl, by rw [hl1]; omega, by rw [hl1]; exact HN'.out⟩, by rw [hl1, vAt, ← HA.out, ← HM.out]; exact hp5⟩, hk5⟩
    · gi_wp2_with fail
      have hKK := HK1.out
      subst hKK
      have hl1 : (pre ++ [pre.length]).length = pre.length + 1 := by simp
      have hMM := HM.out
      refine ⟨st5.2.from _, st5.1.keeps, ⟨⟨_, hb5, by rw [hl1]; exact hr5, by rw [hl1]; omega, by rw [hl1]; exact HN'.out⟩, by rw [hl1, vAt, ← HA.out, ← HM.out]; exact hp5⟩, hk5⟩
  case done =>
    rintro D ys W1 hD ⟨hle, hor⟩ ⟨⟨⟨vo, hbo, hrow, hkl, hnf⟩, hbp⟩, hkw⟩ hK
    obtain ⟨a3, n3, q3, rfl⟩ := row_slice hrow
    have hc1 := hbo.cell
    have hf1 := hbo.frozen
    have hfin := left_fin HG.out hgW hs2 hpl hgl hpg HKL.out hD hK hbo hrow hbp hkw (lvN_of M Y xs ys.length hle hnf hor) hle
    go_wp2_with fail
    refine noGoto_retI ?_
    refine ⟨by simp, .inl ⟨_, _, rfl, run_takeDeferred hfin.1, ?_⟩⟩
    exact ⟨_, results_box rfl _ _ (w.heap.size + 1) _ _ rfl Try.underlying23 rfl hfin.2.1, _, rfl, hfin.2.2⟩
  case stop =>
    rintro D c ys W1 hD _ ⟨⟨⟨vo, hbo, hrow, rfl, hkl, hnf⟩, hbp⟩, hkw⟩ hK
    obtain ⟨a3, n3, q3, rfl⟩ := row_slice hrow
    have hc1 := hbo.cell
    have hf1 := hbo.frozen
    have hfin := left_fin HG.out hgW hs2 hpl hgl hpg HKL.out hD hK hbo hrow hbp hkw (lvN_of M Y xs ys.length (by omega) hnf (.inl hkl)) (by omega)
    refine wpIn_exit ?_
    go_wp2_with fail
    refine noGoto_retI ?_
    refine ⟨by simp, .inl ⟨_, _, rfl, run_takeDeferred hfin.1, ?_⟩⟩
    exact ⟨_, results_box rfl _ _ (w.heap.size + 1) _ _ rfl Try.underlying23 rfl hfin.2.1, _, rfl, hfin.2.2⟩
end Go.Proofs.Ytjjkhbipeehljaa
