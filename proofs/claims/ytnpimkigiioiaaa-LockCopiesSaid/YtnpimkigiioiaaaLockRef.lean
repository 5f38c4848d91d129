/-
  The document's locks: a list of threads.
-/
import Derived.Test.YtnpimkigiioiaaaLockSame
namespace Go.Proofs.Ytnpimkigiioiaaa
open Go.RowKit
set_option maxRecDepth 100000

/-! ### Plain -/
theorem lk_append2 (a b : List Int) : ∀ k, lk k (a ++ b) = lk k a ++ lk (k + a.length) b := by
  induction a with
  | nil => intro k; simp [lk]
  | cons x xs ih =>
    intro k
    simp only [List.cons_append, lk, ih (k + 1), List.length_cons]
    rw [show k + 1 + xs.length = k + (xs.length + 1) by omega]
    split <;> simp
theorem heldL_snoc {l : List Int} {i : Nat} {x : Int} (hx : l[i]? = some x) (t : Int) (ht : 0 ≤ t) : heldL (l.take (i + 1)) t = heldL (l.take i) t ++ (if x == t then [(i : Int)] else []) := by
  have hi := (List.getElem?_eq_some_iff.1 hx).1
  have hlen : (l.take i).length = i := by rw [List.length_take]; omega
  rw [List.take_add_one, hx, heldL, Option.toList_some, lk_append2, selT_append, heldL, hlen, Nat.zero_add]
  congr 1
  simp only [lk]
  by_cases h : (x == t) = true
  · have hxt : x = t := by simpa using h
    subst hxt
    simp [selT, ht]
  · rw [if_neg h]
    split <;> simp [selT, h]
theorem heldL_neg {l : List Int} {t : Int} (ht : t < 0) : heldL l t = [] := by
  rw [List.eq_nil_iff_forall_not_mem]
  intro n hn
  simp only [heldL, selT, List.mem_map, List.mem_filter] at hn
  obtain ⟨x, ⟨h1, h2⟩, rfl⟩ := hn
  have := ((lk_mem l 0 x).1 h1).2.2
  have h3 : x.2 = t := by simpa using h2
  omega
theorem lk_rise : ∀ (l : List Int) (k : Nat), (lk k l).Pairwise (fun x y => x.1 < y.1)
  | [], k => by simp [lk]
  | x :: xs, k => by
    simp only [lk]
    have ih := lk_rise xs (k + 1)
    split
    · rw [List.pairwise_cons]
      exact ⟨fun y hy => by have := ((lk_mem xs (k + 1) y).1 hy).1; omega, ih⟩
    · exact ih
theorem heldL_rise (l : List Int) (t : Int) : (heldL l t).Pairwise (· < ·) := by
  unfold heldL selT
  rw [List.pairwise_map]
  exact ((lk_rise l 0).filter _).imp (fun h => by omega)
theorem ordB_last {l : List Int} {t n r : Int} (h : (heldL l t)[(heldL l t).length - 1]? = some r) : ordB l t n = decide (n ≤ r) := by
  have hp := heldL_rise l t
  rw [ordB, Bool.eq_iff_iff, List.any_eq_true, decide_eq_true_eq]
  constructor
  · rintro ⟨x, hx, hn⟩
    obtain ⟨i, hi⟩ := List.mem_iff_getElem?.1 hx
    obtain ⟨hl, he⟩ := List.getElem?_eq_some_iff.1 hi
    obtain ⟨hl2, he2⟩ := List.getElem?_eq_some_iff.1 h
    have hn' : n ≤ x := by simpa using hn
    by_cases hlt : i < (heldL l t).length - 1
    · have := List.pairwise_iff_getElem.1 hp i _ hl hl2 hlt
      rw [he, he2] at this
      omega
    · have : i = (heldL l t).length - 1 := by omega
      subst this
      rw [he2] at he
      omega
  · intro hn
    exact ⟨r, List.mem_of_getElem? h, by simpa using hn⟩
theorem ordB_nil {l : List Int} {t n : Int} (h : heldL l t = []) : ordB l t n = false := by rw [ordB, h]; rfl
theorem intsV_length (ns : List Int) : (intsV ns).length = ns.length := by simp [intsV]
theorem intsV_oneCell (ns : List Int) : ∀ u ∈ intsV ns, u.oneCell' = true := by
  intro u hu
  simp only [intsV, List.mem_map] at hu
  obtain ⟨n, _, rfl⟩ := hu
  rfl
theorem IntsAt.cells {w : World} {g off n cap : Nat} {xs : List Int} (h : IntsAt w (.slice (some ⟨g, off, none⟩) n cap) xs) : ∀ j u, (intsV xs)[j]? = some u → w.cell? ((⟨g, off, none⟩ : Addr).add j) = some u := by
  intro j u hj
  have hjl := (List.getElem?_eq_some_iff.1 hj).1
  rw [intsV_length] at hjl
  obtain ⟨g', off', cap', e, hx⟩ := h.at (List.getElem?_eq_getElem hjl)
  cases e
  rw [intsV, List.getElem?_map, List.getElem?_eq_getElem hjl] at hj
  cases hj
  unfold Addr.add
  split
  · rename_i h0; subst h0; simpa using hx
  · simpa using hx
theorem IntsAt.shape {w : World} {v : Value} {ns : List Int} (h : IntsAt w v ns) : ∃ a cap, v = .slice a ns.length cap ∧ ns.length ≤ 1000 ∧ ns.length ≤ cap := by
  obtain ⟨a, cap, hv, h1, h2, _⟩ := h
  exact ⟨a, cap, hv, h1, h2⟩

/-! ### New -/
set_option maxHeartbeats 1000000 in
theorem refNew_yes (n : Nat) (hn : n ≤ 64) (w : World) :
    Calls Try.prog 9 #[.int .i64 n] w fun e w' => ∃ v, e = .returned (.tuple #[v, .int .i64 0]) ∧ IntsAt w' v (List.replicate n (-1)) ∧ w.grownBy w' none ∧ ∀ r, v.ownBlock = some r → w.heap.size ≤ r := by
  obtain ⟨i0, hi, hz0, hz1, hz2⟩ := info_parts info_int
  go_enter Try.func9, Try.ntmps9
  go_wp2
  go_loopw [4, 5] (fun v4 v5 wr => ∃ (k : Nat), k ≤ n ∧ v5 = .int .i64 k ∧ wr.ownsRow w.heap.size 3 1 v4 k (intsV (List.replicate k (-1))) ∧ w.grownBy wr none) (fun _ v5 _ => n - (intOf v5).toNat)
  case atStart => exact ⟨0, Nat.zero_le _, rfl, World.ownsRow_nil _ _ _ _, g_refl w _⟩
  case round =>
    obtain ⟨k, hk, rfl, hrow, hg⟩ := hrel
    have HR := hid hrow
    by_cases hlt : k < n
    · have hcc := cells_new wr [.int .i64 (-1)] 3
      have hs : intsV (List.replicate (k + 1) (-1)) = intsV (List.replicate k (-1)) ++ [.int .i64 (-1)] := by
        rw [List.replicate_succ']; simp [intsV]
      have HS := hid hs
      clear hs hrow
      go_wp2_with (at_builtin; refine wpList_append_own_at _ rfl _ _ 23 rfl w.heap.size 3 i0 (.int .i64 0) 1 8 Try.underlying23 hi hz0 hz1 hz2 rfl (by decide) _ _ _ rfl (HR.out.alloc _) ⟨wr.heap.size, 0, none⟩ 1 1 [.int .i64 (-1)] rfl rfl hcc (by simp [Value.oneCell']) (by unfold maxLen; omega) (by omega) (by have := hg.size; simp; omega) ?_; intro v' w9 hown' hgrow hnn hob)
      go_roundw
      case rel => exact ⟨k + 1, by omega, by go_num, by rw [HS.out]; exact hown', g_trans (g_alloc hg _) hgrow (fun r e => .inr (row_base HR.out r e).1)⟩
      case measure => simp [intOf]; omega
    · obtain rfl : k = n := by omega
      have hI := IntsAt.own (ns := List.replicate k (-1)) (by rw [List.length_replicate]; omega) (by rw [List.length_replicate]; exact hrow)
      have hvb := fun r hr => (row_base hrow r hr).1
      clear hrow HR
      go_wp2
      go_ret2
      exact ⟨_, rfl, hI, hg, hvb⟩
theorem refNew_no (i : Int) (hi : i < 0 ∨ 64 < i) (w : World) :
    Calls Try.prog 9 #[.int .i64 i] w fun e w' => e = .returned (.tuple #[.slice none 0 0, .int .i64 2]) ∧ w = w' := by
  by_cases h0 : i < 0
  · go_enter Try.func9, Try.ntmps9
    go_wp2
    go_ret2
    exact ⟨rfl, rfl⟩
  · have h1 : 64 < i := by omega
    go_enter Try.func9, Try.ntmps9
    go_wp2
    go_ret2
    exact ⟨rfl, rfl⟩

/-! ### Thread -/
theorem thread_ref (n : Int) (w : World) : Calls Try.prog 27 #[.int .i64 n] w fun e w' => e = .returned (.bool (thB n)) ∧ w = w' := by
  by_cases h0 : 0 ≤ n
  · go_enter Try.func27, Try.ntmps27
    go_wp2
    go_ret
    exact ⟨by simp [thB, h0], rfl⟩
  · go_enter Try.func27, Try.ntmps27
    go_wp2
    go_ret
    exact ⟨by rw [thB, decide_eq_false (by omega : ¬ 0 ≤ n)]; rfl, rfl⟩

/-! ### Held -/
set_option maxHeartbeats 1000000 in
theorem refHeld (v : Value) (l : List Int) (t : Int) (w : World) (h : IntsAt w v l) :
    Calls Try.prog 47 #[v, .int .i64 t] w fun e w' => ∃ v', e = .returned v' ∧ IntsAt w' v' (heldL l t) ∧ w.grownBy w' none := by
  obtain ⟨i0, hi, hz0, hz1, hz2⟩ := info_parts info_int
  obtain ⟨a, cap, rfl, hl, hcp⟩ := h.shape
  have H := hid h
  clear h
  by_cases h0 : 0 ≤ t
  · have hd0 : decide (0 ≤ t) = true := by simpa using h0
    go_enter Try.func47, Try.ntmps47
    go_wp2
    go_loopw [5, 6] (fun v5 v6 wr => ∃ (k : Nat), k ≤ l.length ∧ v6 = .int .i64 k ∧ wr.ownsRow w.heap.size 3 1 v5 (heldL (l.take k) t).length (intsV (heldL (l.take k) t)) ∧ w.grownBy wr none) (fun _ v6 _ => l.length - (intOf v6).toNat)
    case atStart => exact ⟨0, Nat.zero_le _, rfl, World.ownsRow_nil _ _ _ _, g_refl w _⟩
    case round =>
      obtain ⟨k, hk, rfl, hrow, hg⟩ := hrel
      have HR := hid hrow
      have hln := heldL_length (l.take k) t
      have hln2 : (l.take k).length ≤ 1000 := by rw [List.length_take]; omega
      have hln3 : (heldL (l.take k) t).length ≤ 1000 := by omega
      clear hln hln2
      by_cases hlt : k < l.length
      · obtain ⟨x, hx⟩ : ∃ x, l[k]? = some x := ⟨l[k], List.getElem?_eq_getElem hlt⟩
        have hs := heldL_snoc hx t h0
        obtain ⟨g, off, cap2, e, hcell⟩ := (H.out.keptN hg).at hx
        cases e
        clear hx
        cases hxt : (x == t) with
        | true =>
          have hcc := cells_new wr [.int .i64 (k : Int)] 3
          rw [hxt, if_pos rfl] at hs
          have HS := hid hs
          clear hs hrow
          go_wp2_with (at_builtin; refine wpList_append_own_at _ rfl _ _ 23 rfl w.heap.size 3 i0 (.int .i64 0) 1 8 Try.underlying23 hi hz0 hz1 hz2 rfl (by decide) _ _ _ rfl (HR.out.alloc _) ⟨wr.heap.size, 0, none⟩ 1 1 [.int .i64 (k : Int)] rfl rfl hcc (by simp [Value.oneCell']) (by unfold maxLen; omega) (by omega) (by have := hg.size; simp; omega) ?_; intro v' w9 hown' hgrow hnn hob)
          go_roundw
          case rel => exact ⟨k + 1, by omega, by go_num, by rw [HS.out, List.length_append, show intsV (heldL (l.take k) t ++ [(k : Int)]) = intsV (heldL (l.take k) t) ++ [.int .i64 k] by simp [intsV]]; exact hown', g_trans (g_alloc hg _) hgrow (fun r e => .inr (row_base HR.out r e).1)⟩
          case measure => simp [intOf]; omega
        | false =>
          rw [hxt, if_neg (by simp), List.append_nil] at hs
          have HS := hid hs
          clear hs hrow
          go_wp2
          go_roundw
          case rel => exact ⟨k + 1, by omega, by go_num, by rw [HS.out]; exact HR.out, hg⟩
          case measure => simp [intOf]; omega
      · obtain rfl : k = l.length := by omega
        have hI := IntsAt.own (by omega) hrow
        rw [List.take_length] at hI
        have HI := hid hI
        clear hrow hI
        go_wp2
        go_ret
        exact ⟨_, rfl, HI.out, hg⟩
  · have hd0 : decide (0 ≤ t) = false := by simpa using h0
    have hn := heldL_neg (l := l) (t := t) (by omega)
    rw [hn]
    clear hn
    go_enter Try.func47, Try.ntmps47
    by_cases hlt : 0 < l.length
    · have hlt' : (0 : Int) < (l.length : Int) := by omega
      go_wp2
      go_loop [5, 6] (fun v5 v6 => v5 = .slice none 0 0 ∧ v6 = .int .i64 0) (fun _ _ => 0)
      case atStart => exact ⟨rfl, rfl⟩
      case round =>
        obtain ⟨rfl, rfl⟩ := hrel
        go_wp2
        go_ret
        exact ⟨_, rfl, IntsAt.nil w, g_refl w _⟩
    · have hlt' : l.length = 0 := by omega
      have hc0 : (l.length : Int) = 0 := by omega
      go_wp2
      go_loop [5, 6] (fun v5 v6 => v5 = .slice none 0 0 ∧ v6 = .int .i64 0) (fun _ _ => 0)
      case atStart => exact ⟨rfl, rfl⟩
      case round =>
        obtain ⟨rfl, rfl⟩ := hrel
        go_wp2
        go_ret
        exact ⟨_, rfl, IntsAt.nil w, g_refl w _⟩
end Go.Proofs.Ytnpimkigiioiaaa
