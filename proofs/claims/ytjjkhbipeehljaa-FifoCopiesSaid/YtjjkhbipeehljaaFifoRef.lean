/-
  The document's quarantine: bounds, and a list; what may be, how many bytes, where a thing lies.
-/
import Derived.Test.YtjjkhbipeehljaaFifoHoldsEnd
import Derived.Test.YtjjkhbipeehljaaKeep
import Derived.Deep.RegionHeld3
import Derived.Laws.ResultCell
namespace Go.Proofs.Ytjjkhbipeehljaa
open Go.RowKit

theorem results_row_tmp2 {P : Program} {fn : Func} {p u u2 : Tmp} {ty : TypeId} (h : fn.results = #[.cell p ty, .tmp u, .tmp u2]) (tmps : Array Value) (w : World) (g : Nat) (t : TypeId) (cs : Array Value) (fr : Nat × Nat) (d : TypeDesc)
    (hp : tmps.getD p undef = .pointer (some ⟨g, 0, none⟩)) (hg : w.heap[g]? = some (.cells cs t fr))
    (hu : P.underlying ty = some d) (hd : (match d with | .struct _ | .array _ _ => true | _ => false) = true) (hi : (P.info? ty).map (·.size) = some cs.size) :
    (results fn tmps).run P w = .ok (.tuple #[.agg cs, tmps.getD u undef, tmps.getD u2 undef]) w := by
  have e : (results fn tmps).run P w =
      ((asAddr (tmps.getD p undef)).run P w).andThen fun a w₁ => ((loadVar ty a).run P w₁).andThen fun v w₂ => .ok (.tuple #[v, tmps.getD u undef, tmps.getD u2 undef]) w₂ := by
    simp only [results, h]
    simp [Sem.run_bind, Result.andThen]
  rw [e, hp]
  simp [asAddr, run_loadVar_row w g t ty cs fr d hg hu hd hi]
theorem results_row_tmp1 {P : Program} {fn : Func} {p u : Tmp} {ty : TypeId} (h : fn.results = #[.cell p ty, .tmp u]) (tmps : Array Value) (w : World) (g : Nat) (t : TypeId) (cs : Array Value) (fr : Nat × Nat) (d : TypeDesc)
    (hp : tmps.getD p undef = .pointer (some ⟨g, 0, none⟩)) (hg : w.heap[g]? = some (.cells cs t fr))
    (hu : P.underlying ty = some d) (hd : (match d with | .struct _ | .array _ _ => true | _ => false) = true) (hi : (P.info? ty).map (·.size) = some cs.size) :
    (results fn tmps).run P w = .ok (.tuple #[.agg cs, tmps.getD u undef]) w := by
  rw [results_cell_tmp h tmps P w, hp]
  simp [asAddr, run_loadVar_row w g t ty cs fr d hg hu hd hi]

/-- The document's quarantine. -/
abbrev RQ (M Y : Int) (v : Value) : Value := .agg #[.int .i64 M, .int .i64 Y, v]
theorem refNew_no (M Y : Int) (w : World) (h : boundB M Y = false) :
    Calls Try.prog 11 #[.int .i64 M, .int .i64 Y] w fun e w' => e = .returned (.tuple #[RQ 0 0 (.slice none 0 0), .int .i64 2]) ∧ w.grownBy w' none := by
  have b1 := Blk.new w [.int .i64 0, .int .i64 0, .slice none 0 0] 39
  have f0 := b1.frozen 0
  have f1 := (b1.set 0 (.int .i64 0)).frozen 1
  have f2 := ((b1.set 0 (.int .i64 0)).set 1 (.int .i64 0)).frozen 2
  have h' : M < 0 ∨ 1048576 < M ∨ Y < 0 ∨ 1048576 < Y := by
    simp [boundB, inB] at h
    omega
  clear h
  by_cases c1 : M < 0
  · clear h'
    go_enter Try.func11, Try.ntmps11
    go_wp2
    refine bodyPost_ret (results_row_tmp1 rfl _ _ w.heap.size _ _ _ _ rfl b1 Try.underlying39 rfl (by kernel_rfl)) rfl ?_
    exact ⟨rfl, g_alloc (g_refl w none) _⟩
  by_cases c2 : 1048576 < M
  · clear h'
    go_enter Try.func11, Try.ntmps11
    go_wp2
    refine bodyPost_ret (results_row_tmp1 rfl _ _ w.heap.size _ _ _ _ rfl b1 Try.underlying39 rfl (by kernel_rfl)) rfl ?_
    exact ⟨rfl, g_alloc (g_refl w none) _⟩
  by_cases c3 : Y < 0
  · clear h'
    go_enter Try.func11, Try.ntmps11
    go_wp2
    refine bodyPost_ret (results_row_tmp1 rfl _ _ w.heap.size _ _ _ _ rfl b1 Try.underlying39 rfl (by kernel_rfl)) rfl ?_
    exact ⟨rfl, g_alloc (g_refl w none) _⟩
  · have c4 : 1048576 < Y := by omega
    clear h'
    go_enter Try.func11, Try.ntmps11
    go_wp2
    refine bodyPost_ret (results_row_tmp1 rfl _ _ w.heap.size _ _ _ _ rfl b1 Try.underlying39 rfl (by kernel_rfl)) rfl ?_
    exact ⟨rfl, g_alloc (g_refl w none) _⟩
theorem refNew_yes (M Y : Int) (w : World) (h : boundB M Y = true) :
    Calls Try.prog 11 #[.int .i64 M, .int .i64 Y] w fun e w' => e = .returned (.tuple #[RQ M Y (.slice none 0 0), .int .i64 0]) ∧ w.grownBy w' none := by
  have b1 := Blk.new w [.int .i64 M, .int .i64 Y, .slice none 0 0] 39
  have h1 : 0 ≤ M ∧ M ≤ 1048576 ∧ 0 ≤ Y ∧ Y ≤ 1048576 := by
    simp [boundB, inB] at h
    omega
  obtain ⟨h1, h2, h3, h4⟩ := h1
  clear h
  go_enter Try.func11, Try.ntmps11
  go_wp2
  refine bodyPost_ret (results_row_tmp1 rfl _ _ w.heap.size _ _ _ _ rfl b1 Try.underlying39 rfl (by kernel_rfl)) rfl ?_
  exact ⟨rfl, g_alloc (g_refl w none) _⟩


theorem refRight_any (x y z : Int) (w : World) :
    Calls Try.prog 44 #[.agg #[.int .i64 x, .int .i64 y, .int .i64 z]] w fun e w' => e = .returned (.bool (rightB (x, y, z))) ∧ w.grownBy w' none := by
  have b1 := Blk.new w [.int .i64 x, .int .i64 y, .int .i64 z] 33
  have k0 := b1.cellOf (i := 0) rfl
  have k1 := b1.cellOf (i := 1) rfl
  have k2 := b1.cellOf (i := 2) rfl
  have hgA := g_alloc (g_refl w none) (.cells #[.int .i64 x, .int .i64 y, .int .i64 z] 33)
  clear b1
  by_cases c0 : x < 0
  · rw [show rightB (x, y, z) = false by simp [rightB, inB]; omega]
    go_enter Try.func44, Try.ntmps44
    go_wp2
    go_ret
    exact ⟨by first | rfl | (simp; omega), hgA⟩
  by_cases c1 : 8 ≤ x
  · rw [show rightB (x, y, z) = false by simp [rightB, inB]; omega]
    go_enter Try.func44, Try.ntmps44
    go_wp2
    go_ret
    exact ⟨by first | rfl | (simp; omega), hgA⟩
  by_cases c2 : y < 0
  · rw [show rightB (x, y, z) = false by simp [rightB, inB]; omega]
    go_enter Try.func44, Try.ntmps44
    go_wp2
    go_ret
    exact ⟨by first | rfl | (simp; omega), hgA⟩
  by_cases c3 : 256 ≤ y
  · rw [show rightB (x, y, z) = false by simp [rightB, inB]; omega]
    go_enter Try.func44, Try.ntmps44
    go_wp2
    go_ret
    exact ⟨by first | rfl | (simp; omega), hgA⟩
  by_cases c4 : z < 1
  · rw [show rightB (x, y, z) = false by simp [rightB, inB]; omega]
    go_enter Try.func44, Try.ntmps44
    go_wp2
    go_ret
    exact ⟨by first | rfl | (simp; omega), hgA⟩
  by_cases c5 : 1048576 < z
  · rw [show rightB (x, y, z) = false by simp [rightB, inB]; omega]
    go_enter Try.func44, Try.ntmps44
    go_wp2
    go_ret
    exact ⟨by first | rfl | (simp; omega), hgA⟩
  · rw [show rightB (x, y, z) = true by simp [rightB, inB]; omega]
    go_enter Try.func44, Try.ntmps44
    go_wp2
    go_ret
    exact ⟨by first | rfl | (simp; omega), hgA⟩


/-- The box of the document's quarantine. -/
theorem rq_box (M Y : Int) (v : Value) (w : World) : Blk (w.alloc (.cells #[.int .i64 M, .int .i64 Y, v] 39)) w.heap.size 39 [.int .i64 M, .int .i64 Y, v] := Blk.new w [.int .i64 M, .int .i64 Y, v] 39

theorem refSum_any (M Y : Int) (xs : List T3) (v : Value) (w : World) (h : L3 w v xs) (hG : Good xs) :
    Calls Try.prog 31 #[RQ M Y v] w fun e w' => e = .returned (.int .i64 (sum3 xs)) ∧ w.grownBy w' none := by
  obtain ⟨a, cap, hv, hl, hcp, hm, _⟩ := id h
  subst hv
  have HG := hid hG
  have b1 := rq_box M Y (.slice a xs.length cap) w
  have k2 := b1.cellOf (i := 2) rfl
  have hgA := g_alloc (g_refl w none) (.cells #[.int .i64 M, .int .i64 Y, .slice a xs.length cap] 39)
  have hL := h.keptN hgA
  clear hG b1 h
  go_enter Try.func31, Try.ntmps31
  go_wp2
  obtain ⟨W, hW⟩ : ∃ W, W = w.alloc (.cells #[.int .i64 M, .int .i64 Y, .slice a xs.length cap] 39) := ⟨_, rfl⟩
  rw [← hW] at k2 hgA hL ⊢
  clear hW
  go_loopw [3, 4] (fun u v wr => ∃ (k : Nat), k ≤ xs.length ∧ v = .int .i64 k ∧ u = .int .i64 (sum3 (xs.take k)) ∧ W = wr) (fun _ v _ => xs.length - (intOf v).toNat)
  case atStart => exact ⟨0, Nat.zero_le _, rfl, rfl, rfl⟩
  case round =>
    obtain ⟨k, hk, rfl, rfl, rfl⟩ := hrel
    by_cases hlt : k < xs.length
    · obtain ⟨⟨x, y, z⟩, hn⟩ : ∃ n, xs[k]? = some n := ⟨xs[k], List.getElem?_eq_getElem hlt⟩
      obtain ⟨g, off, cap', e', d0, d1, d2⟩ := hL.at hn
      cases e'
      have hs := (HG.out.take k).sum
      have hz := HG.out (x, y, z) (List.mem_of_getElem? hn)
      have hst := sum3_take hn
      have hlk : (xs.take k).length ≤ 1000 := by simp; omega
      obtain ⟨S, hS⟩ : ∃ S, S = sum3 (xs.take k) := ⟨_, rfl⟩
      rw [← hS] at hs hst ⊢
      have HN := hid hst
      clear hst hn
      simp only [] at hz
      go_wp2
      go_roundw
      case rel => exact ⟨k + 1, by omega, by go_num, by rw [HN.out]; go_num, trivial⟩
      case measure => simp [intOf]; omega
    · obtain rfl : k = xs.length := by omega
      go_wp2
      go_ret
      exact ⟨by rw [List.take_length]; rfl, hgA⟩

theorem atOf_hit {xs : List T3} {c i : Int} {k : Nat} {x : T3} (h : ∀ j y, j < k → xs[j]? = some y → isIt c i y = false) (hx : xs[k]? = some x) (hi : isIt c i x = true) : atOf xs c i = k := by
  have h1 : xs.findIdx? (isIt c i) = some k := by
    rw [List.findIdx?_eq_some_iff_getElem]
    obtain ⟨hl, he⟩ := List.getElem?_eq_some_iff.1 hx
    refine ⟨hl, by rw [he]; exact hi, fun j hj => ?_⟩
    have := h j (xs[j]'(by omega)) hj (List.getElem?_eq_getElem _)
    simp [this]
  rw [atOf, h1]
theorem atOf_miss {xs : List T3} {c i : Int} (h : ∀ j y, j < xs.length → xs[j]? = some y → isIt c i y = false) : atOf xs c i = -1 := by
  have h1 : xs.findIdx? (isIt c i) = none := by
    rw [List.findIdx?_eq_none_iff]
    intro x hx
    obtain ⟨j, hj, rfl⟩ := List.mem_iff_getElem.1 hx
    exact h j _ hj (List.getElem?_eq_getElem hj)
  rw [atOf, h1]

set_option maxHeartbeats 1000000 in
theorem refAt_any (M Y : Int) (xs : List T3) (v : Value) (c i : Int) (w : World) (h : L3 w v xs) :
    Calls Try.prog 32 #[RQ M Y v, .int .i64 c, .int .i64 i] w fun e w' => e = .returned (.int .i64 (atOf xs c i)) ∧ w.grownBy w' none := by
  obtain ⟨a, cap, hv, hl, hcp, hm, _⟩ := id h
  subst hv
  have b1 := rq_box M Y (.slice a xs.length cap) w
  have k2 := b1.cellOf (i := 2) rfl
  have hgA := g_alloc (g_refl w none) (.cells #[.int .i64 M, .int .i64 Y, .slice a xs.length cap] 39)
  have hL := h.keptN hgA
  clear b1 h
  go_enter Try.func32, Try.ntmps32
  go_wp2
  obtain ⟨W, hW⟩ : ∃ W, W = w.alloc (.cells #[.int .i64 M, .int .i64 Y, .slice a xs.length cap] 39) := ⟨_, rfl⟩
  rw [← hW] at k2 hgA hL ⊢
  clear hW
  go_loopw [7] (fun v wr => ∃ (k : Nat), k ≤ xs.length ∧ v = .int .i64 k ∧ Hid (∀ j y, j < k → xs[j]? = some y → isIt c i y = false) ∧ W = wr) (fun v _ => xs.length - (intOf v).toNat)
  case atStart => exact ⟨0, Nat.zero_le _, rfl, hid (fun j y hj => by omega), rfl⟩
  case round =>
    obtain ⟨k, hk, rfl, hno, rfl⟩ := hrel
    by_cases hlt : k < xs.length
    · obtain ⟨⟨x, y, z⟩, hn⟩ : ∃ n, xs[k]? = some n := ⟨xs[k], List.getElem?_eq_getElem hlt⟩
      obtain ⟨g, off, cap', e', d0, d1, d2⟩ := hL.at hn
      cases e'
      have HN := hid hn
      clear hn
      have next : isIt c i (x, y, z) = false → Hid (∀ j y, j < k + 1 → xs[j]? = some y → isIt c i y = false) := fun hf => hid fun j y' hj hy => by
        by_cases hjk : j < k
        · exact hno.out j y' hjk hy
        · obtain rfl : j = k := by omega
          rw [HN.out] at hy
          cases hy
          exact hf
      have HX := hid next
      clear next
      by_cases hxc : x = c
      · by_cases hyi : y = i
        · have hfin := hid (atOf_hit hno.out HN.out (by simp [isIt, hxc, hyi]))
          subst hxc hyi
          go_wp2
          go_ret
          exact ⟨by rw [hfin.out]; rfl, hgA⟩
        · have hf : isIt c i (x, y, z) = false := by simp [isIt, hyi]
          have HF := hid (HX.out hf)
          have hyb : (y == i) = false := by simpa using hyi
          subst hxc
          clear hf hyi
          go_wp2
          go_roundw
          case rel => exact ⟨k + 1, by omega, by go_num, HF.out, trivial⟩
          case measure => simp [intOf]; omega
      · have hf : isIt c i (x, y, z) = false := by simp [isIt, hxc]
        have HF := hid (HX.out hf)
        have hxb : (x == c) = false := by simpa using hxc
        clear hf hxc
        go_wp2
        go_roundw
        case rel => exact ⟨k + 1, by omega, by go_num, HF.out, trivial⟩
        case measure => simp [intOf]; omega
    · obtain rfl : k = xs.length := by omega
      have hfin := hid (atOf_miss hno.out)
      go_wp2
      go_ret
      exact ⟨by rw [hfin.out]; rfl, hgA⟩
end Go.Proofs.Ytjjkhbipeehljaa
