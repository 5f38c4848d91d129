/-
  Sums and products of a slice: the code's and the document's.
-/
import Derived.Test.YtgdnafafojiabaaDoorRoundFold
namespace Go.Proofs.YtgdnafafojiabaaDoor
open Go.RowKit

def addO (ns : List Nat) : Option Nat := foldN (fun x y => x + y) 0 ns
def mulO (ns : List Nat) : Option Nat := if 0 ∈ ns then some 0 else foldN (fun x y => x * y) 1 ns
theorem addO_lt (ns : List Nat) : valO (addO ns) < 18446744073709551616 := foldN_lt _ _ (by decide)
theorem mulO_lt (ns : List Nat) : valO (mulO ns) < 18446744073709551616 := by
  unfold mulO
  split
  · decide
  · exact foldN_lt _ _ (by decide)
theorem no_take {ns : List Nat} {k x : Nat} (h : ∀ j : Nat, j < k → ns[j]? ≠ some 0) (hx : ns[k]? = some x) (h0 : x ≠ 0) : ∀ j : Nat, j < k + 1 → ns[j]? ≠ some 0 := by
  intro j hj
  by_cases hjk : j < k
  · exact h j hjk
  · obtain rfl : j = k := by omega
    rw [hx]
    simpa using h0
theorem mulO_no {ns : List Nat} (h : ∀ j : Nat, j < ns.length → ns[j]? ≠ some 0) : mulO ns = foldN (fun x y => x * y) 1 ns := by
  unfold mulO
  rw [if_neg]
  intro hm
  obtain ⟨j, hj, e⟩ := List.mem_iff_getElem.1 hm
  exact h j hj (by rw [List.getElem?_eq_getElem hj, e])
theorem mulO_yes {ns : List Nat} {k : Nat} (h : ns[k]? = some 0) : mulO ns = some 0 := if_pos (List.mem_of_getElem? h)

theorem add_any (v : Value) (ns : List Nat) (w : World) (h : LU w v ns) :
    Calls Tryd.prog 9 #[v] w fun e w' => e = .returned (.tuple #[.int .u64 ((valO (addO ns) : Nat) : Int), .int .i64 (errO (addO ns))]) ∧ w.grownBy w' none := by
  have hfo := foldAdd_any v ns w h
  have hto := toldO_any (foldN (fun x y => x + y) 0 ns)
  rw [show addO ns = foldN (fun x y => x + y) 0 ns from rfl]
  obtain ⟨V, hV⟩ : ∃ V, V = valO (foldN (fun x y => x + y) 0 ns) := ⟨_, rfl⟩
  obtain ⟨B, hB⟩ : ∃ B, B = okO (foldN (fun x y => x + y) 0 ns) := ⟨_, rfl⟩
  obtain ⟨E, hE⟩ : ∃ E, E = errO (foldN (fun x y => x + y) 0 ns) := ⟨_, rfl⟩
  rw [← hV, ← hB] at hfo
  rw [← hV, ← hB, ← hE] at hto
  rw [← hV, ← hE]
  clear hV hB hE
  go_enter Tryd.func9, Tryd.ntmps9
  go_wp2_with fail
  refine hfo.mono ?_
  rintro e w1 ⟨rfl, hg1⟩
  go_wp2_with fail
  refine (hto _).mono ?_
  rintro e w2 ⟨rfl, rfl⟩
  go_wp2_with fail
  go_ret2
  exact ⟨rfl, hg1⟩

set_option maxHeartbeats 1000000 in
theorem mul_any (v : Value) (ns : List Nat) (w : World) (h : LU w v ns) :
    Calls Tryd.prog 10 #[v] w fun e w' => e = .returned (.tuple #[.int .u64 ((valO (mulO ns) : Nat) : Int), .int .i64 (errO (mulO ns))]) ∧ w.grownBy w' none := by
  have hfo := foldMul_any v ns w h
  have hto := toldO_any (foldN (fun x y => x * y) 1 ns)
  have hno : (∀ j : Nat, j < ns.length → ns[j]? ≠ some 0) → mulO ns = foldN (fun x y => x * y) 1 ns := fun h => mulO_no h
  generalize foldN (fun x y => x * y) 1 ns = F at *
  obtain ⟨V, hV⟩ : ∃ V, V = valO F := ⟨_, rfl⟩
  obtain ⟨B, hB⟩ : ∃ B, B = okO F := ⟨_, rfl⟩
  obtain ⟨E, hE⟩ : ∃ E, E = errO F := ⟨_, rfl⟩
  rw [← hV, ← hB] at hfo
  rw [← hV, ← hB, ← hE] at hto
  have HFO := hid hfo
  have HTO := hid hto
  have HNO := hid hno
  have HV := hid hV
  have HE := hid hE
  obtain ⟨R, hR⟩ : ∃ R, R = mulO ns := ⟨_, rfl⟩
  rw [← hR]
  have HR := hid hR
  clear hfo hto hno hB hV hE hR
  obtain ⟨a, cap, hv, hl, hcp, hm⟩ := h.len
  subst hv
  go_enter Tryd.func10, Tryd.ntmps10
  go_wp2
  go_loopw [8] (fun v wr => ∃ k : Nat, k ≤ ns.length ∧ v = .int .i64 k ∧ (∀ j : Nat, j < k → ns[j]? ≠ some 0) ∧ w = wr) (fun v _ => ns.length - (intOf v).toNat)
  case atStart => exact ⟨0, by omega, rfl, fun j hj => by omega, rfl⟩
  case round =>
    obtain ⟨k, hk, rfl, hn, rfl⟩ := hrel
    have HN := hid hn
    clear hn
    by_cases hlt : k < ns.length
    · obtain ⟨x, hx⟩ : ∃ x, ns[k]? = some x := ⟨ns[k], List.getElem?_eq_getElem hlt⟩
      have hxl := h.lt hx
      obtain ⟨g, off, cap', e, hc⟩ := h.at hx
      cases e
      have HX := hid hx
      clear hx
      by_cases h0 : x = 0
      · subst h0
        have hR := HR.out
        rw [mulO_yes HX.out] at hR
        subst hR
        clear HR
        go_wp2_with fail
        go_ret2
        exact ⟨rfl, g_refl _ _⟩
      · have hz : (((x : Int)) == 0) = false := by simp; omega
        have H0 := hid h0
        clear h0
        go_wp2_with fail
        go_roundw
        case rel => exact ⟨k + 1, by omega, by go_num, no_take HN.out HX.out H0.out, trivial⟩
        case measure => simp [intOf]; omega
    · have hkl : k = ns.length := by omega
      subst hkl
      have hR := HR.out
      rw [HNO.out HN.out] at hR
      clear HR
      go_wp2_with fail
      refine HFO.out.mono ?_
      rintro e w1 ⟨rfl, hg1⟩
      go_wp2_with fail
      refine (HTO.out _).mono ?_
      rintro e w2 ⟨rfl, rfl⟩
      go_wp2_with fail
      go_ret2
      exact ⟨by rw [hR, ← HV.out, ← HE.out]; rfl, hg1⟩

theorem times0_any (b : Nat) (hb : b < 18446744073709551616) (w : World) :
    Calls Tryd.prog 31 #[.int .u64 0, .int .u64 (b : Int)] w fun e w' => e = .returned (.tuple #[.int .u64 0, .bool true]) ∧ w = w' := by
  go_enter Tryd.func31, Tryd.ntmps31
  go_wp2
  go_ret2
  exact ⟨rfl, rfl⟩
theorem times_all (a b : Nat) (ha : a < 18446744073709551616) (hb : b < 18446744073709551616) (w : World) :
    Calls Tryd.prog 31 #[.int .u64 (a : Int), .int .u64 (b : Int)] w fun e w' => e = .returned (.tuple #[.int .u64 ((valO (foldN (fun x y => x * y) a [b]) : Nat) : Int), .bool (okO (foldN (fun x y => x * y) a [b]))]) ∧ w = w' := by
  by_cases h0 : a = 0
  · subst h0
    have h := times0_any b hb w
    rw [show foldN (fun x y => x * y) 0 [b] = some 0 by simp [foldN]]
    exact h
  · exact times_any a b h0 ha hb w

theorem foldN_one {op : Nat → Nat → Nat} {a x : Nat} : foldN op a [x] = if op a x < 18446744073709551616 then some (op a x) else none := rfl

set_option maxHeartbeats 1000000 in
theorem refAdd_any (v : Value) (ns : List Nat) (w : World) (h : LU w v ns) :
    Calls Tryd.prog 11 #[v] w fun e w' => e = .returned (.tuple #[.int .u64 ((valO (addO ns) : Nat) : Int), .int .i64 (errO (addO ns))]) ∧ w = w' := by
  obtain ⟨a, cap, hv, hl, hcp, hm⟩ := h.len
  subst hv
  obtain ⟨R, hR⟩ : ∃ R, R = addO ns := ⟨_, rfl⟩
  rw [← hR]
  rw [show addO ns = foldN (fun x y => x + y) 0 ns from rfl] at hR
  have HR := hid hR
  clear hR
  go_enter Tryd.func11, Tryd.ntmps11
  go_wp2
  go_loopw [4, 5] (fun u v wr => ∃ (k acc : Nat), k ≤ ns.length ∧ v = .int .i64 k ∧ u = .int .u64 (acc : Int) ∧ acc < 18446744073709551616 ∧ Hid (foldN (fun x y => x + y) 0 ns = foldN (fun x y => x + y) acc (ns.drop k)) ∧ w = wr) (fun _ v _ => ns.length - (intOf v).toNat)
  case atStart => exact ⟨0, 0, by omega, rfl, rfl, by omega, rfl, rfl⟩
  case round =>
    obtain ⟨k, acc, hk, rfl, rfl, hacc, hf, rfl⟩ := hrel
    by_cases hlt : k < ns.length
    · obtain ⟨x, hx⟩ : ∃ x, ns[k]? = some x := ⟨ns[k], List.getElem?_eq_getElem hlt⟩
      have hxl := h.lt hx
      obtain ⟨g, off, cap', e, hc⟩ := h.at hx
      cases e
      have HX := hid hx
      clear hx
      have hm1 := plus_any acc x hacc hxl w
      rw [foldN_one] at hm1
      by_cases hfit : acc + x < 18446744073709551616
      · rw [if_pos hfit, show valO (some (acc + x)) = acc + x from rfl, show okO (some (acc + x)) = true from rfl] at hm1
        have hst := hid (foldN_step hf.out HX.out hfit)
        obtain ⟨M, hM⟩ : ∃ M, M = acc + x := ⟨_, rfl⟩
        have hMl : M < 18446744073709551616 := by rw [hM]; exact hfit
        rw [← hM] at hm1
        have HM := hid hM
        clear hM hfit hf
        go_wp2_with fail
        refine hm1.mono ?_
        rintro e w2 ⟨rfl, rfl⟩
        go_wp2_with fail
        go_roundw
        case rel => exact ⟨k + 1, M, by omega, by go_num, rfl, hMl, (by rw [HM.out]; exact hst.out), trivial⟩
        case measure => simp [intOf]; omega
      · rw [if_neg hfit, show valO none = 0 from rfl, show okO none = false from rfl] at hm1
        have hR := HR.out
        rw [foldN_over hf.out HX.out hfit] at hR
        subst hR
        clear hfit hf HR
        go_wp2_with fail
        refine hm1.mono ?_
        rintro e w2 ⟨rfl, rfl⟩
        go_wp2_with fail
        go_ret2
        exact ⟨rfl, rfl⟩
    · have hR := HR.out
      have hkl : k = ns.length := by omega
      rw [foldN_end hf.out hkl] at hR
      subst hR hkl
      clear hf HR
      go_wp2_with fail
      go_ret2
      exact ⟨rfl, rfl⟩

set_option maxHeartbeats 1000000 in
theorem refMul_any (v : Value) (ns : List Nat) (w : World) (h : LU w v ns) :
    Calls Tryd.prog 12 #[v] w fun e w' => e = .returned (.tuple #[.int .u64 ((valO (mulO ns) : Nat) : Int), .int .i64 (errO (mulO ns))]) ∧ w = w' := by
  obtain ⟨a, cap, hv, hl, hcp, hm⟩ := h.len
  subst hv
  obtain ⟨R, hR⟩ : ∃ R, R = mulO ns := ⟨_, rfl⟩
  rw [← hR]
  have HR := hid hR
  clear hR
  go_enter Tryd.func12, Tryd.ntmps12
  go_wp2
  go_loopw [4] (fun v wr => ∃ k : Nat, k ≤ ns.length ∧ v = .int .i64 k ∧ (∀ j : Nat, j < k → ns[j]? ≠ some 0) ∧ w = wr) (fun v _ => ns.length - (intOf v).toNat)
  case atStart => exact ⟨0, by omega, rfl, fun j hj => by omega, rfl⟩
  case round =>
    obtain ⟨k, hk, rfl, hn, rfl⟩ := hrel
    have HN := hid hn
    clear hn
    by_cases hlt : k < ns.length
    · obtain ⟨x, hx⟩ : ∃ x, ns[k]? = some x := ⟨ns[k], List.getElem?_eq_getElem hlt⟩
      have hxl := h.lt hx
      obtain ⟨g, off, cap', e, hc⟩ := h.at hx
      cases e
      have HX := hid hx
      clear hx
      by_cases h0 : x = 0
      · subst h0
        have hR := HR.out
        rw [mulO_yes HX.out] at hR
        subst hR
        clear HR
        go_wp2_with fail
        go_ret2
        exact ⟨rfl, rfl⟩
      · have hz : (((x : Int)) == 0) = false := by simp; omega
        have H0 := hid h0
        clear h0
        go_wp2_with fail
        go_roundw
        case rel => exact ⟨k + 1, by omega, by go_num, no_take HN.out HX.out H0.out, trivial⟩
        case measure => simp [intOf]; omega
    · have hkl : k = ns.length := by omega
      subst hkl
      have hR := HR.out
      rw [mulO_no HN.out] at hR
      replace HR := hid hR
      clear hR
      go_wp2_with fail
      go_loopw [5, 6] (fun u v wr => ∃ (k acc : Nat), k ≤ ns.length ∧ v = .int .i64 k ∧ u = .int .u64 (acc : Int) ∧ acc < 18446744073709551616 ∧ Hid (foldN (fun x y => x * y) 1 ns = foldN (fun x y => x * y) acc (ns.drop k)) ∧ w = wr) (fun _ v _ => ns.length - (intOf v).toNat)
      case atStart => exact ⟨0, 1, by omega, rfl, rfl, by omega, rfl, rfl⟩
      case round =>
        obtain ⟨k, acc, hk, rfl, rfl, hacc, hf, rfl⟩ := hrel
        by_cases hlt : k < ns.length
        · obtain ⟨x, hx⟩ : ∃ x, ns[k]? = some x := ⟨ns[k], List.getElem?_eq_getElem hlt⟩
          have hxl := h.lt hx
          obtain ⟨g, off, cap', e, hc⟩ := h.at hx
          cases e
          have HX := hid hx
          clear hx
          have hm1 := times_all acc x hacc hxl w
          rw [foldN_one] at hm1
          by_cases hfit : acc * x < 18446744073709551616
          · rw [if_pos hfit, show valO (some (acc * x)) = acc * x from rfl, show okO (some (acc * x)) = true from rfl] at hm1
            have hst := hid (foldN_step hf.out HX.out hfit)
            obtain ⟨M, hM⟩ : ∃ M, M = acc * x := ⟨_, rfl⟩
            have hMl : M < 18446744073709551616 := by rw [hM]; exact hfit
            rw [← hM] at hm1
            have HM := hid hM
            clear hM hfit hf
            go_wp2_with fail
            refine hm1.mono ?_
            rintro e w2 ⟨rfl, rfl⟩
            go_wp2_with fail
            go_roundw
            case rel => exact ⟨k + 1, M, by omega, by go_num, rfl, hMl, (by rw [HM.out]; exact hst.out), trivial⟩
            case measure => simp [intOf]; omega
          · rw [if_neg hfit, show valO none = 0 from rfl, show okO none = false from rfl] at hm1
            have hR := HR.out
            rw [foldN_over hf.out HX.out hfit] at hR
            subst hR
            clear hfit hf HR
            go_wp2_with fail
            refine hm1.mono ?_
            rintro e w2 ⟨rfl, rfl⟩
            go_wp2_with fail
            go_ret2
            exact ⟨rfl, rfl⟩
        · have hR := HR.out
          have hkl : k = ns.length := by omega
          rw [foldN_end hf.out hkl] at hR
          subst hR hkl
          clear hf HR
          go_wp2_with fail
          go_ret2
          exact ⟨rfl, rfl⟩
end Go.Proofs.YtgdnafafojiabaaDoor
