/-
  A quarantine in memory: what is within bounds, where a thing lies, how many bytes there are.
-/
import Derived.Test.YtjjkhbipeehljaaFifo
namespace Go.Proofs.Ytjjkhbipeehljaa
open Go.RowKit

/-- A slice that reads as a list of numbers. -/
def L1 (w : World) (v : Value) (ns : List Int) : Prop :=
  ∃ (g off cap : Nat), v = .slice (some ⟨g, off, none⟩) ns.length cap ∧ ns.length ≤ 1000 ∧ ns.length ≤ cap ∧ cap ≤ maxLen ∧ ∀ (i : Nat) (n : Int), ns[i]? = some n → w.cell? ⟨g, off + i, none⟩ = some (.int .i64 n)
theorem L1.keptN {w w' : World} {v : Value} {ns : List Int} (h : L1 w v ns) (hg : w.grownBy w' none) : L1 w' v ns := by
  obtain ⟨g, off, cap, rfl, h1, h2, h3, hc⟩ := h
  exact ⟨g, off, cap, rfl, h1, h2, h3, fun i n hi => g_cellN hg (hc i n hi)⟩

def bad (lo hi n : Int) : Bool := decide (n < lo) || decide (n > hi)

theorem bad_any (lo hi n : Int) (lb mb : Nat) (w : World) (h1 : w.cell? ⟨lb, 0, none⟩ = some (.int .i64 lo)) (h2 : w.cell? ⟨mb, 0, none⟩ = some (.int .i64 hi)) :
    Calls Try.prog 38 #[.int .i64 n, .pointer (some ⟨lb, 0, none⟩), .pointer (some ⟨mb, 0, none⟩)] w fun e w' => e = .returned (.bool (bad lo hi n)) ∧ w = w' := by
  by_cases h : n < lo
  · go_enter Try.func38, Try.ntmps38
    go_wp2
    go_ret
    exact ⟨by simp [bad, h], rfl⟩
  · go_enter Try.func38, Try.ntmps38
    go_wp2
    go_ret
    have e : decide (n < lo) = false := by simp; omega
    exact ⟨by simp [bad, e], rfl⟩

theorem idx1_any (lo hi : Int) (lb mb : Nat) (ns : List Int) (v : Value) (w : World) (h : L1 w v ns) (h1 : w.cell? ⟨lb, 0, none⟩ = some (.int .i64 lo)) (h2 : w.cell? ⟨mb, 0, none⟩ = some (.int .i64 hi)) :
    Calls Try.prog 46 #[v, .func (.func 38) #[] #[.pointer (some ⟨lb, 0, none⟩), .pointer (some ⟨mb, 0, none⟩)]] w fun e w' => ∃ r : Int, e = .returned (.int .i64 r) ∧ decide (0 ≤ r) = ns.any (bad lo hi) ∧ w = w' := by
  obtain ⟨g, off, cap, rfl, hl, hcp, hm, hc⟩ := h
  have HC := hid hc
  clear hc
  go_enter Try.func46, Try.ntmps46
  go_wp2
  go_loopw [8] (fun v wr => ∃ (k : Nat), k ≤ ns.length ∧ v = .int .i64 k ∧ (ns.take k).any (bad lo hi) = false ∧ w = wr) (fun v _ => ns.length - (intOf v).toNat)
  case atStart => exact ⟨0, Nat.zero_le _, rfl, rfl, rfl⟩
  case round =>
    obtain ⟨k, hk, rfl, ht, rfl⟩ := hrel
    have HT := hid ht
    clear ht
    by_cases hlt : k < ns.length
    · obtain ⟨n, hn⟩ : ∃ n, ns[k]? = some n := ⟨ns[k], List.getElem?_eq_getElem hlt⟩
      have d1 := HC.out k n hn
      have HN := hid hn
      clear hn
      cases hb : bad lo hi n with
      | true =>
        have HB := hid hb
        go_wp2_with (go_at_call 38; refine (bad_any lo hi n lb mb _ h1 h2).mono ?_; rintro e w2 ⟨rfl, rfl⟩; simp only [hb])
        go_ret
        refine ⟨k, rfl, ?_, rfl⟩
        rw [List.any_eq_true.2 ⟨n, List.mem_of_getElem? HN.out, HB.out⟩]
        simp
      | false =>
        have HB := hid hb
        go_wp2_with (go_at_call 38; refine (bad_any lo hi n lb mb _ h1 h2).mono ?_; rintro e w2 ⟨rfl, rfl⟩; simp only [hb])
        go_roundw
        case rel => exact ⟨k + 1, by omega, by go_num, by rw [List.take_add_one, HN.out, List.any_append, HT.out]; simp [HB.out], trivial⟩
        case measure => simp [intOf]; omega
    · obtain rfl : k = ns.length := by omega
      go_wp2
      go_ret
      refine ⟨-1, rfl, ?_, rfl⟩
      have := HT.out
      rw [List.take_length] at this
      rw [this]; rfl

theorem con1_any (lo hi : Int) (lb mb : Nat) (ns : List Int) (v : Value) (w : World) (h : L1 w v ns) (h1 : w.cell? ⟨lb, 0, none⟩ = some (.int .i64 lo)) (h2 : w.cell? ⟨mb, 0, none⟩ = some (.int .i64 hi)) :
    Calls Try.prog 37 #[v, .func (.func 38) #[] #[.pointer (some ⟨lb, 0, none⟩), .pointer (some ⟨mb, 0, none⟩)]] w fun e w' => e = .returned (.bool (ns.any (bad lo hi))) ∧ w = w' := by
  go_enter Try.func37, Try.ntmps37
  obtain ⟨g, off, cap, rfl, hl, hcp, hm, hc⟩ := id h
  go_wp2_with fail
  refine (idx1_any lo hi lb mb ns _ _ h h1 h2).mono ?_
  rintro e w2 ⟨r, rfl, hr, rfl⟩
  go_wp2
  go_ret
  exact ⟨by rw [← hr]; simp, rfl⟩

theorem within_any (lo hi : Int) (ns : List Int) (v : Value) (w : World) (h : L1 w v ns) :
    Calls Try.prog 21 #[.int .i64 lo, .int .i64 hi, v] w fun e w' => e = .returned (.bool (!ns.any (bad lo hi))) ∧ w.grownBy w' none := by
  have hg1 : w.grownBy (w.alloc (.cells #[.int .i64 lo] 3)) none := g_alloc (g_refl w _) _
  have hgA := g_alloc hg1 (.cells #[.int .i64 hi] 3)
  have h' := h.keptN hgA
  have b1 := ((Blk.new w [.int .i64 lo] 3).alloc (.cells #[.int .i64 hi] 3)).cellOf (i := 0) rfl
  have b2 := (Blk.new (w.alloc (.cells #[.int .i64 lo] 3)) [.int .i64 hi] 3).cellOf (i := 0) rfl
  rw [World.size_alloc] at b2
  obtain ⟨g, off, cap, rfl, hl, hcp, hm, hc⟩ := id h
  go_enter Try.func21, Try.ntmps21
  go_wp2_with fail
  refine (con1_any lo hi _ _ ns _ _ h' b1 b2).mono ?_
  rintro e w2 ⟨rfl, rfl⟩
  go_wp2
  go_ret
  exact ⟨rfl, hgA⟩

/-! ### Where a thing lies -/
def isIt (c i : Int) (x : T3) : Bool := x.1 == c && x.2.1 == i
def atOf (xs : List T3) (c i : Int) : Int := match xs.findIdx? (isIt c i) with | some k => k | none => -1

theorem isIt_any (c i x y z : Int) (cb ib : Nat) (w : World) (h1 : w.cell? ⟨cb, 0, none⟩ = some (.int .i64 c)) (h2 : w.cell? ⟨ib, 0, none⟩ = some (.int .i64 i)) :
    Calls Try.prog 40 #[.agg #[.int .i64 x, .int .i64 y, .int .i64 z], .pointer (some ⟨cb, 0, none⟩), .pointer (some ⟨ib, 0, none⟩)] w fun e w' => e = .returned (.bool (isIt c i (x, y, z))) ∧ w.grownBy w' none := by
  have hg1 : w.grownBy (w.alloc (.cells #[.int .i64 x, .int .i64 y, .int .i64 z] 33)) none := g_alloc (g_refl w _) _
  have k1 := g_cellN hg1 h1
  have k2 := g_cellN hg1 h2
  cases h : (x == c) with
  | true =>
    go_enter Try.func40, Try.ntmps40
    go_wp2
    go_ret
    exact ⟨by simp [isIt, h], hg1⟩
  | false =>
    go_enter Try.func40, Try.ntmps40
    go_wp2
    go_ret
    exact ⟨by simp [isIt, h], hg1⟩

theorem L3.at {w : World} {v : Value} {xs : List T3} (h : L3 w v xs) {k : Nat} {x y z : Int} (hk : xs[k]? = some (x, y, z)) : ∃ g off cap, v = .slice (some ⟨g, off, none⟩) xs.length cap ∧
    w.cell? ⟨g, off + k * 3, none⟩ = some (.int .i64 x) ∧ w.cell? ⟨g, off + k * 3 + 1, none⟩ = some (.int .i64 y) ∧ w.cell? ⟨g, off + k * 3 + 2, none⟩ = some (.int .i64 z) := by
  obtain ⟨a, cap, rfl, hl, hcp, hm, hc⟩ := h
  rcases hc with ⟨_, rfl⟩ | ⟨g, off, rfl, hx⟩
  · simp at hk
  · exact ⟨g, off, cap, rfl, hx _ _ _ _ hk⟩

theorem idx3_any (c i : Int) (cb ib : Nat) (xs : List T3) (v : Value) (w : World) (h : L3 w v xs) (h1 : w.cell? ⟨cb, 0, none⟩ = some (.int .i64 c)) (h2 : w.cell? ⟨ib, 0, none⟩ = some (.int .i64 i)) :
    Calls Try.prog 39 #[v, .func (.func 40) #[] #[.pointer (some ⟨cb, 0, none⟩), .pointer (some ⟨ib, 0, none⟩)]] w fun e w' => e = .returned (.int .i64 (atOf xs c i)) ∧ w.grownBy w' none := by
  obtain ⟨a, cap, rfl, hl, hcp, hm, _⟩ := id h
  go_enter Try.func39, Try.ntmps39
  go_wp2
  go_loopw [8] (fun v wr => ∃ (k : Nat), k ≤ xs.length ∧ v = .int .i64 k ∧ (xs.take k).any (isIt c i) = false ∧ w.grownBy wr none) (fun v _ => xs.length - (intOf v).toNat)
  case atStart => exact ⟨0, Nat.zero_le _, rfl, rfl, g_refl _ _⟩
  case round =>
    obtain ⟨k, hk, rfl, ht, hg⟩ := hrel
    have HT := hid ht
    clear ht
    by_cases hlt : k < xs.length
    · obtain ⟨⟨x, y, z⟩, hn⟩ : ∃ n, xs[k]? = some n := ⟨xs[k], List.getElem?_eq_getElem hlt⟩
      obtain ⟨g, off, cap', e', d0, d1, d2⟩ := (h.keptN hg).at hn
      cases e'
      have k1 := g_cellN hg h1
      have k2 := g_cellN hg h2
      have HN := hid hn
      clear hn
      cases hb : isIt c i (x, y, z) with
      | true =>
        have HB := hid hb
        go_wp2_with (go_at_call 40; refine (isIt_any c i x y z cb ib _ k1 k2).mono ?_; rintro e w2 ⟨rfl, hg2⟩; simp only [hb])
        go_ret
        refine ⟨?_, g_none hg hg2⟩
        have : xs.findIdx? (isIt c i) = some k := by
          rw [List.findIdx?_eq_some_iff_getElem]
          have hx := (List.getElem?_eq_some_iff.1 HN.out)
          refine ⟨hx.1, by rw [hx.2]; exact HB.out, fun j hj => ?_⟩
          have h3 := List.any_eq_false.1 HT.out (xs[j]) (List.mem_take_iff_getElem.2 ⟨j, by omega, rfl⟩)
          simpa using h3
        show Ending.returned (.int .i64 k) = _
        rw [atOf, this]
      | false =>
        have HB := hid hb
        go_wp2_with (go_at_call 40; refine (isIt_any c i x y z cb ib _ k1 k2).mono ?_; rintro e w2 ⟨rfl, hg2⟩; simp only [hb])
        go_roundw
        case rel => exact ⟨k + 1, by omega, by go_num, by rw [List.take_add_one, HN.out, List.any_append, HT.out]; simp [HB.out], g_none hg hg2⟩
        case measure => simp [intOf]; omega
    · obtain rfl : k = xs.length := by omega
      go_wp2
      go_ret
      refine ⟨?_, hg⟩
      have := HT.out
      rw [List.take_length] at this
      have : xs.findIdx? (isIt c i) = none := by
        rw [List.findIdx?_eq_none_iff]
        intro x hx
        simpa using List.any_eq_false.1 this x hx
      show Ending.returned (.int .i64 (-1)) = _
      rw [atOf, this]

/-! ### How many bytes -/
def sum3 (xs : List T3) : Int := (xs.map (·.2.2)).sum
def Good (xs : List T3) : Prop := ∀ x ∈ xs, 0 ≤ x.2.2 ∧ x.2.2 ≤ 1048576
theorem sum3_append (a b : List T3) : sum3 (a ++ b) = sum3 a + sum3 b := by simp [sum3]
theorem sum3_take {xs : List T3} {k : Nat} {x y z : Int} (h : xs[k]? = some (x, y, z)) : sum3 (xs.take (k + 1)) = sum3 (xs.take k) + z := by
  rw [List.take_add_one, h, sum3_append]; simp [sum3]
theorem Good.sum : ∀ {xs : List T3}, Good xs → 0 ≤ sum3 xs ∧ sum3 xs ≤ 1048576 * xs.length
  | [], _ => by simp [sum3]
  | x :: xs, h => by
    have h1 := h x (by simp)
    have h2 := Good.sum (xs := xs) (fun y hy => h y (by simp [hy]))
    simp only [sum3, List.map_cons, List.sum_cons, List.length_cons] at h2 ⊢
    omega
theorem Good.take {xs : List T3} (h : Good xs) (k : Nat) : Good (xs.take k) := fun x hx => h x (List.mem_of_mem_take hx)
theorem Good.drop {xs : List T3} (h : Good xs) (k : Nat) : Good (xs.drop k) := fun x hx => h x (List.mem_of_mem_drop hx)

theorem sum_any (xs : List T3) (v : Value) (w : World) (h : L3 w v xs) (hG : Good xs) :
    Calls Try.prog 26 #[v] w fun e w' => e = .returned (.int .i64 (sum3 xs)) ∧ w.grownBy w' none := by
  obtain ⟨a, cap, rfl, hl, hcp, hm, _⟩ := id h
  have HG := hid hG
  clear hG
  go_enter Try.func26, Try.ntmps26
  go_wp2
  go_loopw [2, 7] (fun u v wr => ∃ (k : Nat), k ≤ xs.length ∧ v = .int .i64 k ∧ u = .int .i64 (sum3 (xs.take k)) ∧ w.grownBy wr none) (fun _ v _ => xs.length - (intOf v).toNat)
  case atStart => exact ⟨0, Nat.zero_le _, rfl, rfl, g_refl _ _⟩
  case round =>
    obtain ⟨k, hk, rfl, rfl, hg⟩ := hrel
    by_cases hlt : k < xs.length
    · obtain ⟨⟨x, y, z⟩, hn⟩ : ∃ n, xs[k]? = some n := ⟨xs[k], List.getElem?_eq_getElem hlt⟩
      obtain ⟨g, off, cap', e', d0, d1, d2⟩ := (h.keptN hg).at hn
      cases e'
      have hs := (HG.out.take k).sum
      have hz := HG.out (x, y, z) (List.mem_of_getElem? hn)
      have hst := sum3_take hn
      have hlk : (xs.take k).length ≤ 1000 := by simp; omega
      obtain ⟨S, hS⟩ : ∃ S, S = sum3 (xs.take k) := ⟨_, rfl⟩
      rw [← hS] at hs hst ⊢
      have HN := hid hst
      clear hst hn
      simp only [] at hz
      go_wp2
      go_roundw
      case rel => exact ⟨k + 1, by omega, by go_num, by rw [HN.out]; go_num, g_alloc hg _⟩
      case measure => simp [intOf]; omega
    · obtain rfl : k = xs.length := by omega
      go_wp2
      go_ret
      exact ⟨by rw [List.take_length]; rfl, hg⟩
end Go.Proofs.Ytjjkhbipeehljaa
