/-
  The questions: are there locks, is there such a thread, such a lock, may the thread have it?
-/
import Derived.Test.YtnpimkigiioiaaaLockHeld
import Derived.BigQuiet
import Derived.Deep.QuietTactic
namespace Go.Proofs.Ytnpimkigiioiaaa
open Go.RowKit
set_option maxRecDepth 100000

def idxI (p : Int → Bool) : Nat → List Int → Int
  | _, [] => -1
  | k, x :: xs => if p x then k else idxI p (k + 1) xs
theorem idxI_iff (p : Int → Bool) : ∀ (ns : List Int) (k : Nat), 0 ≤ idxI p k ns ↔ ns.any p = true
  | [], k => by simp [idxI]
  | x :: xs, k => by
    have ih := idxI_iff p xs (k + 1)
    by_cases h : p x = true
    · simp [idxI, h]
    · simp only [idxI, if_neg h, List.any_cons, Bool.or_eq_true, ih]
      constructor
      · exact Or.inr
      · rintro (h1 | h1)
        · exact absurd h1 h
        · exact h1
theorem idxI_any (p : Int → Bool) (ns : List Int) (k : Nat) : decide (0 ≤ idxI p k ns) = ns.any p := by
  rw [Bool.eq_iff_iff, decide_eq_true_eq]; exact idxI_iff p ns k
theorem idxI_drop (p : Int → Bool) : ∀ (ns : List Int) (j k : Nat), (∀ (i : Nat) (x : Int), i < j → ns[i]? = some x → p x = false) → idxI p k ns = idxI p (k + j) (ns.drop j)
  | [], j, k, _ => by simp [idxI]
  | x :: xs, 0, k, _ => rfl
  | x :: xs, j + 1, k, h => by
    have h0 := h 0 x (by omega) rfl
    simp only [idxI, h0, List.drop_succ_cons]
    rw [show k + (j + 1) = k + 1 + j by omega]
    simpa using idxI_drop p xs j (k + 1) fun i y hi hy => h (i + 1) y (by omega) (by simpa using hy)
theorem idxI_at {p : Int → Bool} {ns : List Int} {j : Nat} {x : Int} (h : ∀ (i : Nat) (x : Int), i < j → ns[i]? = some x → p x = false) (hx : ns[j]? = some x) (hp : p x = true) : idxI p 0 ns = j := by
  rw [idxI_drop p ns j 0 h]
  have hl := List.getElem?_eq_some_iff.1 hx
  rw [List.drop_eq_getElem_cons hl.1, hl.2, idxI, if_pos hp]; simp
theorem idxI_none {p : Int → Bool} {ns : List Int} (h : ∀ (i : Nat) (x : Int), i < ns.length → ns[i]? = some x → p x = false) : idxI p 0 ns = -1 := by
  rw [idxI_drop p ns ns.length 0 h, List.drop_length]; rfl

set_option maxHeartbeats 1000000 in
theorem indexFunc_any (fn : Nat) (a2 : Array Value) (eg : ∀ args w, (callFunc fn args).run Try.prog w = .ok (.enter fn args) w) (v : Value) (ns : List Int) (p : Int → Bool) (w : World) (h : IntsAt w v ns)
    (hp : ∀ n : Int, Calls Try.prog fn (#[.int .i64 n] ++ a2) w fun e w' => e = .returned (.bool (p n)) ∧ w = w') :
    Calls Try.prog 57 #[v, .func (.func fn) #[] a2] w fun e w' => e = .returned (.int .i64 (idxI p 0 ns)) ∧ w = w' := by
  obtain ⟨a, cap, rfl, hl, hcp, hm, hc⟩ := h
  have HC := hid hc
  have HP := hid hp
  clear hc hp
  go_enter Try.func57, Try.ntmps57
  go_wp2
  go_loop [8] (fun v8 => ∃ (k : Nat), k ≤ ns.length ∧ v8 = .int .i64 k ∧ (∀ (i : Nat) (x : Int), i < k → ns[i]? = some x → p x = false)) (fun v8 => ns.length - (intOf v8).toNat)
  case atStart => exact ⟨0, Nat.zero_le _, rfl, fun i x hi => by omega⟩
  case round =>
    obtain ⟨k, hk, rfl, hall⟩ := hrel
    have HA := hid hall
    clear hall
    by_cases hlt : k < ns.length
    · obtain ⟨x, hx⟩ : ∃ x, ns[k]? = some x := ⟨ns[k], List.getElem?_eq_getElem hlt⟩
      obtain ⟨g, off, rfl, hcell⟩ : ∃ g off, a = some ⟨g, off, none⟩ ∧ ∀ (i : Nat) (n : Int), ns[i]? = some n → w.cell? ⟨g, off + i, none⟩ = some (.int .i64 n) := by
        rcases HC.out with ⟨_, rfl⟩ | h
        · simp at hlt
        · exact h
      have d0 := hcell k x hx
      have HX := hid hx
      have hC := HP.out x
      clear hx hcell
      cases hb : p x with
      | true =>
        have he := idxI_at HA.out HX.out hb
        have HE := hid he
        have HB := hid hb
        clear he hb
        go_wp2_with fail
        refine hC.mono ?_
        rintro e _ ⟨rfl, rfl⟩
        rw [HB.out]
        go_wp2_with fail
        go_ret
        exact ⟨by rw [HE.out]; rfl, rfl⟩
      | false =>
        have HB := hid hb
        clear hb
        go_wp2_with fail
        refine hC.mono ?_
        rintro e _ ⟨rfl, rfl⟩
        rw [HB.out]
        go_wp2_with fail
        go_round
        case rel => exact ⟨k + 1, by omega, by go_num, fun i y hi hy => by
          by_cases hik : i < k
          · exact HA.out i y hik hy
          · obtain rfl : i = k := by omega
            rw [HX.out] at hy; cases hy; exact HB.out⟩
        case measure => simp [intOf]; omega
    · obtain rfl : k = ns.length := by omega
      have he := idxI_none HA.out
      have HE := hid he
      clear he
      go_wp2_with fail
      go_ret
      exact ⟨by rw [HE.out]; rfl, rfl⟩

theorem containsFunc_any (fn : Nat) (a2 : Array Value) (eg : ∀ args w, (callFunc fn args).run Try.prog w = .ok (.enter fn args) w) (v : Value) (ns : List Int) (p : Int → Bool) (w : World) (h : IntsAt w v ns)
    (hp : ∀ n : Int, Calls Try.prog fn (#[.int .i64 n] ++ a2) w fun e w' => e = .returned (.bool (p n)) ∧ w = w') :
    Calls Try.prog 34 #[v, .func (.func fn) #[] a2] w fun e w' => e = .returned (.bool (ns.any p)) ∧ w = w' := by
  have hC := indexFunc_any fn a2 eg v ns p w h hp
  have hA := idxI_any p ns 0
  have HA := hid hA
  clear hA eg hp
  go_enter Try.func34, Try.ntmps34
  go_wp2_with fail
  refine hC.mono ?_
  rintro e _ ⟨rfl, rfl⟩
  go_wp2_with fail
  go_ret
  exact ⟨by rw [← HA.out]; rfl, rfl⟩

/-! ### The questions -/
def thB (n : Int) : Bool := decide (0 ≤ n) && decide (n < 4)
def inL (l : List Int) (n : Int) : Bool := decide (0 ≤ n) && decide (n < (l.length : Int))
def ordB (l : List Int) (t n : Int) : Bool := (heldL l t).any fun r => decide (n ≤ r)

theorem is_any (v : Option Addr) (b : Bool) (w : World) (h : ∀ W, w.grownBy W none → Calls Try.prog 44 #[.pointer v] W fun e w' => e = .returned (.bool b) ∧ W = w') :
    Calls Try.prog 30 #[.pointer v] w fun e w' => ∃ f, e = .returned (.agg #[f, .int .i64 1]) ∧ w.grownBy w' none ∧ WrongAt w' f b := by
  have hb := Blk.new w [.func (.func 44) #[.pointer v] #[], .int .i64 1] 75
  have hg := g_alloc (g_refl w none) (.cells #[.func (.func 44) #[.pointer v] #[], .int .i64 1] 75)
  have HH := hid h
  clear h
  go_enter Try.func30, Try.ntmps30
  go_wp2
  refine bodyPost_ret (results_cell_row rfl _ _ w.heap.size _ _ _ _ rfl hb Try.underlying75 rfl (by kernel_rfl)) rfl ?_
  exact ⟨_, rfl, hg, _, _, _, rfl, Go.Proofs.enters_of Try.func44 (by kernel_rfl) rfl, fun W hW => (HH.out W (g_none hg hW)).mono fun e w' ⟨he, hw⟩ => ⟨he, hw ▸ g_refl W none⟩⟩

theorem thread1_any (n : Int) (tb : Nat) (w : World) (hc : w.cell? ⟨tb, 0, none⟩ = some (.int .i64 n)) :
    Calls Try.prog 56 #[.pointer (some ⟨tb, 0, none⟩)] w fun e w' => e = .returned (.bool (!thB n)) ∧ w = w' := by
  by_cases h0 : n < 0
  · go_enter Try.func56, Try.ntmps56
    go_wp2
    go_ret
    exact ⟨by simp [thB]; omega, rfl⟩
  · go_enter Try.func56, Try.ntmps56
    go_wp2
    go_ret
    refine ⟨?_, rfl⟩
    have h1 : 0 ≤ n := by omega
    by_cases h4 : n < 4
    · simp [thB, h1, h4]
    · simp [thB, h1, h4]; omega
theorem thread_any (n : Int) (w : World) :
    Calls Try.prog 31 #[.int .i64 n] w fun e w' => ∃ f, e = .returned (.agg #[f, .int .i64 2]) ∧ w.grownBy w' none ∧ WrongAt w' f (!thB n) := by
  have hg1 := g_alloc (g_refl w none) (.cells #[.int .i64 n] 3)
  have hc := (Blk.new w [.int .i64 n] 3).cellOf (i := 0) rfl
  have hb := Blk.new (w.alloc (.cells #[.int .i64 n] 3)) [.func (.func 56) #[] #[.pointer (some ⟨w.heap.size, 0, none⟩)], .int .i64 2] 75
  have hg2 := g_alloc (g_refl (w.alloc (.cells #[.int .i64 n] 3)) none) (.cells #[.func (.func 56) #[] #[.pointer (some ⟨w.heap.size, 0, none⟩)], .int .i64 2] 75)
  go_enter Try.func31, Try.ntmps31
  go_wp2
  refine bodyPost_ret (results_cell_row rfl _ _ (w.heap.size + 1) _ _ _ _ rfl (by rw [World.size_alloc] at hb; exact hb) Try.underlying75 rfl (by kernel_rfl)) rfl ?_
  exact ⟨_, rfl, g_none hg1 hg2, _, _, _, rfl, Go.Proofs.enters_of Try.func56 (by kernel_rfl) rfl, fun W hW => (thread1_any n _ W (g_cellN (g_none hg2 hW) hc)).mono fun e w' ⟨he, hw⟩ => ⟨he, hw ▸ g_refl W none⟩⟩

theorem llen (p pc g K : Nat) (l : List Int) (w : World) (h : LockAt w p pc g K l) :
    Calls Try.prog 36 #[.pointer (some ⟨pc, 0, none⟩)] w fun e w' => e = .returned (.int .i64 l.length) ∧ w = w' := by
  obtain ⟨xs, hb, hC, hx, _⟩ := h
  rw [← (words_get hx).1]
  exact len_some pc g xs w hC

theorem rank1_any (p pc g K : Nat) (l : List Int) (n : Int) (nb lb : Nat) (w : World) (h : LockAt w p pc g K l) (hn : w.cell? ⟨nb, 0, none⟩ = some (.int .i64 n)) (hl : w.cell? ⟨lb, 0, none⟩ = some (.pointer (some ⟨p, 0, none⟩))) :
    Calls Try.prog 62 #[.pointer (some ⟨nb, 0, none⟩), .pointer (some ⟨lb, 0, none⟩)] w fun e w' => e = .returned (.bool (!inL l n)) ∧ w.grownBy w' none := by
  have hc := h.cell
  have hL : ∀ m, Calls Try.prog 36 #[.pointer (some ⟨pc, 0, none⟩)] (w.drewN m) fun e w' => e = .returned (.int .i64 l.length) ∧ ∃ k, w' = w.drewN k := fun m => (llen p pc g K l (w.drewN m) h).mono fun e w' ⟨he, hw⟩ => ⟨he, m, hw.symm⟩
  have HL := hid hL
  clear hL
  by_cases h0 : n < 0
  · have hd : decide (n < 0) = true := by simpa using h0
    go_enter Try.func62, Try.ntmps62
    go_wp2
    go_quiet (fail)
    go_wp2
    go_ret
    exact ⟨by simp [inL]; omega, g_drewN (g_refl w none) _⟩
  · have hd : decide (n < 0) = false := by simpa using h0
    go_enter Try.func62, Try.ntmps62
    go_wp2
    go_quiet ((go_at_call 36; exact HL.out _))
    go_wp2
    go_ret
    refine ⟨?_, g_drewN (g_refl w none) _⟩
    have h1 : 0 ≤ n := by omega
    by_cases h4 : n < (l.length : Int)
    · simp [inL, h1, h4]
    · simp [inL, h1, h4]; omega
end Go.Proofs.Ytnpimkigiioiaaa
