/-
  Locks in memory: cells, of which each word is a thread and one more, or 0; the questions of a call.
-/
import Derived.Test.YtnpimkigiioiaaaCellAll
import Derived.Test.YtnpimkigiioiaaaScope
import Derived.Laws.EntriesVeiled
namespace Go.Proofs.Ytnpimkigiioiaaa
open Go.RowKit
set_option maxRecDepth 100000

/-- Locks: whose each one is (-1: free), in cells that were written at most K times each. -/
def LockAt (w : World) (p pc g K : Nat) (l : List Int) : Prop :=
  ∃ xs, Blk w p 66 [.pointer (some ⟨pc, 0, none⟩)] ∧ CellsAt w pc g xs ∧ xs.map Prod.fst = l.map (· + 1) ∧ Small xs K ∧ l.length ≤ 64 ∧ (∀ t ∈ l, -1 ≤ t ∧ t < 4) ∧ p ≠ g
/-- No locks: nil, or the zero struct. -/
def LNone (w : World) (v : Option Addr) : Prop := v = none ∨ ∃ p, v = some ⟨p, 0, none⟩ ∧ w.cell? ⟨p, 0, none⟩ = some (.pointer none)

section
variable {w w' : World} {p pc g K : Nat} {l : List Int} {v : Option Addr}
theorem LockAt.kept {row : Option Nat} (h : LockAt w p pc g K l) (hg : w.grownBy w' row) (h1 : some p ≠ row) (h2 : some pc ≠ row) (h3 : some g ≠ row) : LockAt w' p pc g K l := by
  obtain ⟨xs, hb, hc, rest⟩ := h
  exact ⟨xs, hb.kept hg h1, hc.kept hg h2 h3, rest⟩
theorem LockAt.keptN (h : LockAt w p pc g K l) (hg : w.grownBy w' none) : LockAt w' p pc g K l := h.kept hg (by simp) (by simp) (by simp)
theorem LockAt.more (h : LockAt w p pc g K l) {K' : Nat} (hK : K ≤ K') : LockAt w p pc g K' l := by
  obtain ⟨xs, hb, hc, hx, hs, rest⟩ := h
  exact ⟨xs, hb, hc, hx, hs.more hK, rest⟩
theorem LockAt.cell (h : LockAt w p pc g K l) : w.cell? ⟨p, 0, none⟩ = some (.pointer (some ⟨pc, 0, none⟩)) := by
  obtain ⟨xs, hb, _⟩ := h
  exact hb.cellOf rfl
theorem LockAt.len (h : LockAt w p pc g K l) : l.length ≤ 64 := by
  obtain ⟨xs, hb, hc, hx, hs, hl, rest⟩ := h
  exact hl
theorem LockAt.thr (h : LockAt w p pc g K l) : ∀ t ∈ l, -1 ≤ t ∧ t < 4 := by
  obtain ⟨xs, hb, hc, hx, hs, hl, ht, _⟩ := h
  exact ht
theorem LockAt.ne (h : LockAt w p pc g K l) : p ≠ g ∧ pc ≠ g := by
  obtain ⟨xs, hb, hc, hx, hs, hl, ht, hn⟩ := h
  exact ⟨hn, hc.ne⟩
theorem LockAt.lt (h : LockAt w p pc g K l) : p < w.heap.size ∧ pc < w.heap.size ∧ g < w.heap.size := by
  obtain ⟨xs, hb, hc, _⟩ := h
  exact ⟨hb.lt, hc.lt.1, hc.lt.2⟩
theorem LNone.keptN (h : LNone w v) (hg : w.grownBy w' none) : LNone w' v := h.imp id fun ⟨p, hv, hc⟩ => ⟨p, hv, g_cellN hg hc⟩
theorem words_get {xs : List (Int × Int)} (h : xs.map Prod.fst = l.map (· + 1)) : xs.length = l.length ∧ ∀ (k : Nat) (t : Int), l[k]? = some t → ∃ c, xs[k]? = some (t + 1, c) := by
  have hl : xs.length = l.length := by simpa using congrArg List.length h
  refine ⟨hl, fun k t hk => ?_⟩
  have h1 := congrArg (fun z => z[k]?) h
  simp only [List.getElem?_map, hk, Option.map_some] at h1
  cases hx : xs[k]? with
  | none => rw [hx] at h1; cases h1
  | some x => rw [hx] at h1; simp at h1; exact ⟨x.2, by rw [← h1]⟩
end

theorem lnone_some (p pc g K : Nat) (l : List Int) (w : World) (h : LockAt w p pc g K l) :
    Calls Try.prog 44 #[.pointer (some ⟨p, 0, none⟩)] w fun e w' => e = .returned (.bool false) ∧ w = w' := by
  have hc := h.cell
  clear h
  go_enter Try.func44, Try.ntmps44
  go_wp2
  go_ret
  exact ⟨rfl, rfl⟩
theorem lnone_none (v : Option Addr) (w : World) (h : LNone w v) :
    Calls Try.prog 44 #[.pointer v] w fun e w' => e = .returned (.bool true) ∧ w = w' := by
  rcases h with rfl | ⟨p, rfl, hc⟩
  · go_enter Try.func44, Try.ntmps44
    go_wp2
    go_ret
    exact ⟨rfl, rfl⟩
  · go_enter Try.func44, Try.ntmps44
    go_wp2
    go_ret
    exact ⟨rfl, rfl⟩

/-- A question: called in whatever world has grown from w, it tells b. -/
def WrongAt (w : World) (f : Value) (b : Bool) : Prop :=
  ∃ fn a1 a2, f = .func (.func fn) a1 a2 ∧ (∀ args w, (callFunc fn args).run Try.prog w = .ok (.enter fn args) w) ∧
    ∀ W, w.grownBy W none → Calls Try.prog fn (a1 ++ a2) W fun e w' => e = .returned (.bool b) ∧ W.grownBy w' none
theorem WrongAt.keptN {w w' : World} {f : Value} {b : Bool} (h : WrongAt w f b) (hg : w.grownBy w' none) : WrongAt w' f b := by
  obtain ⟨fn, a1, a2, rfl, eg, hc⟩ := h
  exact ⟨fn, a1, a2, rfl, eg, fun W hW => hc W (g_none hg hW)⟩

def flatA (qs : List (Value × Int × Bool)) : List Value := qs.flatMap fun x => [x.1, .int .i64 x.2.1]
theorem flatA_get : ∀ (qs : List (Value × Int × Bool)) (i : Nat) {f : Value} {c : Int} {b : Bool}, qs[i]? = some (f, c, b) → (flatA qs)[i * 2]? = some f ∧ (flatA qs)[i * 2 + 1]? = some (.int .i64 c)
  | [], i, _, _, _, h => by simp at h
  | y :: l, 0, f, c, b, h => by
    simp at h; subst h
    exact ⟨rfl, rfl⟩
  | y :: l, i + 1, f, c, b, h => by
    have := flatA_get l i (f := f) (c := c) (b := b) (by simpa using h)
    rw [show (i + 1) * 2 = i * 2 + 2 by omega, show i * 2 + 2 + 1 = i * 2 + 1 + 2 by omega]
    exact this
/-- The first error of questions. -/
def errOfAsks : List (Value × Int × Bool) → Int
  | [] => 0
  | x :: xs => if x.2.2 then x.2.1 else errOfAsks xs
theorem errOfAsks_drop : ∀ (qs : List (Value × Int × Bool)) (k : Nat), (∀ (j : Nat) (x : Value × Int × Bool), j < k → qs[j]? = some x → x.2.2 = false) → errOfAsks qs = errOfAsks (qs.drop k)
  | [], k, _ => by simp
  | x :: xs, 0, _ => rfl
  | x :: xs, k + 1, h => by
    have h0 := h 0 x (by omega) rfl
    rw [errOfAsks, h0, List.drop_succ_cons]
    exact errOfAsks_drop xs k fun j y hj hy => h (j + 1) y (by omega) (by simpa using hy)
theorem errOfAsks_at {qs : List (Value × Int × Bool)} {k : Nat} {f : Value} {c : Int} (h : ∀ (j : Nat) (x : Value × Int × Bool), j < k → qs[j]? = some x → x.2.2 = false) (hk : qs[k]? = some (f, c, true)) : errOfAsks qs = c := by
  rw [errOfAsks_drop qs k h]
  have : qs.drop k = (f, c, true) :: qs.drop (k + 1) := by
    have hl := (List.getElem?_eq_some_iff.1 hk)
    rw [List.drop_eq_getElem_cons hl.1, hl.2]
  rw [this]; rfl

set_option maxHeartbeats 1000000 in
theorem asked_any (B : Nat) (qs : List (Value × Int × Bool)) (hl : qs.length ≤ 100) (w : World) (hB : Blk w B 75 (flatA qs))
    (hW : ∀ (i : Nat) (f : Value) (c : Int) (b : Bool), qs[i]? = some (f, c, b) → (∀ (j : Nat) (x : Value × Int × Bool), j < i → qs[j]? = some x → x.2.2 = false) → WrongAt w f b) :
    Calls Try.prog 29 #[.slice (some ⟨B, 0, none⟩) qs.length qs.length] w fun e w' => e = .returned (.int .i64 (errOfAsks qs)) ∧ w.grownBy w' none := by
  have HW := hid hW
  clear hW
  go_enter Try.func29, Try.ntmps29
  go_wp2
  refine wp_scope_fwd 0 rfl ?_
  go_wp2
  go_loopw [2, 7] (fun v2 v7 wr => ∃ (k : Nat) (n : Int), k ≤ qs.length ∧ v2 = .int .i64 n ∧ v7 = .int .i64 k ∧ (∀ (j : Nat) (x : Value × Int × Bool), j < k → qs[j]? = some x → x.2.2 = false) ∧ w.grownBy wr none) (fun _ v7 _ => qs.length - (intOf v7).toNat)
  case atStart => exact ⟨0, 0, Nat.zero_le _, rfl, rfl, fun j x hj => by omega, g_refl w _⟩
  case round =>
    obtain ⟨k, n, hk, rfl, rfl, hall, hg⟩ := hrel
    have HA := hid hall
    clear hall
    by_cases hlt : k < qs.length
    · obtain ⟨⟨f, c, b⟩, hx⟩ : ∃ x, qs[k]? = some x := ⟨qs[k], List.getElem?_eq_getElem hlt⟩
      obtain ⟨q0, q1⟩ := flatA_get qs k hx
      have hBr := hB.keptN hg
      have d0 := hBr.cellOf q0
      have d1 := hBr.cellOf q1
      have hWk := HW.out k f c b hx HA.out
      have hgN := g_alloc hg (.cells #[f, .int .i64 c] 75)
      obtain ⟨fn, a1, a2, rfl, eg, hc⟩ := hWk
      have hC := hid (hc _ hgN)
      have HX := hid hx
      clear hx q0 q1 hBr hc
      go_wp2_with fail
      refine hC.out.mono ?_
      rintro e w1 ⟨rfl, hg1⟩
      have hg2 := g_none hgN hg1
      cases b with
      | false =>
        go_wp2_with fail
        go_roundw
        case rel => exact ⟨k + 1, c, by omega, rfl, by go_num, fun j x hj hx => by
          by_cases hjk : j < k
          · exact HA.out j x hjk hx
          · obtain rfl : j = k := by omega
            rw [HX.out] at hx; cases hx; rfl, hg2⟩
        case measure => simp [intOf]; omega
      | true =>
        have he := errOfAsks_at HA.out HX.out
        have HE := hid he
        clear he
        go_wp2_with fail
        go_step3
        simp only [Exit.then, Exit.inBlock]
        refine ⟨rfl, ?_⟩
        go_wp2
        refine noGoto_retI ?_
        go_ret
        exact ⟨by rw [HE.out]; rfl, hg2⟩
    · obtain rfl : k = qs.length := by omega
      have he : errOfAsks qs = 0 := by
        rw [errOfAsks_drop qs qs.length HA.out, List.drop_length]; rfl
      have HE := hid he
      clear he
      go_wp2_with fail
      refine fwd_retI ?_
      go_ret
      exact ⟨by rw [HE.out]; rfl, hg⟩
end Go.Proofs.Ytnpimkigiioiaaa
