/-
  Are two the same? Whose each lock is, as a list.
-/
import Derived.Test.YtnpimkigiioiaaaLockAll
import Derived.OwnWalk
namespace Go.Proofs.Ytnpimkigiioiaaa
open Go.RowKit
set_option maxRecDepth 100000

def fillL (l : List Int) (k : Nat) : List Int := l.take k ++ List.replicate (l.length - k) 0
theorem fillL_length (l : List Int) {k : Nat} (hk : k ≤ l.length) : (fillL l k).length = l.length := by
  rw [fillL, List.length_append, List.length_take, List.length_replicate]; omega
theorem fillL_step {l : List Int} {k : Nat} {x : Int} (hx : l[k]? = some x) : (fillL l k).set k x = fillL l (k + 1) := by
  have hk := (List.getElem?_eq_some_iff.1 hx).1
  have hlt : (l.take k).length = k := by rw [List.length_take]; omega
  obtain ⟨m, hm⟩ : ∃ m, l.length - k = m + 1 := ⟨l.length - k - 1, by omega⟩
  rw [fillL, fillL, List.take_add_one, hx, hm, show l.length - (k + 1) = m by omega, List.set_append_right _ _ (by omega), hlt, Nat.sub_self, List.replicate_succ]
  simp
theorem fillL_full (l : List Int) : fillL l l.length = l := by rw [fillL]; simp
theorem fillL_zero (l : List Int) : fillL l 0 = List.replicate l.length 0 := by rw [fillL]; simp
theorem fillL_get (l : List Int) {k : Nat} (hk : k < l.length) : ∃ y, (fillL l k)[k]? = some y := ⟨_, List.getElem?_eq_getElem (by rw [fillL_length l (by omega)]; exact hk)⟩

set_option maxHeartbeats 1000000 in
theorem threads_some (p pc g K : Nat) (l : List Int) (w : World) (h : LockAt w p pc g K l) :
    Calls Try.prog 49 #[.pointer (some ⟨p, 0, none⟩)] w fun e w' => ∃ v, e = .returned v ∧ IntsAt w' v l ∧ w.grownBy w' none := by
  obtain ⟨i0, hi, hz0, hz1, hz2⟩ := info_parts info_int
  have hc := h.cell
  have H := hid h
  obtain ⟨xs, hB, hC, hx, hs, hl, ht, hne⟩ := h
  obtain ⟨hlx, hget⟩ := words_get hx
  have hLen := len_some pc g xs w hC
  rw [hlx] at hLen
  have HX := hid hget
  have HT := hid ht
  have HC := hid hC
  have HB := hid hB
  clear hB hx hs ht hget hC
  go_enter Try.func49, Try.ntmps49
  go_wp2_with fail
  refine hLen.mono ?_
  rintro e _ ⟨rfl, rfl⟩
  go_wp2_with (refine wpList_make_full _ rfl _ _ 23 rfl w.heap.size 3 i0 (.int .i64 0) 1 Try.underlying23 hi hz0 hz1 .i64 .i64 l.length l.length l.length rfl rfl rfl rfl (by rw [hz2]; omega) (by unfold maxLen; omega) (Nat.le_refl _) ?_; intro w1 hown hg)
  rw [show (Value.int .i64 0).cells = #[Value.int .i64 0] from rfl, Nat.mul_one, toList_madeCells_one] at hown
  have hrow0 : w1.ownsRow w.heap.size 3 1 (.slice (some ⟨w.heap.size, 0, none⟩) l.length l.length) l.length (intsV (fillL l 0)) := by
    rw [fillL_zero]; simpa [intsV] using hown
  have HR0 := hid hrow0
  clear hown hrow0
  go_loopw [16] (fun v16 wr => ∃ k : Nat, k ≤ l.length ∧ v16 = .int .i64 k ∧ wr.ownsRow w.heap.size 3 1 (.slice (some ⟨w.heap.size, 0, none⟩) l.length l.length) l.length (intsV (fillL l k)) ∧ w.grownBy wr none) (fun v16 _ => l.length - (intOf v16).toNat)
  case atStart => exact ⟨0, Nat.zero_le _, rfl, HR0.out, hg⟩
  case round =>
    obtain ⟨k, hk, rfl, hrow, hgr⟩ := hrel
    have HR := hid hrow
    by_cases hlt : k < l.length
    · obtain ⟨t, htk⟩ : ∃ t, l[k]? = some t := ⟨l[k], List.getElem?_eq_getElem hlt⟩
      obtain ⟨c, hcx⟩ := HX.out k t htk
      obtain ⟨ht1, ht4⟩ := HT.out t (List.mem_of_getElem? htk)
      have hcr := g_cellN hgr hc
      have hL := load_in pc g xs k (t + 1) c hcx wr (HC.out.keptN hgr)
      obtain ⟨y, hy⟩ := fillL_get l hlt
      have hcy : wr.cell? ⟨w.heap.size, k, none⟩ = some (.int .i64 y) := by
        rw [hrow.cellAt k (by omega), intsV, List.getElem?_map, hy]; rfl
      have hff := hrow.frozenAt k
      have hst := hrow.stored k (.int .i64 t)
      rw [show (intsV (fillL l k)).set k (.int .i64 t) = intsV (fillL l (k + 1)) by rw [intsV, intsV, ← fillL_step htk, List.map_set]] at hst
      have HST := hid hst
      have HL := hid hL
      have ht1' : (t + 1 : Int) - 1 = t := by omega
      clear hrow htk hcx hL hy hst
      go_wp2_with fail
      refine HL.out.mono ?_
      rintro e _ ⟨rfl, rfl⟩
      go_wp2_with fail
      try rw [ht1']
      go_roundw
      case rel => exact ⟨k + 1, by omega, by go_num, HST.out.1, g_new hgr HST.out.2 (Nat.le_refl _)⟩
      case measure => simp [intOf]; omega
    · obtain rfl : k = l.length := by omega
      rw [fillL_full] at hrow
      have hI := IntsAt.own (by omega) hrow
      have HI := hid hI
      clear hrow hI
      go_wp2_with fail
      go_ret
      exact ⟨_, rfl, HI.out, hgr⟩

/-! ### Same -/
theorem lsame_sn (p pc g K : Nat) (l : List Int) (u : Option Addr) (w : World) (h : LockAt w p pc g K l) (h' : LNone w u) :
    Calls Try.prog 21 #[.pointer (some ⟨p, 0, none⟩), .pointer u] w fun e w' => e = .returned (.bool false) ∧ w = w' := by
  go_enter Try.func21, Try.ntmps21
  go_wp2_with fail
  refine (lnone_some p pc g K l w h).mono ?_
  rintro e w1 ⟨rfl, rfl⟩
  go_wp2_with fail
  refine (lnone_none u _ h').mono ?_
  rintro e w1 ⟨rfl, rfl⟩
  go_wp2_with fail
  refine (lnone_some p pc g K l _ h).mono ?_
  rintro e w1 ⟨rfl, rfl⟩
  go_wp2
  go_ret
  exact ⟨rfl, rfl⟩
theorem lsame_ns (u : Option Addr) (p pc g K : Nat) (l : List Int) (w : World) (h' : LNone w u) (h : LockAt w p pc g K l) :
    Calls Try.prog 21 #[.pointer u, .pointer (some ⟨p, 0, none⟩)] w fun e w' => e = .returned (.bool false) ∧ w = w' := by
  go_enter Try.func21, Try.ntmps21
  go_wp2_with fail
  refine (lnone_none u _ h').mono ?_
  rintro e w1 ⟨rfl, rfl⟩
  go_wp2_with fail
  refine (lnone_none u _ h').mono ?_
  rintro e w1 ⟨rfl, rfl⟩
  go_wp2_with fail
  refine (lnone_some p pc g K l _ h).mono ?_
  rintro e w1 ⟨rfl, rfl⟩
  go_wp2
  go_ret
  exact ⟨rfl, rfl⟩
theorem lsame_none (v u : Option Addr) (w : World) (h : LNone w v) (h' : LNone w u) :
    Calls Try.prog 21 #[.pointer v, .pointer u] w fun e w' => e = .returned (.bool true) ∧ w = w' := by
  go_enter Try.func21, Try.ntmps21
  go_wp2_with fail
  refine (lnone_none v _ h).mono ?_
  rintro e w1 ⟨rfl, rfl⟩
  go_wp2_with fail
  refine (lnone_none v _ h).mono ?_
  rintro e w1 ⟨rfl, rfl⟩
  go_wp2_with fail
  refine (lnone_none u _ h').mono ?_
  rintro e w1 ⟨rfl, rfl⟩
  go_wp2
  go_ret
  exact ⟨rfl, rfl⟩
end Go.Proofs.Ytnpimkigiioiaaa
