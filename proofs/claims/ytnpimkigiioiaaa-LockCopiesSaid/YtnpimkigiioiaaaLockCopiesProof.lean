/-
  The law LockCopies holds: whatever the input, the call returns true, and each argument reads as it did. No conditions.
-/
import Derived.Test.YtnpimkigiioiaaaRows
import Derived.Test.YtnpimkigiioiaaaLockCopiesEnd
import Derived.Test.YtnpimkigiioiaaaRow
namespace Go.Proofs.Ytnpimkigiioiaaa.lawLockCopies
open Go.ChangeShapes Go.WideShapes Go.ChangeAt Go.RowKit

theorem own : ownKnob Try.prog.godebug = none := by kernel_rfl
theorem laidOut : laidOutB Try.prog = true := by kernel_rfl

theorem flat0 : FlatV Try.prog 34 [.i64, .i64, .i64] := by
  refine flat_struct Try.underlying34 (by kernel_rfl) fun j k hj => ?_
  match j, hj with
  | 0, hj =>
    obtain rfl : IntKind.i64 = k := by simpa using hj
    exact ⟨_, rfl, rfl, by kernel_rfl, by kernel_rfl⟩
  | 1, hj =>
    obtain rfl : IntKind.i64 = k := by simpa using hj
    exact ⟨_, rfl, rfl, by kernel_rfl, by kernel_rfl⟩
  | 2, hj =>
    obtain rfl : IntKind.i64 = k := by simpa using hj
    exact ⟨_, rfl, rfl, by kernel_rfl, by kernel_rfl⟩
  | j + 3, hj => simp at hj
theorem flatE1 : FlatV Try.prog 34 [.i64, .i64, .i64] := by
  refine flat_struct Try.underlying34 (by kernel_rfl) fun j k hj => ?_
  match j, hj with
  | 0, hj =>
    obtain rfl : IntKind.i64 = k := by simpa using hj
    exact ⟨_, rfl, rfl, by kernel_rfl, by kernel_rfl⟩
  | 1, hj =>
    obtain rfl : IntKind.i64 = k := by simpa using hj
    exact ⟨_, rfl, rfl, by kernel_rfl, by kernel_rfl⟩
  | 2, hj =>
    obtain rfl : IntKind.i64 = k := by simpa using hj
    exact ⟨_, rfl, rfl, by kernel_rfl, by kernel_rfl⟩
  | j + 3, hj => simp at hj
theorem flat1 : FlatV Try.prog 54 [.i64, .i64, .i64, .i64, .i64, .i64] := flat_array (n := 2) Try.underlying54 flatE1 (by kernel_rfl) (by kernel_rfl)

set_option maxRecDepth 100000 in
theorem lifted (os : Os) (started : os.Started) (H : Type) (enc : TypeId × Value → H) :
    ReturnsInHanded {} Try.checked os 6 .any (Rows.lockCopiesSpec.pre6 enc Try.prog Try.f6 Rows.lockCopiesRow.domain false) (Rows.lockCopiesSpec.post enc Try.prog Try.f6 false true false false) := by
  refine returnsInHanded_of_change (C := Try.checked) own started (by kernel_rfl) Try.func6
    (ChangeSpec.witness6 (enc := enc) (C := Try.checked) false ⟨#[], #[.slice none 0 0, .agg #[.int .i64 0, .int .i64 0, .int .i64 0, .int .i64 0, .int .i64 0, .int .i64 0]], []⟩ 8 (by kernel_rfl) (by kernel_rfl) (by kernel_rfl) (by kernel_rfl)) ?_
  intro W base args ds gs before hval0 hW hcnd _
  have hval : ∀ (j : Nat) t v, Try.f6.params[j]? = some t → args[j]? = some v → Value.okWide Try.prog W .any base t v := hval0
  have hW' := hW
  obtain ⟨p, q, hA0, hV, rfl, hfz, hnd⟩ := hW
  have hA : DataW.TrodAll enc Try.prog W 0 (fun _ => true) true Try.f6.params.toList args.toList ds p := hA0
  rw [Try.params6] at hA hval
  obtain ⟨v0, vs0, d0, ds0, p0, q0, hargs, rfl, rfl, h0, r0⟩ := trodAll_cons hA
  obtain ⟨v1, vs1, d1, ds1, p1, q1, rfl, rfl, rfl, h1, r1⟩ := trodAll_cons r0
  obtain ⟨rfl, rfl, rfl⟩ := trodAll_nil r1
  obtain rfl : args = #[v0, v1] := by cases args; simp_all
  obtain ⟨rfl, rfl⟩ := trodVars_none hV
  have k0 := h0
  have lt0 : ∀ x ∈ p0, x.block < W.heap.size := by obtain ⟨m, hm⟩ := k0; exact DataW.trod_lt m _ _ _ hm
  obtain ⟨a0, len0, cap0, A0, rfl, hl0, hc0, w0⟩ := open_row Try.underlying22 flat0 (by kernel_rfl) (by decide) (hval 0 22 v0 rfl rfl) h0
  have k1 := h1
  have lt1 : ∀ x ∈ p1, x.block < W.heap.size := by obtain ⟨m, hm⟩ := k1; exact DataW.trod_lt m _ _ _ hm
  obtain ⟨cs1, B1, rfl, hs1, hB1⟩ := open_flat flat1 (fun _ => rfl) (okWide_array Try.underlying54 (hval 1 54 v1 rfl rfl)) h1
  obtain rfl : cs1 = #[.int .i64 (B1 0), .int .i64 (B1 1), .int .i64 (B1 2), .int .i64 (B1 3), .int .i64 (B1 4), .int .i64 (B1 5)] := by
    refine Array.ext_getElem? fun j => ?_
    match j with
    | 0 => exact (hB1 0 _ rfl).1
    | 1 => exact (hB1 1 _ rfl).1
    | 2 => exact (hB1 2 _ rfl).1
    | 3 => exact (hB1 3 _ rfl).1
    | 4 => exact (hB1 4 _ rfl).1
    | 5 => exact (hB1 5 _ rfl).1
    | j + 6 => rw [Array.getElem?_eq_none (by rw [hs1]; simp), Array.getElem?_eq_none (by simp)]
  have w1 : ∀ (j : Nat) (k : IntKind), [IntKind.i64, IntKind.i64, IntKind.i64, IntKind.i64, IntKind.i64, IntKind.i64][j]? = some k → (Lit.int k (B1 j)).wf = true := fun j k hj => (hB1 j k hj).2
  clear hA0 hval0
  refine (copies_law a0 len0 cap0 A0 B1 W hl0 hc0 w0 w1).mono fun e W' ⟨he, hgr⟩ => ?_
  subst he
  have bel : Below W.heap.size W W' := g_below hgr (Nat.le_refl _) (fun _ e => by cases e)
  exact ⟨_, rfl, _, _, _, [], _, [], hW', trodAll_mk1 (shut_bool Try.underlying4 _), (trodAll_cons_mk (Below.trod laidOut (by kernel_rfl) (of_decide_eq_true (by kernel_rfl)) k0 bel lt0) (trodAll_cons_mk (Below.trod laidOut (by kernel_rfl) (of_decide_eq_true (by kernel_rfl)) k1 bel lt1) trodAll_mk0)), rfl, bel.frame _, fun h => by cases h⟩

theorem over : Rows.lockCopiesRow.holds Try.pinned (OpenSpec.ofChange Rows.lockCopiesSpec) :=
  OpenClaim.holds_of_wide 6 Try.f6 rfl rfl rfl rfl rfl rfl rfl ⟨rfl, rfl, rfl, rfl, rfl⟩ rfl rfl rfl rfl rfl (by kernel_rfl) Try.func6 (by kernel_rfl)
    (of_decide_eq_true (by kernel_rfl)) (by unfold Func.isWrapper; first | (rw [if_pos (by decide +kernel)]; kernel_rfl) | (rw [if_neg (by decide +kernel)]; exact ⟨rfl, rfl⟩))
    (fun os started H enc _ => lifted os started H enc)

/-- The statement. -/
theorem proved : Rows.LockCopiesSaid := over
#print axioms proved
end Go.Proofs.Ytnpimkigiioiaaa.lawLockCopies
