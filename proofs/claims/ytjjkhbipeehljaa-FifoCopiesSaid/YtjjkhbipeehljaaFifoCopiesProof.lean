/-
  The law FifoCopies holds: whatever the input, the call returns true, and each argument reads as it did. No conditions.
-/
import Derived.Test.YtjjkhbipeehljaaRows
import Derived.Test.YtjjkhbipeehljaaFifoCopiesEnd
import Derived.Test.YtjjkhbipeehljaaRow
import Derived.Test.YtjjkhbipeehljaaFifoFlat
namespace Go.Proofs.Ytjjkhbipeehljaa.lawFifoCopies
open Go.ChangeShapes Go.WideShapes Go.ChangeAt Go.RowKit

theorem own : ownKnob Try.prog.godebug = none := by kernel_rfl
theorem laidOut : laidOutB Try.prog = true := by kernel_rfl

theorem flatE0 : FlatV Try.prog 3 [.i64] := flat_int Try.underlying3
theorem flat0 : FlatV Try.prog 22 [.i64, .i64] := flat_array (n := 2) Try.underlying22 flatE0 (by kernel_rfl) (by kernel_rfl)
theorem flat1 : FlatV Try.prog 46 [.i64, .i64, .i64, .i64] := flatAct
theorem flatE2 : FlatV Try.prog 46 [.i64, .i64, .i64, .i64] := flatAct
theorem flat2 : FlatV Try.prog 50 [.i64, .i64, .i64, .i64, .i64, .i64, .i64, .i64] := flat_array (n := 2) Try.underlying50 flatE2 (by kernel_rfl) (by kernel_rfl)

set_option maxRecDepth 100000 in
theorem lifted (os : Os) (started : os.Started) (H : Type) (enc : TypeId × Value → H) :
    ReturnsInHanded {} Try.checked os 5 .any (Rows.fifoCopiesSpec.pre6 enc Try.prog Try.f5 Rows.fifoCopiesRow.domain false) (Rows.fifoCopiesSpec.post enc Try.prog Try.f5 false true false false) := by
  refine returnsInHanded_of_change (C := Try.checked) own started (by kernel_rfl) Try.func5
    (ChangeSpec.witness6 (enc := enc) (C := Try.checked) false ⟨#[], #[.agg #[.int .i64 0, .int .i64 0], .slice none 0 0, .agg #[.int .i64 0, .int .i64 0, .int .i64 0, .int .i64 0, .int .i64 0, .int .i64 0, .int .i64 0, .int .i64 0]], []⟩ 8 (by kernel_rfl) (by kernel_rfl) (by kernel_rfl) (by kernel_rfl)) ?_
  intro W base args ds gs before hval0 hW hcnd _
  have hval : ∀ (j : Nat) t v, Try.f5.params[j]? = some t → args[j]? = some v → Value.okWide Try.prog W .any base t v := hval0
  have hW' := hW
  obtain ⟨p, q, hA0, hV, rfl, hfz, hnd⟩ := hW
  have hA : DataW.TrodAll enc Try.prog W 0 (fun _ => true) true Try.f5.params.toList args.toList ds p := hA0
  rw [Try.params5] at hA hval
  obtain ⟨v0, vs0, d0, ds0, p0, q0, hargs, rfl, rfl, h0, r0⟩ := trodAll_cons hA
  obtain ⟨v1, vs1, d1, ds1, p1, q1, rfl, rfl, rfl, h1, r1⟩ := trodAll_cons r0
  obtain ⟨v2, vs2, d2, ds2, p2, q2, rfl, rfl, rfl, h2, r2⟩ := trodAll_cons r1
  obtain ⟨rfl, rfl, rfl⟩ := trodAll_nil r2
  obtain rfl : args = #[v0, v1, v2] := by cases args; simp_all
  obtain ⟨rfl, rfl⟩ := trodVars_none hV
  have k0 := h0
  have lt0 : ∀ x ∈ p0, x.block < W.heap.size := by obtain ⟨m, hm⟩ := k0; exact DataW.trod_lt m _ _ _ hm
  obtain ⟨cs0, B0, rfl, hs0, hB0⟩ := open_flat flat0 (fun _ => rfl) (okWide_array Try.underlying22 (hval 0 22 v0 rfl rfl)) h0
  obtain rfl : cs0 = #[.int .i64 (B0 0), .int .i64 (B0 1)] := by
    refine Array.ext_getElem? fun j => ?_
    match j with
    | 0 => exact (hB0 0 _ rfl).1
    | 1 => exact (hB0 1 _ rfl).1
    | j + 2 => rw [Array.getElem?_eq_none (by rw [hs0]; simp), Array.getElem?_eq_none (by simp)]
  have w0 : ∀ (j : Nat) (k : IntKind), [IntKind.i64, IntKind.i64][j]? = some k → (Lit.int k (B0 j)).wf = true := fun j k hj => (hB0 j k hj).2
  have k1 := h1
  have lt1 : ∀ x ∈ p1, x.block < W.heap.size := by obtain ⟨m, hm⟩ := k1; exact DataW.trod_lt m _ _ _ hm
  obtain ⟨a1, len1, cap1, A1, rfl, hl1, hc1, w1⟩ := open_row Try.underlying37 flat1 (by kernel_rfl) (by decide) (hval 1 37 v1 rfl rfl) h1
  have k2 := h2
  have lt2 : ∀ x ∈ p2, x.block < W.heap.size := by obtain ⟨m, hm⟩ := k2; exact DataW.trod_lt m _ _ _ hm
  obtain ⟨cs2, B2, rfl, hs2, hB2⟩ := open_flat flat2 (fun _ => rfl) (okWide_array Try.underlying50 (hval 2 50 v2 rfl rfl)) h2
  obtain rfl : cs2 = #[.int .i64 (B2 0), .int .i64 (B2 1), .int .i64 (B2 2), .int .i64 (B2 3), .int .i64 (B2 4), .int .i64 (B2 5), .int .i64 (B2 6), .int .i64 (B2 7)] := by
    refine Array.ext_getElem? fun j => ?_
    match j with
    | 0 => exact (hB2 0 _ rfl).1
    | 1 => exact (hB2 1 _ rfl).1
    | 2 => exact (hB2 2 _ rfl).1
    | 3 => exact (hB2 3 _ rfl).1
    | 4 => exact (hB2 4 _ rfl).1
    | 5 => exact (hB2 5 _ rfl).1
    | 6 => exact (hB2 6 _ rfl).1
    | 7 => exact (hB2 7 _ rfl).1
    | j + 8 => rw [Array.getElem?_eq_none (by rw [hs2]; simp), Array.getElem?_eq_none (by simp)]
  have w2 : ∀ (j : Nat) (k : IntKind), [IntKind.i64, IntKind.i64, IntKind.i64, IntKind.i64, IntKind.i64, IntKind.i64, IntKind.i64, IntKind.i64][j]? = some k → (Lit.int k (B2 j)).wf = true := fun j k hj => (hB2 j k hj).2
  clear hA0 hval0
  refine (copies_law B0 a1 len1 cap1 A1 B2 W w0 hl1 hc1 w1 w2).mono fun e W' ⟨he, hgr⟩ => ?_
  subst he
  have bel : Below W.heap.size W W' := g_below hgr (Nat.le_refl _) (fun _ e => by cases e)
  exact ⟨_, rfl, _, _, _, [], _, [], hW', trodAll_mk1 (shut_bool Try.underlying4 _), (trodAll_cons_mk (Below.trod laidOut (by kernel_rfl) (of_decide_eq_true (by kernel_rfl)) k0 bel lt0) (trodAll_cons_mk (Below.trod laidOut (by kernel_rfl) (of_decide_eq_true (by kernel_rfl)) k1 bel lt1) (trodAll_cons_mk (Below.trod laidOut (by kernel_rfl) (of_decide_eq_true (by kernel_rfl)) k2 bel lt2) trodAll_mk0))), rfl, bel.frame _, fun h => by cases h⟩

theorem over : Rows.fifoCopiesRow.holds Try.pinned (OpenSpec.ofChange Rows.fifoCopiesSpec) :=
  OpenClaim.holds_of_wide 5 Try.f5 rfl rfl rfl rfl rfl rfl rfl ⟨rfl, rfl, rfl, rfl, rfl⟩ rfl rfl rfl rfl rfl (by kernel_rfl) Try.func5 (by kernel_rfl)
    (of_decide_eq_true (by kernel_rfl)) (by unfold Func.isWrapper; first | (rw [if_pos (by decide +kernel)]; kernel_rfl) | (rw [if_neg (by decide +kernel)]; exact ⟨rfl, rfl⟩))
    (fun os started H enc _ => lifted os started H enc)

/-- The statement. -/
theorem proved : Rows.FifoCopiesSaid := over
#print axioms proved
end Go.Proofs.Ytjjkhbipeehljaa.lawFifoCopies
