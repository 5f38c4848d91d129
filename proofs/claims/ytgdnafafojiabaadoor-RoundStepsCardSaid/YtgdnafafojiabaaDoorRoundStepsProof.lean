/-
  The law RoundSteps holds: whatever the input, the call returns true, and each argument reads as it did. The library's table is as the program's text lays it: the card ties that.
-/
import Derived.Test.YtgdnafafojiabaaDoorRows
import Derived.Test.YtgdnafafojiabaaDoorCards
import Derived.Test.YtgdnafafojiabaaDoorTie
import Derived.Test.YtgdnafafojiabaaDoorRoundStepsAll
import Derived.Test.YtgdnafafojiabaaDoorRoundLaid
import Derived.Test.YtgdnafafojiabaaDoorRow
import Derived.SevenTiedAt
namespace Go.Proofs.YtgdnafafojiabaaDoor.lawRoundSteps
open Go.ChangeShapes Go.WideShapes Go.ChangeAt Go.WideMaps Go.WideElems Go.RowKit

theorem own : ownKnob Tryd.prog.godebug = none := by kernel_rfl
theorem laidOut : laidOutB Tryd.prog = true := by kernel_rfl

theorem flatE1 : FlatV Tryd.prog 24 [.u64] := flat_int Tryd.underlying24
theorem flat1 : FlatV Tryd.prog 42 [.u64, .u64] := flat_array (n := 2) Tryd.underlying42 flatE1 (by kernel_rfl) (by kernel_rfl)

set_option maxRecDepth 100000 in
theorem lifted (os : Os) (started : os.Started) (H : Type) (enc : TypeId × Value → H) :
    ReturnsInHanded {} Tryd.checked os 7 .any (fun w args => (Rows.roundStepsSpec.pre enc Tryd.prog Tryd.f7 [] false w args ∧ laidMetH Tryd.prog laidL w) ∧ sizedMet enc Tryd.prog Tryd.f7 (OpenSpec.ofChange Rows.roundStepsSpec) false w args) (Rows.roundStepsSpec.post enc Tryd.prog Tryd.f7 false true false false) := by
  refine returnsInHanded_of_change_and (C := Tryd.checked) (X := fun w _ => laidMetH Tryd.prog laidL w) (fun _ _ _ hh h => h.of_heap hh) own started (by kernel_rfl) Tryd.func7
    (ChangeSpec.witness_shaped (enc := enc) (C := Tryd.checked) (os := os) (X := fun w _ => laidMetH Tryd.prog laidL w) false (World.doorLaid Tryd.prog 400 os) #[.int .u64 0, .agg #[.int .u64 0, .int .u64 0], .int .i64 0] 8 rfl (World.shaped_of_RefB (by kernel_rfl) (by kernel_rfl)) (by kernel_rfl) (by kernel_rfl) (by kernel_rfl) (door_met os _)) ?_
  intro W base args ds gs before hval0 hW _ _ hL _
  have hval : ∀ (j : Nat) t v, Tryd.f7.params[j]? = some t → args[j]? = some v → Value.okWide Tryd.prog W .any base t v := hval0
  have hW' := hW
  obtain ⟨p, q, hA0, hV, rfl, hfz, hnd⟩ := hW
  have hA : DataW.TrodAll enc Tryd.prog W 0 (fun _ => true) true Tryd.f7.params.toList args.toList ds p := hA0
  rw [Tryd.params7] at hA hval
  obtain ⟨v0, vs0, d0, ds0, p0, q0, hargs, rfl, rfl, h0, r0⟩ := trodAll_cons hA
  obtain ⟨v1, vs1, d1, ds1, p1, q1, rfl, rfl, rfl, h1, r1⟩ := trodAll_cons r0
  obtain ⟨v2, vs2, d2, ds2, p2, q2, rfl, rfl, rfl, h2, r2⟩ := trodAll_cons r1
  obtain ⟨rfl, rfl, rfl⟩ := trodAll_nil r2
  obtain rfl : args = #[v0, v1, v2] := by cases args; simp_all
  obtain ⟨rfl, rfl⟩ := trodVars_none hV
  obtain ⟨a0, rfl, rfl, rfl, w0⟩ := open_int Tryd.underlying24 (hval 0 24 v0 rfl rfl) h0
  have k1 := h1
  have lt1 : ∀ x ∈ p1, x.block < W.heap.size := by obtain ⟨m, hm⟩ := k1; exact DataW.trod_lt m _ _ _ hm
  obtain ⟨cs1, B1, rfl, hs1, hB1⟩ := open_flat flat1 (fun _ => rfl) (okWide_array Tryd.underlying42 (hval 1 42 v1 rfl rfl)) h1
  obtain rfl : cs1 = #[.int .u64 (B1 0), .int .u64 (B1 1)] := by
    refine Array.ext_getElem? fun j => ?_
    match j with
    | 0 => exact (hB1 0 _ rfl).1
    | 1 => exact (hB1 1 _ rfl).1
    | j + 2 => rw [Array.getElem?_eq_none (by rw [hs1]; simp), Array.getElem?_eq_none (by simp)]
  have w1 : ∀ (j : Nat) (k : IntKind), [IntKind.u64, IntKind.u64][j]? = some k → (Lit.int k (B1 j)).wf = true := fun j k hj => (hB1 j k hj).2
  obtain ⟨a2, rfl, rfl, rfl, w2⟩ := open_int Tryd.underlying3 (hval 2 3 v2 rfl rfl) h2
  clear hA0 hval0
  refine (steps_law a0 B1 a2 W w0 w1 w2 (of_laid hL)).mono fun e W' ⟨he, hgr⟩ => ?_
  subst he
  have bel : Below W.heap.size W W' := g_below hgr (Nat.le_refl _) (fun _ e => by cases e)
  exact ⟨_, rfl, _, _, _, [], _, [], hW', trodAll_mk1 (shut_bool Tryd.underlying4 _), (trodAll_cons_mk (shut_int Tryd.underlying24 w0) (trodAll_cons_mk (Below.trod laidOut (by kernel_rfl) (of_decide_eq_true (by kernel_rfl)) k1 bel lt1) (trodAll_cons_mk (shut_int Tryd.underlying3 w2) trodAll_mk0))), rfl, bel.frame _, fun h => by cases h⟩

theorem over : Rows.roundStepsRow.holds Tryd.pinned (OpenSpec.ofChange Rows.roundStepsSpec) :=
  OpenClaim.holds_of_wide 7 Tryd.f7 rfl rfl rfl rfl rfl rfl rfl ⟨rfl, rfl, rfl, rfl, rfl⟩ rfl rfl rfl rfl rfl (by kernel_rfl) Tryd.func7 (by kernel_rfl)
    (of_decide_eq_true (by kernel_rfl)) (by unfold Func.isWrapper; first | (rw [if_pos (by decide +kernel)]; kernel_rfl) | (rw [if_neg (by decide +kernel)]; exact ⟨rfl, rfl⟩))
    (fun os started H enc _ => lifted os started H enc)

/-- The statement: the tied card. -/
theorem proved : Rows.RoundStepsCardSaid :=
  Claim7.holds_tied_plain_at .later [] [.data] true (true, "b89ea5b8a321b665cbf016b3cb7d8a2e048cfae200c3b1eb11244adfe1642bfd") false
    over (fun _ h => by cases h) (by kernel_rfl) (fun _ h => by cases h) roundSteps_row_tie rfl ⟨rfl, rfl⟩ (by kernel_rfl) rfl
    (fun f fn hf hfn => by
      obtain rfl : f = 7 := Option.some.inj ((show Tryd.prog.funcNamed "pinfold/pinfoldlaw02.RoundSteps" = some 7 by kernel_rfl).symm.trans hf) |>.symm
      obtain rfl : fn = Tryd.f7 := (Option.some.inj (Tryd.func7.symm.trans hfn)).symm
      exact ⟨by kernel_rfl, fun j t ht => by
        rw [Tryd.params7] at ht
        have hm : t ∈ [24, 42, 3] := by simpa using Array.mem_of_getElem? ht
        have hall : ([24, 42, 3].all fun u => !Tryd.prog.wantsStandIn u) = true := by kernel_rfl
        exact (show Tryd.prog.wantsStandIn t = false by simpa using List.all_eq_true.1 hall t hm)⟩)
    (by kernel_rfl)
#print axioms proved
end Go.Proofs.YtgdnafafojiabaaDoor.lawRoundSteps
