/-
  RoundHolds at whatever arguments: the cases.
-/
import Derived.Test.YtgdnafafojiabaaDoorRoundHoldsAll
namespace Go.Proofs.YtgdnafafojiabaaDoor
open Go.RowKit

theorem holds_law (B : Nat → Int) (x : Int) (w : World) (wB : ∀ (j : Nat) (k : IntKind), [IntKind.u64, IntKind.u64, IntKind.u64][j]? = some k → (Lit.int k (B j)).wf = true) (wx : (Lit.int .u64 x).wf = true) (hT : Tab w) :
    Calls Tryd.prog 6 #[.agg #[.int .u64 (B 0), .int .u64 (B 1), .int .u64 (B 2)], .int .u64 x] w fun e w' => e = .returned (.bool true) ∧ w.grownBy w' none := by
  obtain ⟨a, ea, ha⟩ := u64_nat (wB 0 _ rfl)
  obtain ⟨b, eb, hb⟩ := u64_nat (wB 1 _ rfl)
  obtain ⟨c, ec, hc⟩ := u64_nat (wB 2 _ rfl)
  obtain ⟨s, rfl, hs2⟩ := u64_nat wx
  rw [ea, eb, ec]
  by_cases h0 : s = 0
  · subst h0
    exact holds_none a b c 0 ha hb hc hs2 _ _ _ _ rfl rfl rfl rfl rfl (rup0_any a ha) (rdown0_any a ha) (rmany0_any a ha) w hT
  · have hs : 1 ≤ s := by omega
    have c1 := rup_any a s ha hs2 hs
    have c2 := rdown_any a s ha hs2 hs
    have c3 := rmany_any a s ha hs2 hs
    have ht := tells a s ha hs hs2
    generalize valO (upO a s) = V at *
    generalize errO (upO a s) = E at *
    generalize dnV a s = D at *
    generalize manyV a s = M at *
    cases ht with
    | same h =>
      have hle : a / s < 18446744073709551616 := Nat.lt_of_le_of_lt (Nat.div_le_self a s) ha
      have hq : a / s * s = a := by
        have := dn_mod a s
        rw [h] at this
        exact this.symm
      exact holds_same a b c s ha hb hc hs2 _ _ _ _ rfl rfl rfl rfl _ hs h hle (by rw [mul2 _ _ hle (by rw [hq]; exact ha), hq]) c1 c2 c3 w hT
    | up D h h1 h2 h3 M h4 h5 =>
      exact holds_up a b c s ha hb hc hs2 _ _ _ _ rfl rfl rfl rfl (D : Int) ((D + s : Nat) : Int) (D + s) _ rfl (by omega) (by omega) (by omega) (by omega) (nmod D s h2) (by omega) h4 h5 c1 c2 c3 w hT
    | over D h h1 h2 M h4 =>
      exact holds_over a b c s ha hb hc hs2 _ _ _ _ rfl rfl rfl rfl D _ h h1 h2 c1 c2 c3 w hT
end Go.Proofs.YtgdnafafojiabaaDoor
