/-
  CellPlays at whatever arguments can be read.
-/
import Derived.Test.YthoelbildokmpaaCellPlays
import Derived.Test.YthoelbildokmpaaCellHoldsEnd
namespace Go.Proofs.Ythoelbildokmpaa
open Go.RowKit

theorem plays_law (i : Int) (a0 : Option Addr) (len0 cap0 : Nat) (A : Nat → Nat → Int) (w : World)
    (_ : (Lit.int .i64 i).wf = true) (h0 : len0 ≤ cap0) (h1 : cap0 ≤ 9223372036854775807) (hA : RowAt w a0 len0 [.i64, .i64, .u64, .u64] A) :
    Calls Try.prog 4 #[.int .i64 i, .slice a0 len0 cap0] w fun e w' => e = .returned (.bool true) ∧ w.grownBy w' none := by
  by_cases hl : 60 < len0
  · exact plays_long i a0 len0 cap0 w hl (by omega)
  · by_cases hi : i < 0 ∨ 1024 < i
    · cases hp : (((len0 : Int) % 2) == 1) with
      | true => exact plays_no_odd i hi a0 len0 cap0 w (by omega) hp
      | false => exact plays_no_even i hi a0 len0 cap0 w (by omega) hp
    · obtain ⟨n, rfl⟩ := Int.eq_ofNat_of_zero_le (show 0 ≤ i by omega)
      cases hp : (((len0 : Int) % 2) == 1) with
      | true => exact plays_odd n (by omega) a0 len0 cap0 A w (acts_of_row hA) (by omega) hp
      | false => exact plays_even n (by omega) a0 len0 cap0 A w (acts_of_row hA) (by omega) hp
end Go.Proofs.Ythoelbildokmpaa
