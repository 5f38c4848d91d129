/-
  Does a feed stand as the document's? And of no feed, nothing is told.
-/
import Derived.Test.YtkeicoadpdfkkaaFeedList2
import Derived.Test.YtkeicoadpdfkkaaFeedRef2
import Derived.Test.YtkeicoadpdfkkaaFeedWorks
namespace Go.Proofs.Ytkeicoadpdfkkaa
open Go.RowKit

abbrev IsS (b : Nat) (xs : List Int) (k : Nat) (w w' : World) : Prop := w'.cell? ⟨b, 0, none⟩ = some (.string (strOfNums xs)) ∧ w'.cell? ⟨b, 1, none⟩ = some (.int .i64 k) ∧ w.grownBy w' none
theorem IsS.more {b k : Nat} {xs : List Int} {w w1 w2 : World} (h : IsS b xs k w w1) (hg : w1.grownBy w2 none) : IsS b xs k w w2 := ⟨g_cellN hg h.1, g_cellN hg h.2.1, g_none h.2.2 hg⟩

set_option maxHeartbeats 2000000 in
theorem is_ok (p : Nat) (v : Value) (xs : List Int) (k : Nat) (w : World) (h : FeedAt w p v xs k) :
    Calls Try.prog 17 #[.pointer (some ⟨p, 0, none⟩), RF xs k] w fun e w' => e = .returned (.bool true) ∧ w.grownBy w' none := by
  have hl := h.2.2.1
  have hk := h.2.2.2.1
  have hgA := g_alloc (g_refl w none) (.cells #[.string (strOfNums xs), .int .i64 k] 41)
  have b1 := Blk.new w [.string (strOfNums xs), .int .i64 (k : Int)] 41
  have k0 := b1.cellOf (i := 0) rfl
  have k1 := b1.cellOf (i := 1) rfl
  have hszd := strOfNums_size (xs.drop k)
  rw [List.length_drop] at hszd
  have H : Hid (∀ w1, IsS w.heap.size xs k w w1 → FeedAt w1 p v xs k) := hid fun w1 hg => h.keptN hg.2.2
  have hRL := refLeft_any xs k hk hl
  clear h b1
  go_enter Try.func17, Try.ntmps17
  go_wp2_with fail
  generalize w.alloc _ = W at *
  have hS0 : IsS w.heap.size xs k w W := ⟨k0, k1, hgA⟩
  have hS1 : IsS w.heap.size xs k w W.drew := ⟨k0, k1, g_drew hgA⟩
  go_region_held3 (fun w' => w'.cell? ⟨w.heap.size, 0, none⟩ = some (.string (strOfNums xs)) ∧ w'.cell? ⟨w.heap.size, 1, none⟩ = some (.int .i64 k) ∧ w.grownBy w' none)
    (first | assumption | exact IsS.more (by assumption) hg2 | exact IsS.more (by assumption) (g_drewM (g_refl _ none) _))
    (first
      | (go_at_call 11; refine (at_some p v xs k _ (H.out _ (by assumption))).mono ?_; rintro e w2 ⟨rfl, rfl⟩)
      | (go_at_call 12; refine (lft_some p v xs k _ (H.out _ (by assumption))).mono ?_; rintro e w2 ⟨rfl, n2, rfl⟩)
      | (go_at_call 19; refine (hRL _).mono ?_; rintro e w2 ⟨rfl, hg2⟩)
      | fail)
  all_goals
    go_wp2
    go_ret
    exact ⟨rfl, (show IsS w.heap.size xs k w _ by assumption).2.2⟩
end Go.Proofs.Ytkeicoadpdfkkaa
