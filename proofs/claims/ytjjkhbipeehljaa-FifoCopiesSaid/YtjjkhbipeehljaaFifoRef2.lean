/-
  The document's quarantine: Push.
-/
import Derived.Test.YtjjkhbipeehljaaFifoMore
import Derived.Deep.AppendLies
import Derived.Deep.Upon
namespace Go.Proofs.Ytjjkhbipeehljaa
open Go.RowKit

/-- An append of nothing, at a step of a region that draws its order. -/
theorem step_append_nothing {P : Program} {w : World} {ops : Array Oper} {o : Oper} {a : Act} {K : Act → World → Prop} {Q : Exit → Act → World → Prop} {E : Prop} (hgd : o.guard = none) (s x : Operand) (t : TypeId)
    (ho : o.op = .call { callee := .builtin .append, args := #[s, x], argTypes := #[t, t] }) (e : TypeId) (i : TypeInfo) (ht : P.underlying t = some (.slice e)) (hi : P.info? e = some i)
    (av : Option Addr) (n c : Nat) (hs : a.eval s = .slice av n c) (hle : n ≤ c) (ax : Option Addr) (m cx : Nat) (hx : a.eval x = .slice ax m cx) (hm : m = 0)
    (h : K (a.put o.dst (.slice av n c)) w) : if Region.wanted o (yielded ops a.tmps) = true then Oper.wp P o a w K Q else E := by
  subst hm
  have hw : Region.wanted o (yielded ops a.tmps) = true := by simp [Region.wanted, hgd]
  rw [if_pos hw]
  have hsrc : Src P i.size t (.slice ax 0 cx) 0 [] w := by
    cases ax with
    | none => exact Src.ofNil w ht cx
    | some ad => exact Src.ofSlice w ht ad 0 cx [] (by simp) (fun j u hj => by simp at hj) (fun u hu => by simp at hu)
  unfold Oper.wp execOp
  simp only [ho, resolve, invoke, builtin, Sem.run_bind, Sem.run_pure, Result.andThen_ok, List.map_toArray, List.map_cons, List.map_nil, hs, hx, run_append_nothing w t t o.type e i ht hi av n c hle _ hsrc]
  exact h

/-- The list's tail, as the model slices. -/
theorem L3.tail {w : World} {g off cap : Nat} {x : T3} {xs : List T3} (h : L3 w (.slice (some ⟨g, off, none⟩) (xs.length + 1) cap) (x :: xs)) (hc : cap ≠ 1) : L3 w (.slice (some ⟨g, off + 3, none⟩) xs.length (cap - 1)) xs := by
  have := h.drop (k := 1) (by simp)
  simpa using this
theorem L3.tail1 {w : World} {g off : Nat} {x : T3} {xs : List T3} (h : L3 w (.slice (some ⟨g, off, none⟩) (xs.length + 1) 1) (x :: xs)) : xs = [] := by
  obtain ⟨_, _, e, _, h2, _⟩ := h
  cases e
  simp at h2
  exact h2
theorem L3.empty (w : World) (a : Option Addr) (c : Nat) (hc : c ≤ maxLen) (h : a = none ∨ ∃ g off, a = some ⟨g, off, none⟩) : L3 w (.slice a 0 c) [] := by
  refine ⟨a, c, rfl, by simp, by simp, hc, ?_⟩
  rcases h with rfl | ⟨g, off, rfl⟩
  · exact .inl ⟨rfl, rfl⟩
  · exact .inr ⟨g, off, rfl, fun i x y z hi => by simp at hi⟩
def cntOf : Value → Nat
  | .slice _ n _ => n
  | _ => 0
theorem row_cnt {w : World} {base size n : Nat} {e : TypeId} {v : Value} {xs : List Value} (h : w.ownsRow base e size v n xs) : cntOf v = n := by
  rcases h.2 with ⟨rfl, h0⟩ | ⟨g, cap, cur, rfl, _⟩
  · simp [cntOf, h0]
  · rfl

theorem refPush_wrong (M Y : Int) (xs : List T3) (v : Value) (x y z : Int) (w : World) (h : L3 w v xs) (hr : rightB (x, y, z) = false) :
    Calls Try.prog 30 #[RQ M Y v, .agg #[.int .i64 x, .int .i64 y, .int .i64 z]] w fun e w' => e = .returned (.tuple #[RQ M Y v, .slice none 0 0, .int .i64 2]) ∧ w.grownBy w' none := by
  obtain ⟨a, cap, hv, hl, hcp, hm, _⟩ := id h
  subst hv
  have b0 := ((rq_box M Y (.slice a xs.length cap) w).alloc (.cells #[.int .i64 x, .int .i64 y, .int .i64 z] 33)).alloc (.cells #[.int .i64 0, .int .i64 0, .slice none 0 0] 39)
  have b1 := (Blk.new (w.alloc (.cells #[.int .i64 M, .int .i64 Y, .slice a xs.length cap] 39)) [.int .i64 x, .int .i64 y, .int .i64 z] 33).alloc (.cells #[.int .i64 0, .int .i64 0, .slice none 0 0] 39)
  have b2 := Blk.new ((w.alloc (.cells #[.int .i64 M, .int .i64 Y, .slice a xs.length cap] 39)).alloc (.cells #[.int .i64 x, .int .i64 y, .int .i64 z] 33)) [.int .i64 0, .int .i64 0, .slice none 0 0] 39
  simp only [World.size_alloc] at b1 b2
  have hgA := g_alloc (g_alloc (g_alloc (g_refl w none) (.cells #[.int .i64 M, .int .i64 Y, .slice a xs.length cap] 39)) (.cells #[.int .i64 x, .int .i64 y, .int .i64 z] 33)) (.cells #[.int .i64 0, .int .i64 0, .slice none 0 0] 39)
  have k10 := b1.cellOf (i := 0) rfl
  have k11 := b1.cellOf (i := 1) rfl
  have k12 := b1.cellOf (i := 2) rfl
  clear h b1
  go_enter Try.func30, Try.ntmps30
  go_wp2_with fail
  refine (refRight_any x y z _).mono ?_
  rintro e w1 ⟨rfl, hg1⟩
  simp only [hr]
  have bb0 := b0.keptN hg1
  have bb2 := b2.keptN hg1
  have gW := g_none hgA hg1
  have k0 := bb0.cellOf (i := 0) rfl
  have k1 := bb0.cellOf (i := 1) rfl
  have k2 := bb0.cellOf (i := 2) rfl
  have f0 := bb2.frozen 0
  have f1 := (bb2.set 0 (.int .i64 M)).frozen 1
  have f2 := ((bb2.set 0 (.int .i64 M)).set 1 (.int .i64 Y)).frozen 2
  have c0 := bb2.cellOf (i := 0) rfl
  have c1 := (bb2.set 0 (.int .i64 M)).cellOf (i := 1) rfl
  have c2 := ((bb2.set 0 (.int .i64 M)).set 1 (.int .i64 Y)).cellOf (i := 2) rfl
  have bF := ((bb2.set 0 (.int .i64 M)).set 1 (.int .i64 Y)).set 2 (.slice a xs.length cap)
  clear b0 b2
  go_wp2
  refine bodyPost_ret (results_row_tmp2 rfl _ _ (w.heap.size + 1 + 1) _ _ _ _ rfl bF Try.underlying39 rfl (by kernel_rfl)) rfl ?_
  exact ⟨rfl, g_set (g_set (g_set gW _ (.inr (by simp; omega))) _ (.inr (by simp; omega))) _ (.inr (by simp; omega))⟩

theorem refPush_twice (M Y : Int) (xs : List T3) (v : Value) (x y z : Int) (w : World) (h : L3 w v xs) (hr : rightB (x, y, z) = true) (ha : 0 ≤ atOf xs x y) :
    Calls Try.prog 30 #[RQ M Y v, .agg #[.int .i64 x, .int .i64 y, .int .i64 z]] w fun e w' => e = .returned (.tuple #[RQ M Y v, .slice none 0 0, .int .i64 280]) ∧ w.grownBy w' none := by
  obtain ⟨a, cap, hv, hl, hcp, hm, _⟩ := id h
  subst hv
  obtain ⟨n, hn⟩ : ∃ n, n = atOf xs x y := ⟨_, rfl⟩
  rw [← hn] at ha
  have b0 := ((rq_box M Y (.slice a xs.length cap) w).alloc (.cells #[.int .i64 x, .int .i64 y, .int .i64 z] 33)).alloc (.cells #[.int .i64 0, .int .i64 0, .slice none 0 0] 39)
  have b1 := (Blk.new (w.alloc (.cells #[.int .i64 M, .int .i64 Y, .slice a xs.length cap] 39)) [.int .i64 x, .int .i64 y, .int .i64 z] 33).alloc (.cells #[.int .i64 0, .int .i64 0, .slice none 0 0] 39)
  have b2 := Blk.new ((w.alloc (.cells #[.int .i64 M, .int .i64 Y, .slice a xs.length cap] 39)).alloc (.cells #[.int .i64 x, .int .i64 y, .int .i64 z] 33)) [.int .i64 0, .int .i64 0, .slice none 0 0] 39
  simp only [World.size_alloc] at b1 b2
  have hgA := g_alloc (g_alloc (g_alloc (g_refl w none) (.cells #[.int .i64 M, .int .i64 Y, .slice a xs.length cap] 39)) (.cells #[.int .i64 x, .int .i64 y, .int .i64 z] 33)) (.cells #[.int .i64 0, .int .i64 0, .slice none 0 0] 39)
  have k10 := b1.cellOf (i := 0) rfl
  have k11 := b1.cellOf (i := 1) rfl
  have k12 := b1.cellOf (i := 2) rfl
  have hL := h.keptN hgA
  clear h
  go_enter Try.func30, Try.ntmps30
  go_wp2_with fail
  refine (refRight_any x y z _).mono ?_
  rintro e w1 ⟨rfl, hg1⟩
  simp only [hr]
  have cc0 := (b0.keptN hg1).cellOf (i := 0) rfl
  have cc1 := (b0.keptN hg1).cellOf (i := 1) rfl
  have cc2 := (b0.keptN hg1).cellOf (i := 2) rfl
  have dd0 := (b1.keptN hg1).cellOf (i := 0) rfl
  have dd1 := (b1.keptN hg1).cellOf (i := 1) rfl
  clear k10 k11 k12
  go_wp2_with fail
  refine (refAt_any M Y xs (.slice a xs.length cap) x y _ (hL.keptN hg1)).mono ?_
  rintro e w2 ⟨rfl, hg2⟩
  simp only [← hn]
  have bb0 := (b0.keptN hg1).keptN hg2
  have bb2 := (b2.keptN hg1).keptN hg2
  have gW := g_none (g_none hgA hg1) hg2
  have k0 := bb0.cellOf (i := 0) rfl
  have k1 := bb0.cellOf (i := 1) rfl
  have k2 := bb0.cellOf (i := 2) rfl
  have f0 := bb2.frozen 0
  have f1 := (bb2.set 0 (.int .i64 M)).frozen 1
  have f2 := ((bb2.set 0 (.int .i64 M)).set 1 (.int .i64 Y)).frozen 2
  have c0 := bb2.cellOf (i := 0) rfl
  have c1 := (bb2.set 0 (.int .i64 M)).cellOf (i := 1) rfl
  have c2 := ((bb2.set 0 (.int .i64 M)).set 1 (.int .i64 Y)).cellOf (i := 2) rfl
  have bF := ((bb2.set 0 (.int .i64 M)).set 1 (.int .i64 Y)).set 2 (.slice a xs.length cap)
  clear b0 b1 b2 cc0 cc1 cc2 dd0 dd1
  go_wp2
  refine bodyPost_ret (results_row_tmp2 rfl _ _ (w.heap.size + 1 + 1) _ _ _ _ rfl bF Try.underlying39 rfl (by kernel_rfl)) rfl ?_
  exact ⟨rfl, g_set (g_set (g_set gW _ (.inr (by simp; omega))) _ (.inr (by simp; omega))) _ (.inr (by simp; omega))⟩

end Go.Proofs.Ytjjkhbipeehljaa
