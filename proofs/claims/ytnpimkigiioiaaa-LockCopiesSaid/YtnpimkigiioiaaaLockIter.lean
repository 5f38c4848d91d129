/-
  Locks gone over: which are somebody's; lists of numbers; what a thread has.
-/
import Derived.Test.YtnpimkigiioiaaaLock
import Derived.Maps.OwnIn
namespace Go.Proofs.Ytnpimkigiioiaaa
open Go.RowKit
set_option maxRecDepth 100000

/-! ### Plain lists -/
/-- The locks that are somebody's: their numbers, and their threads. -/
def lk : Nat → List Int → List (Nat × Int)
  | _, [] => []
  | k, x :: xs => if 0 ≤ x then (k, x) :: lk (k + 1) xs else lk (k + 1) xs
def dec1 (x : Nat × Int) : Nat × Int := (x.1, x.2 - 1)
theorem nz_lk : ∀ (xs : List (Int × Int)) (l : List Int) (k : Nat), xs.map Prod.fst = l.map (· + 1) → (∀ t ∈ l, -1 ≤ t) → (nz k xs).map dec1 = lk k l
  | [], [], k, _, _ => rfl
  | [], _ :: _, k, h, _ => by simp at h
  | _ :: _, [], k, h, _ => by simp at h
  | x :: xs, t :: l, k, h, ht => by
    simp only [List.map_cons, List.cons.injEq] at h
    have h1 := nz_lk xs l (k + 1) h.2 (fun u hu => ht u (List.mem_cons_of_mem _ hu))
    have h2 := ht t List.mem_cons_self
    simp only [nz, lk]
    by_cases h0 : 0 ≤ t
    · have : (x.1 != 0) = true := by rw [h.1]; simp; omega
      rw [if_pos this, if_pos h0, List.map_cons, h1]
      simp [dec1, h.1]
    · have : ¬ (x.1 != 0) = true := by rw [h.1]; simp; omega
      rw [if_neg this, if_neg h0, h1]
theorem nz_ne : ∀ (xs : List (Int × Int)) (k : Nat) (x : Nat × Int), x ∈ nz k xs → x.2 ≠ 0
  | [], _, _, h => by simp [nz] at h
  | y :: ys, k, x, h => by
    simp only [nz] at h
    split at h
    · rename_i hy
      rcases List.mem_cons.1 h with rfl | h'
      · simpa using hy
      · exact nz_ne ys _ x h'
    · exact nz_ne ys _ x h
theorem lk_length (l : List Int) : ∀ k, (lk k l).length ≤ l.length := by
  induction l with
  | nil => intro k; simp [lk]
  | cons x xs ih => intro k; simp only [lk]; have := ih (k + 1); split <;> simp <;> omega
theorem lk_mem : ∀ (l : List Int) (k : Nat) (x : Nat × Int), x ∈ lk k l ↔ k ≤ x.1 ∧ l[x.1 - k]? = some x.2 ∧ 0 ≤ x.2
  | [], k, x => by simp [lk]
  | y :: ys, k, x => by
    have ih := lk_mem ys (k + 1) x
    have hs : k + 1 ≤ x.1 → (y :: ys)[x.1 - k]? = ys[x.1 - (k + 1)]? := fun h => by
      rw [show x.1 - k = (x.1 - (k + 1)) + 1 by omega]; simp
    simp only [lk]
    by_cases h0 : 0 ≤ y
    · rw [if_pos h0, List.mem_cons, ih]
      constructor
      · rintro (rfl | ⟨h1, h2, h3⟩)
        · simpa using h0
        · exact ⟨by omega, by rw [hs h1]; exact h2, h3⟩
      · rintro ⟨h1, h2, h3⟩
        by_cases hk : x.1 = k
        · left
          rw [hk] at h2
          simp at h2
          exact Prod.ext hk h2.symm
        · right
          exact ⟨by omega, by rw [← hs (by omega)]; exact h2, h3⟩
    · rw [if_neg h0, ih]
      constructor
      · rintro ⟨h1, h2, h3⟩
        exact ⟨by omega, by rw [hs h1]; exact h2, h3⟩
      · rintro ⟨h1, h2, h3⟩
        by_cases hk : x.1 = k
        · rw [hk] at h2
          simp at h2
          omega
        · exact ⟨by omega, by rw [← hs (by omega)]; exact h2, h3⟩
/-- Those that a thread has, of some that were gone over. -/
def selT (t : Int) (ps : List (Nat × Int)) : List Int := (ps.filter fun x => x.2 == t).map fun x => (x.1 : Int)
def heldL (l : List Int) (t : Int) : List Int := selT t (lk 0 l)
theorem selT_append (t : Int) (a b : List (Nat × Int)) : selT t (a ++ b) = selT t a ++ selT t b := by simp [selT]
theorem selT_length (t : Int) (a : List (Nat × Int)) : (selT t a).length ≤ a.length := by simp [selT]; exact List.length_filter_le _ _

/-! ### Lists of numbers in memory -/
def IntsAt (w : World) (v : Value) (ns : List Int) : Prop :=
  ∃ (a : Option Addr) (cap : Nat), v = .slice a ns.length cap ∧ ns.length ≤ 1000 ∧ ns.length ≤ cap ∧ cap ≤ maxLen ∧ ((ns.length = 0 ∧ ns = []) ∨ ∃ g off, a = some ⟨g, off, none⟩ ∧
    ∀ (i : Nat) (n : Int), ns[i]? = some n → w.cell? ⟨g, off + i, none⟩ = some (.int .i64 n))
theorem cell_lt {A : World} {p i : Nat} {v : Value} (hc : A.cell? ⟨p, i, none⟩ = some v) : p < A.heap.size := by
  by_cases h : p < A.heap.size
  · exact h
  · have h0 : A.heap[p]? = none := Array.getElem?_eq_none (by omega)
    simp [World.cell?, h0] at hc
theorem IntsAt.keptC {w w' : World} {v : Value} {ns : List Int} (h : IntsAt w v ns) (hk : ∀ r, v.ownBlock = some r → r < w.heap.size → w'.heap[r]? = w.heap[r]?) : IntsAt w' v ns := by
  obtain ⟨a, cap, rfl, hl, hcp, hm, hc⟩ := h
  refine ⟨a, cap, rfl, hl, hcp, hm, hc.imp id ?_⟩
  rintro ⟨g, off, rfl, hx⟩
  exact ⟨g, off, rfl, fun i n hi => by
    have h := hx i n hi
    rw [← h]; exact World.cell?_of_block (hk g rfl (cell_lt h))⟩
theorem IntsAt.kept {w w' : World} {v : Value} {ns : List Int} {row : Option Nat} (h : IntsAt w v ns) (hg : w.grownBy w' row) (hne : ∀ r, row = some r → v.ownBlock ≠ some r) : IntsAt w' v ns :=
  h.keptC fun r hr hl => hg.block r hl (fun e => hne r e.symm hr)
theorem IntsAt.keptN {w w' : World} {v : Value} {ns : List Int} (h : IntsAt w v ns) (hg : w.grownBy w' none) : IntsAt w' v ns := h.kept hg (fun r e => by cases e)
theorem IntsAt.nil (w : World) : IntsAt w (.slice none 0 0) [] := ⟨none, 0, rfl, by simp, by simp, by simp [maxLen], .inl ⟨rfl, rfl⟩⟩
theorem ints_get (ns : List Int) (i : Nat) : (ns.map (Value.int .i64))[i]? = (ns[i]?).map (Value.int .i64) := by simp
theorem IntsAt.own {w : World} {base : Nat} {e : TypeId} {v : Value} {ns : List Int} (hl : ns.length ≤ 1000) (h : w.ownsRow base e 1 v ns.length (ns.map (Value.int .i64))) : IntsAt w v ns := by
  rcases h.2 with ⟨rfl, h0⟩ | ⟨g, cap, cur, rfl, hb, _⟩
  · cases ns with
    | nil => exact IntsAt.nil w
    | cons x l => simp at h0
  · obtain ⟨tail, h1, h2, h3, h4, h5⟩ := row_blk h
    refine ⟨_, cap, rfl, hl, h3, h4, .inr ⟨g, 0, rfl, fun i n hi => ?_⟩⟩
    rw [Nat.zero_add]
    exact h1.cellOf (by rw [List.getElem?_append_left (by have := (List.getElem?_eq_some_iff.1 hi).1; simpa using this), ints_get, hi]; rfl)
theorem IntsAt.new (w : World) (ns : List Int) (T : TypeId) (hl : ns.length ≤ 1000) : IntsAt (w.alloc (.cells (ns.map (Value.int .i64)).toArray T)) (.slice (some ⟨w.heap.size, 0, none⟩) ns.length ns.length) ns :=
  ⟨_, ns.length, rfl, hl, Nat.le_refl _, by unfold maxLen; omega, .inr ⟨w.heap.size, 0, rfl, fun i n hi => by
    rw [Nat.zero_add]; exact (Blk.new w (ns.map (Value.int .i64)) T).cellOf (by rw [ints_get, hi]; rfl)⟩⟩

theorem cells_new (W : World) (cs : List Value) (T : TypeId) : ∀ j u, cs[j]? = some u → (W.alloc (.cells cs.toArray T)).cell? ((⟨W.heap.size, 0, none⟩ : Addr).add j) = some u := by
  intro j u hj
  have : (W.alloc (.cells cs.toArray T)).cell? ⟨W.heap.size, j, none⟩ = some u := (Blk.new W cs T).cellOf hj
  unfold Addr.add
  split
  · rename_i h0; subst h0; exact this
  · simpa using this
theorem row_cap {w : World} {base : Nat} {e : TypeId} {size n m c : Nat} {v : Value} {a : Option Addr} {xs : List Value} (h : w.ownsRow base e size v n xs) (hv : v = .slice a m c) : m ≤ c := by
  rcases h.2 with ⟨rfl, _⟩ | ⟨g, cap, cur, rfl, hb, hg, hn, _⟩
  · cases hv; exact Nat.le_refl _
  · cases hv; exact hn
theorem row_base {w : World} {base : Nat} {e : TypeId} {size n : Nat} {v : Value} {xs : List Value} (h : w.ownsRow base e size v n xs) : ∀ r, v.ownBlock = some r → base ≤ r ∧ r < w.heap.size := by
  rcases h.2 with ⟨rfl, _⟩ | ⟨g, cap, cur, rfl, hb, hg, _⟩
  · intro r hr; simp [Value.ownBlock] at hr
  · intro r hr
    simp [Value.ownBlock] at hr; subst hr
    exact ⟨hb, (Array.getElem?_eq_some_iff.1 hg).1⟩

/-! ### What a loop's body does not write -/
def SliceK (bs : List Nat) (rb : Option Nat) (B : Nat) (v : Value) (xs : List (Int × Int)) (W : World) : Prop := B ≤ W.heap.size ∧ (∀ r, v.ownBlock = some r → NotW bs rb r W) ∧ SliceOf W .u64 .i64 v xs
section
variable {bs : List Nat} {rb : Option Nat} {B : Nat} {v : Value} {xs : List (Int × Int)} {A W W0 : World}
theorem SliceK.keeps (h : SliceK bs rb B v xs A) (k : Keeps bs rb A W) : SliceK bs rb B v xs W := by
  obtain ⟨hB, hN, a, cap, rfl, hl, hc⟩ := h
  refine ⟨Nat.le_trans hB k.size, fun r hr => (hN r hr).keeps k, a, cap, rfl, hl, fun h0 => ?_⟩
  obtain ⟨g, rfl, hx⟩ := hc h0
  exact ⟨g, rfl, fun i u c hi => ⟨(hN g rfl).cell k (hx i u c hi).1, (hN g rfl).cell k (hx i u c hi).2⟩⟩
theorem cell_not_row {A : World} {row : Option Nat} {p i : Nat} {v : Value} (hc : A.cell? ⟨p, i, none⟩ = some v) (hr : ∀ r, row = some r → ∃ o : Obj, A.heap[r]? = some o ∧ o.isCells = false) : some p ≠ row := by
  intro e
  obtain ⟨o, ho, hcl⟩ := hr p e.symm
  cases o <;> simp [Obj.isCells] at hcl <;> simp [World.cell?, ho] at hc
theorem SliceK.own {α : Type} (hf : Foot bs rb W0) : OwnFrom W0.heap.size (fun (_ : α) W => SliceK bs rb W0.heap.size v xs W) := by
  rintro s A W row ⟨hB, hN, a, cap, rfl, hl, hc⟩ hg hr
  have hne : ∀ {p i : Nat} {v : Value}, A.cell? ⟨p, i, none⟩ = some v → some p ≠ row := fun h => cell_not_row h (fun r e => (hr r e).2)
  refine ⟨Nat.le_trans hB hg.size, fun r hr' => (hN r hr').grown (fun b hb => Nat.lt_of_lt_of_le (hf.bl b hb) hB) hf.mem hg (fun r e hrb => ?_), a, cap, rfl, hl, fun h0 => ?_⟩
  · have h1 : r < W0.heap.size := hf.bl r (hf.mem r hrb)
    have h2 : W0.heap.size ≤ r := (hr r e).1
    omega
  · obtain ⟨g, rfl, hx⟩ := hc h0
    have kc : ∀ {i : Nat} {v : Value}, A.cell? ⟨g, i, none⟩ = some v → W.cell? ⟨g, i, none⟩ = some v := fun h => by rw [← h]; exact g_cell (a := ⟨g, _, none⟩) hg (cell_lt h) (hne h)
    exact ⟨g, rfl, fun i u c hi => ⟨kc (hx i u c hi).1, kc (hx i u c hi).2⟩⟩
end
theorem grown_own {α : Type} {B : Nat} {w : World} (hB : w.heap.size ≤ B) : OwnFrom B (fun (_ : α) W => w.grownBy W none) := by
  intro s A W row hA hg hr
  exact g_trans hA hg (fun r e => .inr (Nat.le_trans hB (hr r e).1))

/-! ### All -/
/-- What the iterator over locks reads. -/
def LAllX (sb wb : Nat) (v : Value) (xs : List (Int × Int)) (W : World) : Prop :=
  W.cell? ⟨sb, 0, none⟩ = some (.func (.func 68) #[] #[.pointer (some ⟨wb, 0, none⟩)]) ∧ AllX wb v xs W
def LAllK (bs : List Nat) (rb : Option Nat) (B sb wb : Nat) (v : Value) (xs : List (Int × Int)) (W : World) : Prop :=
  (Box bs rb B sb (.func (.func 68) #[] #[.pointer (some ⟨wb, 0, none⟩)]) W ∧ Box bs rb B wb v W) ∧ SliceK bs rb B v xs W
section
variable {bs : List Nat} {rb : Option Nat} {B sb wb : Nat} {v : Value} {xs : List (Int × Int)} {A W W0 : World}
theorem LAllK.keeps (h : LAllK bs rb B sb wb v xs A) (k : Keeps bs rb A W) : LAllK bs rb B sb wb v xs W := ⟨⟨h.1.1.keeps k, h.1.2.keeps k⟩, h.2.keeps k⟩
theorem LAllK.own {α : Type} (hf : Foot bs rb W0) : OwnFrom W0.heap.size (fun (_ : α) W => LAllK bs rb W0.heap.size sb wb v xs W) := OwnFrom.and (OwnFrom.and (Box.own hf) (Box.own hf)) (SliceK.own hf)
theorem LAllK.x (h : LAllK bs rb B sb wb v xs W) : LAllX sb wb v xs W := ⟨h.1.1.2.2, h.1.2.2.2, h.2.2.2⟩
theorem LAllX.keptN {A W : World} (h : LAllX sb wb v xs A) (hg : A.grownBy W none) : LAllX sb wb v xs W := ⟨g_cellN hg h.1, g_cellN hg h.2.1, h.2.2.keptN hg⟩
end

attribute [local go_sem] Oper.semAt_some

set_option maxHeartbeats 1000000 in
theorem all2_iter (sb wb : Nat) (v : Value) (xs : List (Int × Int)) (l : List Int) (hx : xs.map Prod.fst = l.map (· + 1)) (hth : ∀ t ∈ l, -1 ≤ t ∧ t < 4) (W : World) :
    IterAt Try.prog 52 #[.pointer (some ⟨sb, 0, none⟩)] (fun x : Nat × Int => #[.int .i64 x.1, .int .i64 x.2]) (fun _ => LAllX sb wb v xs) (fun pre x => pre ++ [x] <+: lk 0 l) (fun ys => ys = lk 0 l) (fun pre => pre <+: lk 0 l) W := by
  intro ll J Jx bs rb hfoot hX hJ hJx hY h0
  have hX0 := hX _ _ h0
  obtain ⟨hsb, hwb, a, cap, rfl, hlen, hcells⟩ := hX0
  have hnl := nz_lk xs l 0 hx (fun t ht => (hth t ht).1)
  have HN := hid hnl
  have hwd : ∀ x ∈ nz 0 xs, 1 ≤ x.2 ∧ x.2 ≤ 4 := fun x hm => by
    have h1 := nz_ne xs 0 x hm
    obtain ⟨_, c, hc⟩ := nz_mem xs 0 x hm
    obtain ⟨hl1, hg⟩ := words_get hx
    have hlt := (List.getElem?_eq_some_iff.1 hc).1
    obtain ⟨t, ht⟩ : ∃ t, l[x.1 - 0]? = some t := ⟨l[x.1 - 0]'(by omega), List.getElem?_eq_getElem _⟩
    obtain ⟨c', hc'⟩ := hg _ t ht
    rw [hc'] at hc
    have hc2 := congrArg Prod.fst (Option.some.inj hc)
    simp only [] at hc2
    have := hth t (List.mem_of_getElem? ht)
    omega
  have HD := hid hwd
  have HX := hid hX
  have HY := hid hY
  clear hX hY hcells hnl hwd hx hth
  have hgY : W.grownBy (W.alloc (.cells #[.func (.yield ll) #[] #[]] 92)) none := g_alloc (g_refl W _) _
  have hsb2 := g_cellN hgY hsb
  have hYb := (Blk.new W [.func (.yield ll) #[] #[]] 92).cellOf (i := 0) rfl
  refine calls_of_wp_marks Try.func52 rfl (wpIn_wide.2 ?_)
  simp only [Try.ntmps52, List.size_toArray, List.length_cons, List.length_nil, Nat.reduceAdd, Nat.reduceSub, Array.replicate_succ, Array.replicate_zero, List.push_toArray, List.append_toArray, List.nil_append, List.cons_append]
  go_wp2_with (first | apply wp_scope_straight | apply wp_label)
  have hs1 : W.heap.size ≤ (W.alloc (.cells #[.func (.yield ll) #[] #[]] 92)).heap.size := hgY.size
  have bY := Box.new hfoot hgY (Nat.le_refl _) hYb
  refine wp_of_in (wp_iter (gf := 68) (lb := #[.pointer (some ⟨wb, 0, none⟩)]) rfl (Go.Proofs.enters_of Try.func68 (by kernel_rfl) rfl)
    (encs := fun x : Nat × Int => #[.int .i64 x.1, .int .u64 x.2]) (fun _ => rfl) bs rb (hfoot.grown hgY)
    (fun W1 _ => all1_iter wb (.slice a xs.length cap) xs W1)
    (fun pre W1 => J (pre.map dec1) W1 ∧ Box bs rb W.heap.size W.heap.size (.func (.yield ll) #[] #[]) W1)
    (fun c pre W1 => c = .exit 0 ∧ Jx (pre.map dec1) W1)
    (own_mono (OwnFrom.and (fun s => hJ (s.map dec1)) (Box.own hfoot)) hs1)
    (fun c s A B row h hg hr => ⟨h.1, own_mono hJx hs1 (s.map dec1) A B row h.2 hg hr⟩)
    (fun pre W1 h => (HX.out _ _ h.1).2)
    ⟨own_grown hJ h0 hgY, bY⟩
    (fun x a' _ => a' = { tmps := #[.func (.yield ll) #[] #[], .pointer (some ⟨sb, 0, none⟩), .pointer (some ⟨W.heap.size, 0, none⟩), .int .i64 x.1, .int .u64 x.2, .func (.func 68) #[] #[.pointer (some ⟨wb, 0, none⟩)], .int .i64 x.1, .int .u64 x.2, undef, undef, undef, undef, undef, undef, undef], defers := [] })
    (fun x a' s A B row h _ _ => h) ?assign ?body ?done ?stop)
  case assign =>
    intro l' pre x W1 K _ _ hK
    gi_wp2
    exact hK _ _ (KeepsFrom.refl _ _) (Keeps.refl _ _ _) (by assumption) rfl
  case body =>
    rintro l' pre x a' W1 hl' ⟨hJ1, bY1⟩ rfl hnx
    obtain ⟨hx1, hx4⟩ := HD.out x (hnx.subset (by simp))
    have hx0 : 0 ≤ x.2 - 1 := by omega
    have hyc := bY1.2.2
    have hnx2 : pre.map dec1 ++ [dec1 x] <+: lk 0 l := by
      rw [← HN.out]
      have := List.IsPrefix.map dec1 hnx
      simpa using this
    obtain ⟨fn, tmps, assign, body, hy, hR⟩ := HY.out (pre.map dec1) (dec1 x) W1 hJ1 hnx2
    simp only [dec1] at hy
    gi_wp2
    refine (hR _).mono ?_
    rintro e W3 ⟨hk3, hkp3, (⟨rfl, hJ3⟩ | ⟨rfl, hJx3⟩)⟩
    · gi_wp2
      exact ⟨⟨hk3.size, (keepsFrom_more hk3 hs1).same⟩, hkp3, by rw [List.map_append]; exact hJ3, bY1.keeps hkp3⟩
    · gi_wp2
      exact ⟨⟨hk3.size, (keepsFrom_more hk3 hs1).same⟩, hkp3, rfl, by rw [List.map_append]; exact hJx3⟩
  case done =>
    rintro D ys W2 hD rfl ⟨hJ2, _⟩ hK
    show bodyPostM Fence.wide 10 _ _ _ .normal _ _
    refine ⟨by simp, .inl ⟨_, _, rfl, run_takeDeferred hK, ?_⟩⟩
    exact ⟨_, results_none rfl _ _ _, ⟨_, rfl⟩, .inl ⟨_, rfl, hJ.putObj _ (by rw [← HN.out]; exact hJ2) (Nat.le_trans hs1 hD) hK rfl⟩⟩
  case stop =>
    rintro D c pre W2 hD hp ⟨rfl, hJx2⟩ hK
    refine wpIn_exit ?_
    show bodyPostM Fence.wide 10 _ _ _ .normal _ _
    refine ⟨by simp, .inl ⟨_, _, rfl, run_takeDeferred hK, ?_⟩⟩
    exact ⟨_, results_none rfl _ _ _, ⟨_, rfl⟩, .inr ⟨_, by rw [← HN.out]; exact List.IsPrefix.map dec1 hp, hJx.putObj _ hJx2 (Nat.le_trans hs1 hD) hK rfl⟩⟩

/-- Of no locks, nothing. -/
theorem all1_none (W : World) :
    IterAt Try.prog 50 #[] (fun x : Nat × Int => #[.int .i64 x.1, .int .i64 x.2]) (fun _ _ => True) (fun _ _ => False) (fun ys => ys = []) (fun _ => False) W := by
  intro ll J Jx bs rb hfoot hX hJ hJx hY h0
  clear hX hY
  go_enter Try.func50, Try.ntmps50
  go_wp2
  go_end0
  exact ⟨⟨_, rfl⟩, .inl ⟨_, rfl, h0⟩⟩

/-- l.All(). -/
theorem lall_some (p pc g K : Nat) (l : List Int) (w : World) (h : LockAt w p pc g K l) :
    Calls Try.prog 22 #[.pointer (some ⟨p, 0, none⟩)] w fun e w' => ∃ sb wb v xs, e = .returned (.func (.func 52) #[] #[.pointer (some ⟨sb, 0, none⟩)]) ∧ xs.map Prod.fst = l.map (· + 1) ∧ LAllX sb wb v xs w' ∧ w.grownBy w' none ∧ (∀ r, v.ownBlock = some r → w.heap.size ≤ r ∧ r < w'.heap.size) ∧ w.heap.size ≤ wb ∧ w.heap.size ≤ sb := by
  have hc := h.cell
  have hl := h.len
  have h' := h
  obtain ⟨xs, hb, hC, hx, _⟩ := h'
  have hlx := (words_get hx).1
  have HX := hid hx
  clear hx
  go_enter Try.func22, Try.ntmps22
  go_wp2_with fail
  refine (lnone_some _ _ _ _ _ _ h).mono ?_
  rintro e _ ⟨rfl, rfl⟩
  go_wp2_with fail
  refine (all_some pc g xs (by omega) _ hC).mono ?_
  rintro e w1 ⟨wb, v, rfl, hX1, hg1, hv1, hw1⟩
  have hs := hg1.size
  have hgN := g_alloc (g_refl w1 none) (.cells #[.func (.func 68) #[] #[.pointer (some ⟨wb, 0, none⟩)]] 94)
  have hbN := (Blk.new w1 [.func (.func 68) #[] #[.pointer (some ⟨wb, 0, none⟩)]] 94).cellOf (i := 0) rfl
  go_wp2_with fail
  go_ret
  exact ⟨_, wb, v, xs, rfl, HX.out, ⟨hbN, g_cellN hgN hX1.1, hX1.2.keptN hgN⟩, g_none hg1 hgN, fun r hr => ⟨(hv1 r hr).1, Nat.lt_of_lt_of_le (hv1 r hr).2 hgN.size⟩, hw1, hs⟩
theorem lall_none (v : Option Addr) (w : World) (h : LNone w v) :
    Calls Try.prog 22 #[.pointer v] w fun e w' => e = .returned (.func (.func 50) #[] #[]) ∧ w = w' := by
  go_enter Try.func22, Try.ntmps22
  go_wp2_with fail
  refine (lnone_none _ _ h).mono ?_
  rintro e _ ⟨rfl, rfl⟩
  go_wp2_with fail
  go_ret
  exact ⟨rfl, rfl⟩
end Go.Proofs.Ytnpimkigiioiaaa
