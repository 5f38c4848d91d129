/-
  Arguments that hold nothing but integers (slices, arrays, structs of them), opened: what lies in their cells. For whatever program.
-/
import Derived.ProofKit
import Derived.OpenShut
import Derived.Below
import Derived.Deep.Slices
import Derived.WalkKit
namespace Go.Proofs.Ytnpimkigiioiaaa
open Go.ChangeShapes Go.WideShapes Go.ChangeAt Go.RowKit Go.Deep

/-- A type whose values are so many integers, one behind the other, of these kinds. -/
def FlatV (P : Program) (t : TypeId) (ks : List IntKind) : Prop :=
  ∀ (H : Type) (enc : TypeId × Value → H) (w : World) (base : Nat) (spare : Nat → Bool) (held : Bool) (fuel : Nat) (cs : List Value) (x : DataW H × List MemPlace),
    DataW.trod enc P w base spare held fuel t cs = some x → cs.length = ks.length ∧ ∀ (j : Nat) (k : IntKind), ks[j]? = some k → ∃ n : Int, cs[j]? = some (Value.int k n) ∧ (Lit.int k n).wf = true

section
variable {P : Program} {t e : TypeId} {ks : List IntKind}

theorem flat_int {k : IntKind} (ht : P.underlying t = some (.int k)) : FlatV P t [k] := fun H enc w base spare held fuel cs x h => by
  obtain ⟨n, rfl, _, hw⟩ := DataW.trod_int ht h
  refine ⟨rfl, fun j k' hj => ?_⟩
  match j, hj with
  | 0, hj => simp at hj; subst hj; exact ⟨n, rfl, hw⟩

theorem flat_struct {fs : Array Field} (ht : P.underlying t = some (.struct fs)) (hc : P.cellsOf t = ks.length)
    (hf : ∀ (j : Nat) (k : IntKind), ks[j]? = some k → ∃ f : Field, fs[j]? = some f ∧ f.offset = j ∧ P.cellsOf f.type = 1 ∧ P.underlying f.type = some (.int k)) : FlatV P t ks := fun H enc w base spare held fuel cs x h => by
  obtain ⟨xs, n, _, _, hl, hx, hfs⟩ := DataW.trod_struct ht h
  refine ⟨hl.trans hc, fun j k hj => ?_⟩
  obtain ⟨f, h1, h2, h3, h4⟩ := hf j k hj
  have := hfs j f h1
  rw [h2, h3] at this
  have hjl : j < fs.size := (Array.getElem?_eq_some_iff.1 h1).1
  obtain ⟨y, hy⟩ : ∃ y, xs[j]? = some y := ⟨xs[j]'(by omega), List.getElem?_eq_getElem _⟩
  rw [hy] at this
  obtain ⟨m, h5, _, h6⟩ := DataW.trod_int h4 this
  refine ⟨m, ?_, h6⟩
  have h7 : (List.take 1 (List.drop j cs))[0]? = some (.int k m) := by rw [h5]; rfl
  simpa using h7

theorem flat_array {n : Nat} (ht : P.underlying t = some (.array n e)) (he : FlatV P e ks) (hce : P.cellsOf e = ks.length) (hc : P.cellsOf t = n * ks.length) : FlatV P t (List.replicate n ks).flatten := fun H enc w base spare held fuel cs x h => by
  obtain ⟨xs, m, _, _, hl, hx, hfs⟩ := DataW.trod_array ht h
  have hlen : (List.replicate n ks).flatten.length = n * ks.length := by simp
  refine ⟨by rw [hl, hc, hlen], fun j k hj => ?_⟩
  have hj' : j < n * ks.length := by rw [← hlen]; exact (List.getElem?_eq_some_iff.1 hj).1
  have hpos : 0 < ks.length := by
    rcases Nat.eq_zero_or_pos ks.length with h0 | h0
    · rw [h0] at hj'; omega
    · exact h0
  have hq : j / ks.length < n := (Nat.div_lt_iff_lt_mul hpos).2 hj'
  have hr : j % ks.length < ks.length := Nat.mod_lt _ hpos
  have hget : ∀ (n i r : Nat), i < n → r < ks.length → (List.replicate n ks).flatten[i * ks.length + r]? = ks[r]? := by
    intro n
    induction n with
    | zero => intro i r hi; omega
    | succ n ih =>
      intro i r hi hr
      rw [List.replicate_succ, List.flatten_cons]
      cases i with
      | zero => rw [Nat.zero_mul, Nat.zero_add, List.getElem?_append_left hr]
      | succ i =>
        rw [List.getElem?_append_right (by rw [Nat.succ_mul]; omega), ← ih i r (by omega) hr]
        congr 1
        rw [Nat.succ_mul]; omega
  have hdm : j / ks.length * ks.length + j % ks.length = j := by rw [Nat.mul_comm]; exact Nat.div_add_mod j _
  have hk : ks[j % ks.length]? = some k := by rw [← hget n (j / ks.length) (j % ks.length) hq hr, hdm]; exact hj
  have h1 := hfs (j / ks.length) hq
  obtain ⟨y, hy⟩ : ∃ y, xs[j / ks.length]? = some y := ⟨xs[j / ks.length]'(by omega), List.getElem?_eq_getElem _⟩
  rw [hy] at h1
  obtain ⟨h2, h3⟩ := he H enc w base spare held m _ _ h1
  obtain ⟨z, h4, h5⟩ := h3 _ _ hk
  refine ⟨z, ?_, h5⟩
  rw [hce, List.getElem?_take_of_lt hr, List.getElem?_drop] at h4
  rwa [hdm] at h4

/-- A slice of such elements that came in: number j of element i is A i j. -/
def RowAt (w : World) (a : Option Addr) (len : Nat) (ks : List IntKind) (A : Nat → Nat → Int) : Prop :=
  0 < len → ∃ b off, a = some ⟨b, off, none⟩ ∧ b < w.heap.size ∧ ∀ i, i < len → ∀ (j : Nat) (k : IntKind), ks[j]? = some k → w.cell? ⟨b, off + i * ks.length + j, none⟩ = some (.int k (A i j)) ∧ (Lit.int k (A i j)).wf = true

variable {H : Type} {enc : TypeId × Value → H} {w : World} {v : Value} {d : DataW H} {p : List MemPlace} {r : Reach} {base : Nat}

theorem open_row (ht : P.underlying t = some (.slice e)) (he : FlatV P e ks) (hce : P.cellsOf e = ks.length) (hpos : 0 < ks.length)
    (hv : Value.okWide P w r base t v) (h : DataW.Trod enc P w 0 (fun _ => true) true t v d p) :
    ∃ a len cap A, v = .slice a len cap ∧ len ≤ cap ∧ cap ≤ 9223372036854775807 ∧ RowAt w a len ks A := by
  obtain ⟨a, len, cap, rfl⟩ := okWide_slice ht hv
  obtain ⟨fuel, hf⟩ := h
  rcases open_slice ht hf with ⟨hcs, _⟩ | ⟨a', len', cap', m, n, D, Pl, hcs, _, hl, hm, hmm, _, hx⟩
  · simp [Value.cells] at hcs
    obtain ⟨rfl, rfl, rfl⟩ := hcs
    exact ⟨none, 0, 0, fun _ _ => 0, rfl, Nat.le_refl _, by omega, fun h => by omega⟩
  · simp [Value.cells] at hcs
    obtain ⟨rfl, rfl, rfl⟩ := hcs
    simp only [if_true] at hmm
    subst hmm
    refine ⟨some a', len, m, fun i j => match w.cell? (a'.add (i * ks.length + j)) with | some (.int _ n) => n | _ => 0, rfl, hl, by unfold maxLen at hm; omega, fun hlen => ?_⟩
    have hcell : ∀ i, i < len → ∀ (j : Nat) (k : IntKind), ks[j]? = some k → ∃ n : Int, w.cell? (a'.add (i * ks.length + j)) = some (.int k n) ∧ (Lit.int k n).wf = true := by
      intro i hi j k hj
      obtain ⟨cs', h1, h2⟩ := hx i (by omega)
      obtain ⟨_, hcl, hcg⟩ := World.cells?_some h1
      obtain ⟨_, h3⟩ := he H enc w 0 _ true n _ _ h2
      obtain ⟨z, h4, h5⟩ := h3 j k hj
      have hjl : j < ks.length := (List.getElem?_eq_some_iff.1 hj).1
      have h6 := hcg j (by rw [hce]; exact hjl)
      rw [h4, add_add, hce] at h6
      exact ⟨z, h6, h5⟩
    obtain ⟨k0, hk0⟩ : ∃ k, ks[0]? = some k := ⟨ks[0], List.getElem?_eq_getElem hpos⟩
    obtain ⟨n0, h0, _⟩ := hcell 0 hlen 0 k0 hk0
    obtain ⟨b, off, spot⟩ := a'
    have hspot : spot = none := by simpa [Addr.add] using World.cell?_spot h0
    subst hspot
    have h0' : w.cell? ⟨b, off, none⟩ = some (.int k0 n0) := by simpa [Addr.add] using h0
    refine ⟨b, off, rfl, World.block_lt_of_cell? w _ h0', fun i hi j k hj => ?_⟩
    obtain ⟨z, h1, h2⟩ := hcell i hi j k hj
    simp only [h1]
    rw [add_plain] at h1
    refine ⟨by rw [Nat.add_assoc]; exact h1, h2⟩

/-- An array or a struct of integers, by value. -/
theorem open_flat (hfl : FlatV P t ks) (hagg : ∀ cs : Array Value, Value.cells (.agg cs) = cs) (hv : ∃ cs, v = .agg cs) (h : DataW.Trod enc P w 0 (fun _ => true) true t v d p) :
    ∃ (cs : Array Value) (A : Nat → Int), v = .agg cs ∧ cs.size = ks.length ∧ ∀ (j : Nat) (k : IntKind), ks[j]? = some k → cs[j]? = some (.int k (A j)) ∧ (Lit.int k (A j)).wf = true := by
  obtain ⟨cs, rfl⟩ := hv
  obtain ⟨fuel, hf⟩ := h
  rw [hagg] at hf
  obtain ⟨h1, h2⟩ := hfl H enc w 0 _ true fuel _ _ hf
  refine ⟨cs, fun j => match cs[j]? with | some (.int _ n) => n | _ => 0, rfl, by simpa using h1, fun j k hj => ?_⟩
  obtain ⟨n, h3, h4⟩ := h2 j k hj
  have h5 : cs[j]? = some (.int k n) := by simpa using h3
  simp only [h5]
  exact ⟨trivial, h4⟩
end

theorem okWide_array {P : Program} {w : World} {r : Reach} {base n : Nat} {t e : TypeId} {v : Value} (ht : P.underlying t = some (.array n e)) (h : Value.okWide P w r base t v) : ∃ cs, v = .agg cs := by
  simp only [Value.okWide, ht] at h
  obtain ⟨cs, h1, _⟩ := h
  exact ⟨cs, h1⟩

theorem u64_of_wf {n : Int} (h : (Lit.int .u64 n).wf = true) : 0 ≤ n ∧ n < 18446744073709551616 := by
  simp [Lit.wf, IntKind.min, IntKind.max, IntKind.signed, IntKind.bits] at h; omega
theorem i64_of_wf {n : Int} (h : (Lit.int .i64 n).wf = true) : -9223372036854775808 ≤ n ∧ n ≤ 9223372036854775807 := by
  simp [Lit.wf, IntKind.min, IntKind.max, IntKind.signed, IntKind.bits] at h; omega
theorem u8_of_wf {n : Int} (h : (Lit.int .u8 n).wf = true) : 0 ≤ n ∧ n < 256 := by
  simp [Lit.wf, IntKind.min, IntKind.max, IntKind.signed, IntKind.bits] at h; omega
end Go.Proofs.Ytnpimkigiioiaaa
