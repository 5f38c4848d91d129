/-
  FifoHolds, walked: whatever bounds, whatever things: true, and nothing that was there is written.
-/
import Derived.Test.YtjjkhbipeehljaaFifoWorks
import Derived.Maps.OwnIn
import Derived.Maps.AppendAt
namespace Go.Proofs.Ytjjkhbipeehljaa
open Go.RowKit

/-- A slice of things that came in: thing i's three numbers. -/
def HeldAt (w : World) (a : Option Addr) (len : Nat) (A : Nat → Nat → Int) : Prop :=
  0 < len → ∃ b off, a = some ⟨b, off, none⟩ ∧ b < w.heap.size ∧ ∀ i, i < len → w.cell? ⟨b, off + i * 3, none⟩ = some (.int .i64 (A i 0)) ∧ w.cell? ⟨b, off + i * 3 + 1, none⟩ = some (.int .i64 (A i 1)) ∧
    w.cell? ⟨b, off + i * 3 + 2, none⟩ = some (.int .i64 (A i 2))

theorem pushL_no {M Y : Int} {xs : List T3} {x : T3} (h : pushE xs x ≠ 0) : pushL M Y xs x = xs := by simp [pushL, h]
theorem pushO_no {M Y : Int} {xs : List T3} {x : T3} (h : pushE xs x ≠ 0) : pushO M Y xs x = [] := by simp [pushO, h]
theorem right_good {x y z : Int} (h : rightB (x, y, z) = true) : 0 ≤ z ∧ z ≤ 1048576 := by
  have := (right_parts h).2.2
  simp only [inB, Bool.and_eq_true, decide_eq_true_eq] at this
  omega
theorem lvN_before (M Y : Int) : ∀ (xs : List T3) (j : Nat), j < lvN M Y xs → fits M Y (xs.drop j) = false
  | [], j, h => by simp [lvN] at h
  | x :: xs, 0, h => by
    simp only [lvN] at h
    split at h
    · omega
    · rename_i hf; simpa using hf
  | x :: xs, j + 1, h => by
    simp only [lvN] at h
    split at h
    · omega
    · have := lvN_before M Y xs j (by omega)
      simpa using this
theorem lvN_after (M Y : Int) : ∀ xs : List T3, lvN M Y xs = xs.length ∨ fits M Y (xs.drop (lvN M Y xs)) = true
  | [] => .inl rfl
  | x :: xs => by
    simp only [lvN]
    split
    · rename_i hf; right; simpa using hf
    · rcases lvN_after M Y xs with h | h
      · left; simp [h]
      · right; simpa using h

theorem sum3_mid {xs : List T3} {i j : Nat} {x y z : Int} (h : xs[j]? = some (x, y, z)) (hij : i ≤ j) : sum3 ((xs.take (j + 1)).drop i) = sum3 ((xs.take j).drop i) + z := by
  have hl := (List.getElem?_eq_some_iff.1 h).1
  rw [List.take_add_one, h, List.drop_append_of_le_length (by simp; omega), sum3_append]
  simp [sum3]

/-- What a push that is taken leaves of the lists. -/
structure HoldP (M Y : Int) (gone : Nat) (ins' O R : List T3) : Prop where
  len : gone + O.length ≤ ins'.length
  rest : R = ins'.drop (gone + O.length)
  out : ∀ q, q < O.length → O[q]? = ins'[gone + q]?
  no : ∀ q, q < O.length → fits M Y (ins'.drop (gone + q)) = false
  fit : (R.length : Int) ≤ M ∧ sum3 R ≤ Y
theorem holds_parts {M Y x y z : Int} {gone : Nat} {ins O R : List T3} (hgo : gone ≤ ins.length) (hb : boundB M Y = true) (he : pushE (ins.drop gone) (x, y, z) = 0) (hO : O = pushO M Y (ins.drop gone) (x, y, z)) (hR : R = pushL M Y (ins.drop gone) (x, y, z)) :
    HoldP M Y gone (ins ++ [(x, y, z)]) O R := by
  rw [pushO, if_pos he] at hO
  rw [pushL, if_pos he] at hR
  have hys : ins.drop gone ++ [(x, y, z)] = (ins ++ [(x, y, z)]).drop gone := (List.drop_append_of_le_length hgo).symm
  rw [hys] at hO hR
  obtain ⟨zs, hzs⟩ : ∃ zs, zs = ins ++ [(x, y, z)] := ⟨_, rfl⟩
  rw [← hzs] at hO hR ⊢
  have hzl : gone ≤ zs.length := by rw [hzs]; simp; omega
  have hle := lvN_le M Y (zs.drop gone)
  have hbe := lvN_before M Y (zs.drop gone)
  have haf := lvN_after M Y (zs.drop gone)
  generalize lvN M Y (zs.drop gone) = K at *
  simp only [List.length_drop] at hle haf
  have hOl : O.length = K := by rw [hO]; simp; omega
  refine ⟨by omega, by rw [hR, hOl, List.drop_drop], fun q hq => ?_, fun q hq => ?_, ?_⟩
  · rw [hO, List.getElem?_take_of_lt (by omega), List.getElem?_drop]
  · have := hbe q (by omega)
    rwa [List.drop_drop] at this
  · rcases haf with h | h
    · have hR0 : R = [] := by rw [hR, List.drop_drop]; exact List.drop_eq_nil_of_le (by omega)
      subst hR0
      simp only [boundB, inB, Bool.and_eq_true, decide_eq_true_eq] at hb
      simp [sum3]; omega
    · rw [← hR] at h
      simpa [fits, fitB] using h

/-- The outer rounds' invariant. -/
def HoldI (len0 p : Nat) (M Y : Int) (w1 : World) (vi vg vk : Value) (wr : World) : Prop :=
  ∃ (k gone : Nat) (ins : List T3) (v : Value) (ai : Option Addr) (ci : Nat), k ≤ len0 ∧ vk = .int .i64 k ∧ vg = .int .i64 gone ∧ vi = .slice ai ins.length ci ∧
    wr.ownsRow w1.heap.size 33 3 (.slice ai ins.length ci) ins.length (flat3 ins) ∧ FifoAt wr p M Y v (ins.drop gone) ∧ gone ≤ ins.length ∧ ins.length ≤ k ∧ Good ins ∧
    (∀ r, (Value.slice ai ins.length ci).ownBlock = some r → v.ownBlock ≠ some r) ∧ KeepW [p] w1 wr
theorem holds_stay {len0 p k gone : Nat} {M Y : Int} {w1 wr w2 : World} {ins : List T3} {v v' : Value} {ai : Option Addr} {ci : Nat} (hk : k < len0)
    (hrow : wr.ownsRow w1.heap.size 33 3 (.slice ai ins.length ci) ins.length (flat3 ins)) (hF2 : FifoAt w2 p M Y v' (ins.drop gone)) (hgo : gone ≤ ins.length) (hik : ins.length ≤ k) (hG : Good ins)
    (hdis : ∀ r, (Value.slice ai ins.length ci).ownBlock = some r → v.ownBlock ≠ some r) (hkw : KeepW [p] w1 wr) (hg2 : wr.grownBy w2 (some p)) (hv2 : v' = v ∨ ∀ r, v'.ownBlock = some r → wr.heap.size ≤ r ∧ r < w2.heap.size)
    (hp1 : p < w1.heap.size) :
    HoldI len0 p M Y w1 (.slice ai ins.length ci) (.int .i64 gone) (.int .i64 ((k + 1 : Nat) : Int)) w2 := by
  refine ⟨k + 1, gone, ins, v', ai, ci, by omega, rfl, rfl, rfl, hrow.kept hg2 ?_, hF2, hgo, by omega, hG, fun r hr => ?_, hkw.grown hg2 (fun r e => by cases e; exact .inl (by simp))⟩
  · refine .inr (fun e => ?_)
    have := (row_base hrow p e).1
    omega
  · rcases hv2 with rfl | hv2
    · exact hdis r hr
    · intro e
      have h1 := (hv2 r e).1
      have h2 := (row_base hrow r hr).2
      omega

set_option maxRecDepth 100000 in
set_option maxHeartbeats 4000000 in
theorem holds_walk (M Y : Int) (a0 : Option Addr) (len0 cap0 : Nat) (A : Nat → Nat → Int) (w : World) (hA : HeldAt w a0 len0 A) (hl0 : len0 ≤ 60) (hb : boundB M Y = true) :
    Calls Try.prog 3 #[.agg #[.int .i64 M, .int .i64 Y], .slice a0 len0 cap0] w fun e w' => e = .returned (.bool true) ∧ w.grownBy w' none := by
  obtain ⟨i0, hi, hz0, hz1, hz2⟩ := info_parts info_held
  have HA := hid hA
  have hgA := g_alloc (g_refl w none) (.cells #[.int .i64 M, .int .i64 Y] 22)
  have bB := Blk.new w [.int .i64 M, .int .i64 Y] 22
  have kb0 := bB.cellOf (i := 0) rfl
  have kb1 := bB.cellOf (i := 1) rfl
  clear hA
  go_enter Try.func3, Try.ntmps3
  go_wp2_with fail
  refine (new_yes M Y _ hb).mono ?_
  rintro e w1 ⟨p, rfl, h1, hg1, hp⟩
  go_wp2_with (go_at_call 8; refine (num_any _ _).mono ?_; rintro e _ ⟨rfl, rfl⟩)
  have hgW1 : w.grownBy w1 none := g_none hgA hg1
  have hpw : w.heap.size + 1 ≤ p := by simpa using hp
  have bB1 := bB.keptN hg1
  have hA1 : ∀ W : World, KeepW [p] w1 W → ∀ (k : Nat), k < len0 → ∃ b off, a0 = some ⟨b, off, none⟩ ∧ W.cell? ⟨b, off + k * 3, none⟩ = some (.int .i64 (A k 0)) ∧ W.cell? ⟨b, off + k * 3 + 1, none⟩ = some (.int .i64 (A k 1)) ∧ W.cell? ⟨b, off + k * 3 + 2, none⟩ = some (.int .i64 (A k 2)) := fun W hW k hk => by
    obtain ⟨b, off, ha, hbl, hx⟩ := HA.out (by omega)
    have hbp : b ∉ [p] := by simp; omega
    exact ⟨b, off, ha, hW.cell (g_cellN hgW1 (hx k hk).1) hbp, hW.cell (g_cellN hgW1 (hx k hk).2.1) hbp, hW.cell (g_cellN hgW1 (hx k hk).2.2) hbp⟩
  have HA1 := hid hA1
  have H0 := hid h1
  have hp1 := h1.1.lt
  have hnb : w.heap.size ∉ [p] := by simp; omega
  clear hA1 h1 hgA bB kb0 kb1 HA
  go_loopw [7, 8, 9] (HoldI len0 p M Y w1) (fun _ _ v _ => len0 - (intOf v).toNat)
  case atStart => exact ⟨0, 0, [], _, none, 0, Nat.zero_le _, rfl, rfl, rfl, World.ownsRow_nil _ _ _ _, H0.out, Nat.le_refl _, Nat.le_refl _, fun x hx => by simp at hx, fun r hr => by simp [Value.ownBlock] at hr, KeepW.refl _ _⟩
  case round =>
    obtain ⟨k, gone, ins, v, ai, ci, hk, rfl, rfl, rfl, hrow, hF, hgo, hik, hG, hdis, hkw⟩ := hrel
    have HR := hid hrow
    have HF := hid hF
    have HG := hid hG
    have HD := hid hdis
    have HW := hid hkw
    have hil : ins.length ≤ 60 := by omega
    have kb0 := (hkw.blk bB1 hnb).cellOf (i := 0) rfl
    have kb1 := (hkw.blk bB1 hnb).cellOf (i := 1) rfl
    clear hrow hF hG hdis hkw
    by_cases hlt : k < len0
    · obtain ⟨b, off, rfl, d0, d1, d2⟩ := HA1.out wr HW.out k hlt
      obtain ⟨x, hx⟩ : ∃ x, x = A k 0 := ⟨_, rfl⟩
      obtain ⟨y, hy⟩ : ∃ y, y = A k 1 := ⟨_, rfl⟩
      obtain ⟨z, hz⟩ : ∃ z, z = A k 2 := ⟨_, rfl⟩
      rw [← hx] at d0
      rw [← hy] at d1
      rw [← hz] at d2
      have HX := hid hx
      have HY := hid hy
      have HZ := hid hz
      clear hx hy hz
      have hpush := push_any p M Y v (ins.drop gone) x y z (HG.out.drop gone) (by simp; omega) wr HF.out
      have HP := hid hpush
      clear hpush
      rcases pushE_cases (ins.drop gone) x y z with ⟨hr, he⟩ | ⟨hr, ha, he⟩ | ⟨hr, ha, he⟩
      · go_wp2_with fail
        refine HP.out.mono ?_
        rintro e w2 ⟨a, n, c, v', rfl, hF2, hr2, hg2, hd2, hv2⟩
        rw [pushL_no (by rw [he]; decide)] at hF2
        rw [pushO_no (by rw [he]; decide)] at hr2
        obtain ⟨_, hn, _⟩ := outL3 (by simp) hr2
        simp only [List.length_nil] at hn
        subst hn
        rw [he]
        go_wp2_with (go_at_call 8; refine (num_any _ _).mono ?_; rintro e _ ⟨rfl, rfl⟩)
        go_roundw
        case rel => exact (by go_num : ((k : Int) + 1) = ((k + 1 : Nat) : Int)) ▸ holds_stay hlt HR.out hF2 hgo hik HG.out HD.out HW.out hg2 (hv2.imp And.right id) hp1
        case measure => simp [intOf]; omega
      · go_wp2_with fail
        refine HP.out.mono ?_
        rintro e w2 ⟨a, n, c, v', rfl, hF2, hr2, hg2, hd2, hv2⟩
        rw [pushL_no (by rw [he]; decide)] at hF2
        rw [pushO_no (by rw [he]; decide)] at hr2
        obtain ⟨_, hn, _⟩ := outL3 (by simp) hr2
        simp only [List.length_nil] at hn
        subst hn
        rw [he]
        go_wp2_with (go_at_call 8; refine (num_any _ _).mono ?_; rintro e _ ⟨rfl, rfl⟩)
        go_roundw
        case rel => exact (by go_num : ((k : Int) + 1) = ((k + 1 : Nat) : Int)) ▸ holds_stay hlt HR.out hF2 hgo hik HG.out HD.out HW.out hg2 (hv2.imp And.right id) hp1
        case measure => simp [intOf]; omega
      · go_wp2_with fail
        refine HP.out.mono ?_
        rintro e w2 ⟨a, n, c, v', rfl, hF2, hr2, hg2, hd2, hv2⟩
        rw [he]
        have hkw2 := HW.out.grown hg2 (fun r e => by cases e; exact .inl (by simp))
        obtain ⟨b', off', e', d0, d1, d2⟩ := HA1.out w2 hkw2 k hlt
        cases e'
        rw [← HX.out] at d0
        rw [← HY.out] at d1
        rw [← HZ.out] at d2
        have hpr : ∀ r, (Value.slice ai ins.length ci).ownBlock = some r → p < r ∧ r < wr.heap.size := fun r e => by
          have := row_base HR.out r e
          omega
        have hrow2 := HR.out.kept hg2 (.inr (fun e => by have := (hpr p e).1; omega))
        obtain ⟨O, hO⟩ : ∃ O, O = pushO M Y (ins.drop gone) (x, y, z) := ⟨_, rfl⟩
        obtain ⟨R, hR⟩ : ∃ R, R = pushL M Y (ins.drop gone) (x, y, z) := ⟨_, rfl⟩
        rw [← hO] at hr2
        rw [← hR] at hF2
        have hpush := holds_parts hgo hb he hO hR
        have hOl : O.length ≤ 1000 := by have := hpush.len; simp at this; omega
        obtain ⟨hoL, hn, hob⟩ := outL3 hOl hr2
        subst hn
        have hGz := right_good hr
        have hG' : Good (ins ++ [(x, y, z)]) := fun t ht => by
          rcases List.mem_append.1 ht with ht | ht
          · exact HG.out t ht
          · simp at ht; subst ht; exact hGz
        have HG' := hid hG'
        have HPU := hid hpush
        have HF2 := hid hF2
        have HOL := hid hoL
        have HR2 := hid hrow2
        have HB0 := hid hob
        have HV2 := hid (hv2.resolve_left (fun h => h.1 he))
        have HPR := hid hpr
        clear hr2 hpush hF2 hoL hrow2 hob hv2 hpr hG' hO hR hd2 kb0 kb1 HP
        go_wp2_with (first | (go_at_call 8; refine (num_any _ _).mono ?_; rintro e _ ⟨rfl, rfl⟩) | (at_builtin; refine wpList_append_own_at _ rfl _ _ 23 rfl w1.heap.size 33 i0 (.agg #[.int .i64 0, .int .i64 0, .int .i64 0]) 3 24 Try.underlying23 hi hz0 hz1 hz2 rfl (by decide) _ _ _ rfl (HR2.out.alloc _) ⟨w2.heap.size, 0, none⟩ 1 1 [.int .i64 x, .int .i64 y, .int .i64 z] rfl rfl (cells_new3 w2 [.int .i64 x, .int .i64 y, .int .i64 z] 33) (by simp [Value.oneCell']) (by unfold maxLen; omega) (by omega) (by have := hkw2.size; simp; omega) ?_; intro v3 w3 hown3 hg3 hnn hob3; obtain ⟨g3, cap3, rfl⟩ := ownsRow_succ hown3))
        have hgA := g_alloc (g_refl w2 none) (.cells #[.int .i64 x, .int .i64 y, .int .i64 z] 33)
        have hsz2 : wr.heap.size ≤ w2.heap.size := hg2.size
        have hkw3 := (hkw2.grownN hgA).grown hg3 (fun r e => .inr (row_base HR2.out r e).1)
        have hF3 := (HF2.out.keptN hgA).kept hg3 (fun e => by have := (HPR.out p e.symm).1; omega) (fun r e e2 => by
          have h1 := HV2.out r e2
          have h2 := HPR.out r e
          omega)
        have hO3 := (HOL.out.keptN hgA).kept hg3 (fun r e e2 => by
          have h1 := HB0.out r e2
          have h2 := HPR.out r e
          omega)
        have hln : (ins ++ [(x, y, z)]).length = ins.length + 1 := by simp
        have hrow3 : w3.ownsRow w1.heap.size 33 3 (.slice (some ⟨g3, 0, none⟩) (ins.length + 1) cap3) (ins ++ [(x, y, z)]).length (flat3 (ins ++ [(x, y, z)])) := by
          rw [hln, flat3_append]; exact hown3
        have hI3 : L3 w3 (.slice (some ⟨g3, 0, none⟩) (ins.length + 1) cap3) (ins ++ [(x, y, z)]) := L3.own (by rw [hln]; omega) hrow3
        have hdis3 : ∀ r, (Value.slice (some ⟨g3, 0, none⟩) (ins.length + 1) cap3).ownBlock = some r → v'.ownBlock ≠ some r := fun r e e2 => by
          rcases hob3 with h | h
          · rw [h] at e
            have h3 := HV2.out r e2
            have h4 := HPR.out r e
            omega
          · rw [h] at e
            have h4 : (w2.alloc (.cells #[.int .i64 x, .int .i64 y, .int .i64 z] 33)).heap.size = r := by simpa using e
            simp at h4
            have h3 := HV2.out r e2
            omega
        obtain ⟨zs, hzs⟩ : ∃ zs, zs = ins ++ [(x, y, z)] := ⟨_, rfl⟩
        have hzl : zs.length = ins.length + 1 := by rw [hzs]; simp
        rw [← hzs] at hrow3 hI3
        have HPU' := hid (hzs ▸ HPU.out)
        have HG2 := hid (hzs ▸ HG'.out)
        rw [← hzl] at hrow3 hI3 hdis3 ⊢
        have hzl2 : zs.length ≤ 61 := by omega
        have HRW := hid hrow3
        have HI3 := hid hI3
        have HDI := hid hdis3
        have HF3 := hid hF3
        have HO3 := hid hO3
        have HW3 := hid hkw3
        have HZL := hid (rfl : zs.length = zs.length)
        have HIN := hid hzl
        clear hrow3 hI3 hdis3 hF3 hO3 hkw3 hzs hln hown3 hg3 hob3 HPU HG' hkw2 hgA hzl d0 d1 d2 HX HY HZ
        go_loopw [8, 12] (fun vg vq wr' => ∃ (q m : Nat), q ≤ O.length ∧ vq = .int .i64 q ∧ vg = .int .i64 ((gone + q : Nat) : Int) ∧ wr' = w3.drewN m) (fun _ v _ => O.length - (intOf v).toNat)
        case atStart => exact ⟨0, 0, Nat.zero_le _, rfl, rfl, rfl⟩
        case round =>
          obtain ⟨q, m, hq, rfl, rfl, rfl⟩ := hrel
          obtain ⟨gq, hgq⟩ : ∃ gq, gq = gone + q := ⟨_, rfl⟩
          rw [← hgq]
          have HGQ := hid hgq
          have hgle := HPU'.out.len
          by_cases hql : q < O.length
          · have hgl : gq < zs.length := by have := HZL.out; omega
            obtain ⟨⟨x1, y1, z1⟩, hi1⟩ : ∃ t, zs[gq]? = some t := ⟨zs[gq]'(by have := HZL.out; omega), List.getElem?_eq_getElem _⟩
            have hi2 : O[q]? = some (x1, y1, z1) := by rw [HPU'.out.out q hql, ← hgq]; exact hi1
            obtain ⟨g1, off1, c1, e1, u0, u1, u2⟩ := HI3.out.at hi1
            obtain ⟨g2, off2, c2, e2, t0, t1, t2⟩ := HO3.out.at hi2
            cases e1
            cases e2
            simp only [Nat.zero_add] at u0 u1 u2
            have hno := hid (hgq ▸ HPU'.out.no q hql)
            clear hi1 hi2 hgq
            go_wp2_with fail
            go_quiet (fail)
            go_wp2_with fail
            go_loopw [13, 14] (fun vs vn wr'' => ∃ (j : Nat), gq ≤ j ∧ j ≤ zs.length ∧ vn = .int .i64 j ∧ vs = .int .i64 (sum3 ((zs.take j).drop gq)) ∧ wr'' = w3.drewN (m + nq)) (fun _ v _ => zs.length - (intOf v).toNat)
            case atStart => exact ⟨gq, Nat.le_refl _, by omega, rfl, by simp [sum3], by simp⟩
            case round =>
              obtain ⟨j, hgj, hj, rfl, rfl, rfl⟩ := hrel
              have hGs := ((HG2.out.take j).drop gq).sum
              by_cases hjl : j < zs.length
              · obtain ⟨⟨x3, y3, z3⟩, hi3⟩ : ∃ t, zs[j]? = some t := ⟨zs[j]'(by have := HZL.out; omega), List.getElem?_eq_getElem _⟩
                obtain ⟨g4, off4, c4, e4, r0, r1, r2⟩ := HI3.out.at hi3
                cases e4
                simp only [Nat.zero_add] at r0 r1 r2
                have hz3 := HG2.out (x3, y3, z3) (List.mem_of_getElem? hi3)
                have hsm := hid (sum3_mid hi3 hgj)
                have hll : ((zs.take j).drop gq).length ≤ 61 := by simp; omega
                obtain ⟨S, hS⟩ : ∃ S, S = sum3 ((zs.take j).drop gq) := ⟨_, rfl⟩
                rw [← hS] at hGs hsm ⊢
                simp only [] at hz3
                clear hi3 hS
                go_wp2_with fail
                go_roundw
                case rel => exact ⟨j + 1, by omega, by omega, by go_num, by rw [hsm.out], by simp⟩
                case measure => simp [intOf]; omega
              · obtain rfl : j = zs.length := by omega
                have hT : zs.take zs.length = zs := List.take_length
                rw [hT] at hGs ⊢
                have hfit := hno.out
                unfold fits fitB at hfit
                have hdl : (zs.drop gq).length = zs.length - gq := by simp
                have hdl2 : ((zs.length - gq : Nat) : Int) = (zs.length : Int) - gq := by omega
                rw [hdl] at hfit hGs
                rw [hdl2] at hfit
                obtain ⟨S, hS⟩ : ∃ S, S = sum3 (zs.drop gq) := ⟨_, rfl⟩
                rw [← hS] at hGs hfit ⊢
                have hkq := (HW3.out.grownN (g_drewM (g_refl w3 none) (m + nq))).blk bB1 hnb
                have kb0 := hkq.cellOf (i := 0) rfl
                have kb1 := hkq.cellOf (i := 1) rfl
                have hGL := HGQ.out
                clear hS hT hdl hdl2
                by_cases hq1 : (zs.length : Int) - 1 - gq < M
                · have hq2 : decide ((zs.length : Int) - gq ≤ M) = true := by simp; omega
                  rw [hq2, Bool.true_and] at hfit
                  have hq3 : ¬ S ≤ Y := by simpa using hfit
                  clear hfit hq2 hGL
                  go_wp2_with fail
                  go_roundw
                  case rel => exact ⟨q + 1, m + nq, by omega, by go_num, by have := HGQ.out; go_num, by simp⟩
                  case measure => simp [intOf]; omega
                · clear hfit hGL
                  go_wp2_with fail
                  go_roundw
                  case rel => exact ⟨q + 1, m + nq, by omega, by go_num, by have := HGQ.out; go_num, by simp⟩
                  case measure => simp [intOf]; omega
          · obtain rfl : q = O.length := by omega
            have hRl : (R.length : Int) = (zs.length : Int) - gq := by
              rw [HPU'.out.rest, List.length_drop, ← hgq]
              have := HZL.out
              omega
            have hfM := HPU'.out.fit.1
            have hfY := HPU'.out.fit.2
            have hGR : Good R := by rw [HPU'.out.rest]; exact HG2.out.drop _
            have hLen := len_some p M Y v' R hGR (w3.drewN m) (HF3.out.keptN (g_drewM (g_refl w3 none) m))
            obtain ⟨S, hS⟩ : ∃ S, S = sum3 R := ⟨_, rfl⟩
            rw [← hS] at hLen hfY
            obtain ⟨L, hL⟩ : ∃ L : Int, L = R.length := ⟨_, rfl⟩
            rw [← hL] at hLen hfM hRl
            have HLen := hid hLen
            clear hLen hS hL hGR
            go_wp2_with fail
            refine HLen.out.mono ?_
            rintro e w4 ⟨rfl, hg4⟩
            have hkb := HW3.out.grownN (g_none (g_drewM (g_refl w3 none) m) hg4)
            have kb0 := (hkb.blk bB1 hnb).cellOf (i := 0) rfl
            have kb1 := (hkb.blk bB1 hnb).cellOf (i := 1) rfl
            subst hRl
            go_wp2_with fail
            go_roundw
            case rel =>
              have hg34 := g_none (g_drewM (row := none) (g_refl w3 none) m) hg4
              have hrw4 : w4.ownsRow w1.heap.size 33 3 (.slice (some ⟨g3, 0, none⟩) zs.length cap3) zs.length (flat3 zs) := HRW.out.kept hg34 (.inr (by simp [Value.ownBlock]))
              have hzn := HZL.out
              have hnn3 := HIN.out
              refine ⟨k + 1, gq, zs, v', _, cap3, by omega, by go_num, by have := HGQ.out; go_num, rfl, hrw4, ?_, by have := HPU'.out.len; have := HGQ.out; omega, by omega, HG2.out, HDI.out, hkb⟩
              have := HF3.out.keptN hg34
              rwa [HPU'.out.rest, ← HGQ.out] at this
            case measure => simp [intOf]; omega
    · go_wp2_with fail
      refine (works_true _).mono ?_
      rintro e w2 ⟨rfl, hg2⟩
      go_wp2
      go_ret
      exact ⟨rfl, g_none (HW.out.byOne hgW1 (fun b hb => by simp at hb; subst hb; exact .inr (by omega))) hg2⟩
end Go.Proofs.Ytjjkhbipeehljaa
