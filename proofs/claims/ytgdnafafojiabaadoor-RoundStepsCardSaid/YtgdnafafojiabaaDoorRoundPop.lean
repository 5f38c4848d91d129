/-
  Which numbers have one bit: the steps of the count, byte by byte.
-/
import Derived.Test.YtgdnafafojiabaaDoorRound
import Derived.Laws.Bits64b
import Derived.Laws.Bits128
namespace Go.Proofs.YtgdnafafojiabaaDoor
open Go.RowKit

def band (a b : Int) : Int := bits BinOp.and IntKind.u64 a b
def p1 (n : Int) : Int := IntKind.u64.wrap (band (n / 2) 6148914691236517205 + band n 6148914691236517205)
def p2 (n : Int) : Int := IntKind.u64.wrap (band (n / 4) 3689348814741910323 + band n 3689348814741910323)
def p3 (n : Int) : Int := band (IntKind.u64.wrap (n / 16 + n)) 1085102592571150095
def p4 (n : Int) : Int := IntKind.u64.wrap (n + n / 256)
def p5 (n : Int) : Int := IntKind.u64.wrap (n + n / 65536)
def p6 (n : Int) : Int := IntKind.u64.wrap (n + n / 4294967296)
def p7 (n : Int) : Int := bits BinOp.and IntKind.i64 (wrap64 n) 127
def popV (n : Int) : Int := p7 (p6 (p5 (p4 (p3 (p2 (p1 n))))))

def ofB : List Nat → Nat
  | [] => 0
  | b :: l => b + 256 * ofB l
theorem ofB_lt : ∀ (l : List Nat), (∀ b ∈ l, b < 256) → ofB l < 256 ^ l.length
  | [], _ => by simp [ofB]
  | b :: l, h => by
    have h1 := ofB_lt l (fun c hc => h c (by simp [hc]))
    have h2 := h b (by simp)
    simp only [ofB, List.length_cons, Nat.pow_succ]
    omega
theorem ofB_add (f g : Nat → Nat) : ∀ l : List Nat, ofB (l.map f) + ofB (l.map g) = ofB (l.map fun b => f b + g b)
  | [] => rfl
  | b :: l => by
    have := ofB_add f g l
    simp only [List.map_cons, ofB]
    omega
theorem and_byte (b c v u : Nat) (hb : b < 256) (hc : c < 256) : (b + 256 * v) &&& (c + 256 * u) = (b &&& c) + 256 * (v &&& u) := by
  have h1 : ((b + 256 * v) &&& (c + 256 * u)) % 2 ^ 8 = (b &&& c) := by
    rw [Nat.and_mod_two_pow]
    rw [show (b + 256 * v) % 2 ^ 8 = b by omega, show (c + 256 * u) % 2 ^ 8 = c by omega]
  have h2 : ((b + 256 * v) &&& (c + 256 * u)) / 2 ^ 8 = (v &&& u) := by
    rw [Nat.and_div_two_pow]
    rw [show (b + 256 * v) / 2 ^ 8 = v by omega, show (c + 256 * u) / 2 ^ 8 = u by omega]
  omega
theorem and_ofB (c : Nat) (hc : c < 256) : ∀ (l : List Nat), (∀ b ∈ l, b < 256) → ofB l &&& ofB (List.replicate l.length c) = ofB (l.map fun b => b &&& c)
  | [], _ => by simp [ofB]
  | b :: l, h => by
    have h1 := and_ofB c hc l (fun d hd => h d (by simp [hd]))
    simp only [ofB, List.length_cons, List.replicate_succ, List.map_cons]
    rw [and_byte _ _ _ _ (h b (by simp)) hc, h1]
theorem byte2 : ∀ (b : Fin 256) (e : Fin 2), (b.1 / 2 + 128 * e.1) &&& 85 = (b.1 / 2) &&& 85 := by decide +kernel
theorem byte4 : ∀ (b : Fin 256) (e : Fin 4), (b.1 / 4 + 64 * e.1) &&& 51 = (b.1 / 4) &&& 51 := by decide +kernel
theorem byte16 : ∀ (b : Fin 256) (e : Fin 5), b.1 / 16 ≤ 4 → b.1 % 16 ≤ 4 → (b.1 / 16 + 16 * e.1 + b.1) &&& 15 = b.1 / 16 + b.1 % 16 ∧ b.1 / 16 + 16 * e.1 + b.1 < 256 := by decide +kernel
theorem half_ofB : ∀ (l : List Nat), (∀ b ∈ l, b < 256) → (ofB l / 2) &&& ofB (List.replicate l.length 85) = ofB (l.map fun b => (b / 2) &&& 85)
  | [], _ => rfl
  | b :: l, h => by
    have h1 := half_ofB l (fun d hd => h d (by simp [hd]))
    have hb := h b (by simp)
    simp only [ofB, List.length_cons, List.replicate_succ, List.map_cons]
    rw [show (b + 256 * ofB l) / 2 = (b / 2 + 128 * (ofB l % 2)) + 256 * (ofB l / 2) by omega, and_byte _ _ _ _ (by omega) (by omega), h1, byte2 ⟨b, hb⟩ ⟨ofB l % 2, by omega⟩]
theorem quart_ofB : ∀ (l : List Nat), (∀ b ∈ l, b < 256) → (ofB l / 4) &&& ofB (List.replicate l.length 51) = ofB (l.map fun b => (b / 4) &&& 51)
  | [], _ => rfl
  | b :: l, h => by
    have h1 := quart_ofB l (fun d hd => h d (by simp [hd]))
    have hb := h b (by simp)
    simp only [ofB, List.length_cons, List.replicate_succ, List.map_cons]
    rw [show (b + 256 * ofB l) / 4 = (b / 4 + 64 * (ofB l % 4)) + 256 * (ofB l / 4) by omega, and_byte _ _ _ _ (by omega) (by omega), h1, byte4 ⟨b, hb⟩ ⟨ofB l % 4, by omega⟩]
def Nib (b : Nat) : Prop := b < 256 ∧ b / 16 ≤ 4 ∧ b % 16 ≤ 4
theorem low_ofB : ∀ (l : List Nat), (∀ b ∈ l, Nib b) → ofB l % 16 ≤ 4
  | [], _ => by simp [ofB]
  | b :: l, h => by
    have := (h b (by simp)).2.2
    simp only [ofB]
    omega
theorem nib_ofB : ∀ (l : List Nat), (∀ b ∈ l, Nib b) → (ofB l / 16 + ofB l) &&& ofB (List.replicate l.length 15) = ofB (l.map fun b => b / 16 + b % 16) ∧ ofB l / 16 + ofB l < 256 ^ l.length
  | [], _ => ⟨rfl, by simp [ofB]⟩
  | b :: l, h => by
    have h0 : ∀ d ∈ l, Nib d := fun d hd => h d (by simp [hd])
    obtain ⟨h1, h1'⟩ := nib_ofB l h0
    have hl := low_ofB l h0
    obtain ⟨hb, hb1, hb2⟩ := h b (by simp)
    obtain ⟨e1, e2⟩ := byte16 ⟨b, hb⟩ ⟨ofB l % 16, by omega⟩ hb1 hb2
    simp only at e1 e2
    simp only [ofB, List.length_cons, List.replicate_succ, List.map_cons, Nat.pow_succ]
    have e3 : (b + 256 * ofB l) / 16 + (b + 256 * ofB l) = (b / 16 + 16 * (ofB l % 16) + b) + 256 * (ofB l / 16 + ofB l) := by omega
    rw [e3, and_byte _ _ _ _ e2 (by omega), h1, e1]
    refine ⟨rfl, ?_⟩
    omega

def f1 (b : Nat) : Nat := ((b / 2) &&& 85) + (b &&& 85)
def f2 (b : Nat) : Nat := ((b / 4) &&& 51) + (b &&& 51)
def f3 (b : Nat) : Nat := b / 16 + b % 16
def pb (b : Nat) : Nat := f3 (f2 (f1 b))
theorem f1_lt : ∀ b : Fin 256, f1 b.1 < 256 := by decide +kernel
theorem f2_lt : ∀ b : Fin 256, f2 (f1 b.1) < 256 ∧ f2 (f1 b.1) / 16 ≤ 4 ∧ f2 (f1 b.1) % 16 ≤ 4 := by decide +kernel
theorem pb_le : ∀ b : Fin 256, pb b.1 ≤ 8 := by decide +kernel
theorem pb_zero : ∀ b : Fin 256, pb b.1 = 0 → b.1 = 0 := by decide +kernel
theorem pb_one : ∀ b : Fin 256, pb b.1 = 1 → ∃ j : Fin 8, b.1 = 2 ^ j.1 := by decide +kernel

def bytes8 (n : Nat) : List Nat := [n % 256, n / 256 % 256, n / 65536 % 256, n / 16777216 % 256, n / 4294967296 % 256, n / 1099511627776 % 256, n / 281474976710656 % 256, n / 72057594037927936 % 256]
theorem of_bytes8 (n : Nat) (h : n < 18446744073709551616) : ofB (bytes8 n) = n := by
  simp only [bytes8, ofB]
  omega
theorem bytes8_lt (n : Nat) : ∀ b ∈ bytes8 n, b < 256 := by
  intro b hb
  simp only [bytes8, List.mem_cons, List.not_mem_nil, or_false] at hb
  omega

theorem band_nat (a b : Nat) (ha : a < 18446744073709551616) (hb : b < 18446744073709551616) : band (a : Int) (b : Int) = ((a &&& b : Nat) : Int) := bits_and_u64_nat a b ha hb
theorem wrap_nat (a : Nat) (ha : a < 18446744073709551616) : IntKind.u64.wrap (a : Int) = (a : Int) := by rw [IntKind.wrap_u64]; omega
theorem lt8 {l : List Nat} (h : ∀ b ∈ l, b < 256) (hl : l.length = 8) : ofB l < 18446744073709551616 := by
  have := ofB_lt l h
  rw [hl] at this
  exact this

theorem p1_of (l : List Nat) (hl : l.length = 8) (h : ∀ b ∈ l, b < 256) : p1 (ofB l : Nat) = ((ofB (l.map f1) : Nat) : Int) := by
  have hn := lt8 h hl
  have h1 := half_ofB l h
  have h2 := and_ofB 85 (by omega) l h
  rw [hl, show ofB (List.replicate 8 85) = 6148914691236517205 by decide] at h1 h2
  have h3 : ofB (l.map f1) < 18446744073709551616 := lt8 (by
    intro b hb
    obtain ⟨c, hc, rfl⟩ := List.mem_map.1 hb
    exact f1_lt ⟨c, h c hc⟩) (by simp [hl])
  have h4 := ofB_add (fun b => (b / 2) &&& 85) (fun b => b &&& 85) l
  unfold p1
  rw [show ((ofB l : Nat) : Int) / 2 = ((ofB l / 2 : Nat) : Int) by omega, show (6148914691236517205 : Int) = ((6148914691236517205 : Nat) : Int) from rfl,
    band_nat _ _ (by omega) (by omega), band_nat _ _ hn (by omega), h1, h2, ← Int.natCast_add, h4]
  exact wrap_nat _ h3
theorem p2_of (l : List Nat) (hl : l.length = 8) (h : ∀ b ∈ l, b < 256) (h' : ∀ b ∈ l, f2 b < 256) : p2 (ofB l : Nat) = ((ofB (l.map f2) : Nat) : Int) := by
  have hn := lt8 h hl
  have h1 := quart_ofB l h
  have h2 := and_ofB 51 (by omega) l h
  rw [hl, show ofB (List.replicate 8 51) = 3689348814741910323 by decide] at h1 h2
  have h3 : ofB (l.map f2) < 18446744073709551616 := lt8 (by
    intro b hb
    obtain ⟨c, hc, rfl⟩ := List.mem_map.1 hb
    exact h' c hc) (by simp [hl])
  have h4 := ofB_add (fun b => (b / 4) &&& 51) (fun b => b &&& 51) l
  unfold p2
  rw [show ((ofB l : Nat) : Int) / 4 = ((ofB l / 4 : Nat) : Int) by omega, show (3689348814741910323 : Int) = ((3689348814741910323 : Nat) : Int) from rfl,
    band_nat _ _ (by omega) (by omega), band_nat _ _ hn (by omega), h1, h2, ← Int.natCast_add, h4]
  exact wrap_nat _ h3
theorem p3_of (l : List Nat) (hl : l.length = 8) (h : ∀ b ∈ l, Nib b) : p3 (ofB l : Nat) = ((ofB (l.map f3) : Nat) : Int) := by
  have hn := lt8 (fun b hb => (h b hb).1) hl
  obtain ⟨h1, h2⟩ := nib_ofB l h
  rw [hl] at h1 h2
  rw [show ofB (List.replicate 8 15) = 1085102592571150095 by decide] at h1
  rw [show (256 : Nat) ^ 8 = 18446744073709551616 by decide] at h2
  unfold p3
  rw [show ((ofB l : Nat) : Int) / 16 = ((ofB l / 16 : Nat) : Int) by omega, ← Int.natCast_add, wrap_nat _ h2, show (1085102592571150095 : Int) = ((1085102592571150095 : Nat) : Int) from rfl,
    band_nat _ _ h2 (by omega), h1]
  rfl
theorem eight_le (g0 g1 g2 g3 g4 g5 g6 g7 : Nat) (h0 : g0 ≤ 8) (h1 : g1 ≤ 8) (h2 : g2 ≤ 8) (h3 : g3 ≤ 8) (h4 : g4 ≤ 8) (h5 : g5 ≤ 8) (h6 : g6 ≤ 8) (h7 : g7 ≤ 8) :
    p6 (p5 (p4 ((ofB [g0, g1, g2, g3, g4, g5, g6, g7] : Nat) : Int))) % 256 = ((g0 + g1 + g2 + g3 + g4 + g5 + g6 + g7 : Nat) : Int) ∧ 0 ≤ p6 (p5 (p4 ((ofB [g0, g1, g2, g3, g4, g5, g6, g7] : Nat) : Int))) ∧ p6 (p5 (p4 ((ofB [g0, g1, g2, g3, g4, g5, g6, g7] : Nat) : Int))) < 9223372036854775808 := by
  have e4 : p4 ((ofB [g0, g1, g2, g3, g4, g5, g6, g7] : Nat) : Int) = ((ofB [g0 + g1, g1 + g2, g2 + g3, g3 + g4, g4 + g5, g5 + g6, g6 + g7, g7] : Nat) : Int) := by
    unfold p4
    rw [show ((ofB [g0, g1, g2, g3, g4, g5, g6, g7] : Nat) : Int) / 256 = ((ofB [g1, g2, g3, g4, g5, g6, g7] : Nat) : Int) by simp only [ofB]; omega, ← Int.natCast_add,
      wrap_nat _ (by simp only [ofB]; omega)]
    simp only [ofB]
    omega
  rw [e4]
  have e5 : p5 ((ofB [g0 + g1, g1 + g2, g2 + g3, g3 + g4, g4 + g5, g5 + g6, g6 + g7, g7] : Nat) : Int) = ((ofB [g0 + g1 + (g2 + g3), g1 + g2 + (g3 + g4), g2 + g3 + (g4 + g5), g3 + g4 + (g5 + g6), g4 + g5 + (g6 + g7), g5 + g6 + g7, g6 + g7, g7] : Nat) : Int) := by
    unfold p5
    rw [show ((ofB [g0 + g1, g1 + g2, g2 + g3, g3 + g4, g4 + g5, g5 + g6, g6 + g7, g7] : Nat) : Int) / 65536 = ((ofB [g2 + g3, g3 + g4, g4 + g5, g5 + g6, g6 + g7, g7] : Nat) : Int) by simp only [ofB]; omega, ← Int.natCast_add,
      wrap_nat _ (by simp only [ofB]; omega)]
    simp only [ofB]
    omega
  rw [e5]
  generalize hA : g0 + g1 + (g2 + g3) = A
  generalize hB : g1 + g2 + (g3 + g4) = B
  generalize hC : g2 + g3 + (g4 + g5) = C
  generalize hD : g3 + g4 + (g5 + g6) = D
  generalize hE : g4 + g5 + (g6 + g7) = E
  generalize hF : g5 + g6 + g7 = F
  generalize hG : g6 + g7 = G
  have e6 : p6 ((ofB [A, B, C, D, E, F, G, g7] : Nat) : Int) = ((ofB [A + E, B + F, C + G, D + g7, E, F, G, g7] : Nat) : Int) := by
    unfold p6
    rw [show ((ofB [A, B, C, D, E, F, G, g7] : Nat) : Int) / 4294967296 = ((ofB [E, F, G, g7] : Nat) : Int) by simp only [ofB]; omega, ← Int.natCast_add,
      wrap_nat _ (by simp only [ofB]; omega)]
    simp only [ofB]
    omega
  rw [e6]
  simp only [ofB]
  refine ⟨?_, ?_, ?_⟩ <;> omega

theorem popV_of (n : Nat) (h : n < 18446744073709551616) : popV (n : Int) =
    ((pb (n % 256) + pb (n / 256 % 256) + pb (n / 65536 % 256) + pb (n / 16777216 % 256) + pb (n / 4294967296 % 256) + pb (n / 1099511627776 % 256) + pb (n / 281474976710656 % 256) + pb (n / 72057594037927936 % 256) : Nat) : Int) := by
  have hb := bytes8_lt n
  have hn : popV (n : Int) = popV ((ofB (bytes8 n) : Nat) : Int) := by rw [of_bytes8 n h]
  rw [hn]
  unfold popV
  rw [p1_of _ rfl hb, p2_of _ rfl (by
    intro b hb'
    obtain ⟨c, hc, rfl⟩ := List.mem_map.1 hb'
    exact f1_lt ⟨c, hb c hc⟩) (by
    intro b hb'
    obtain ⟨c, hc, rfl⟩ := List.mem_map.1 hb'
    exact (f2_lt ⟨c, hb c hc⟩).1), p3_of _ rfl (by
    intro b hb'
    obtain ⟨d, hd, rfl⟩ := List.mem_map.1 hb'
    obtain ⟨c, hc, rfl⟩ := List.mem_map.1 hd
    exact f2_lt ⟨c, hb c hc⟩)]
  have hl : ∀ m : Nat, pb (m % 256) ≤ 8 := fun m => pb_le ⟨m % 256, by omega⟩
  obtain ⟨e1, e2, e3⟩ := eight_le _ _ _ _ _ _ _ _ (hl n) (hl (n / 256)) (hl (n / 65536)) (hl (n / 16777216)) (hl (n / 4294967296)) (hl (n / 1099511627776)) (hl (n / 281474976710656)) (hl (n / 72057594037927936))
  have e4 : List.map f3 (List.map f2 (List.map f1 (bytes8 n))) = [pb (n % 256), pb (n / 256 % 256), pb (n / 65536 % 256), pb (n / 16777216 % 256), pb (n / 4294967296 % 256), pb (n / 1099511627776 % 256), pb (n / 281474976710656 % 256), pb (n / 72057594037927936 % 256)] := rfl
  rw [e4]
  have l0 := hl n
  have l1 := hl (n / 256)
  have l2 := hl (n / 65536)
  have l3 := hl (n / 16777216)
  have l4 := hl (n / 4294967296)
  have l5 := hl (n / 1099511627776)
  have l6 := hl (n / 281474976710656)
  have l7 := hl (n / 72057594037927936)
  generalize p6 _ = Q at *
  generalize pb (n % 256) = g0 at *
  generalize pb (n / 256 % 256) = g1 at *
  generalize pb (n / 65536 % 256) = g2 at *
  generalize pb (n / 16777216 % 256) = g3 at *
  generalize pb (n / 4294967296 % 256) = g4 at *
  generalize pb (n / 1099511627776 % 256) = g5 at *
  generalize pb (n / 281474976710656 % 256) = g6 at *
  generalize pb (n / 72057594037927936 % 256) = g7 at *
  clear e4 hn
  unfold p7
  have hw : wrap64 Q = Q := by unfold wrap64; omega
  rw [hw, i64_and127]
  omega

theorem pow_pop : ∀ k : Fin 64, popV ((2 ^ k.1 : Nat) : Int) = 1 := by decide +kernel
set_option maxHeartbeats 4000000 in
theorem pop_pow (n : Nat) (h : n < 18446744073709551616) (h1 : popV (n : Int) = 1) : ∃ k : Nat, k < 64 ∧ n = 2 ^ k := by
  rw [popV_of n h] at h1
  have hz : ∀ m : Nat, pb (m % 256) = 0 → m % 256 = 0 := fun m => pb_zero ⟨m % 256, by omega⟩
  have ho : ∀ m : Nat, pb (m % 256) = 1 → ∃ j : Nat, j < 8 ∧ m % 256 = 2 ^ j := fun m hm => by
    obtain ⟨j, hj⟩ := pb_one ⟨m % 256, by omega⟩ hm
    exact ⟨j.1, j.2, hj⟩
  have z0 := hz n
  have z1 := hz (n / 256)
  have z2 := hz (n / 65536)
  have z3 := hz (n / 16777216)
  have z4 := hz (n / 4294967296)
  have z5 := hz (n / 1099511627776)
  have z6 := hz (n / 281474976710656)
  have z7 := hz (n / 72057594037927936)
  have fin : ∀ (i j : Nat), i < 8 → j < 8 → n = 256 ^ i * 2 ^ j → ∃ k : Nat, k < 64 ∧ n = 2 ^ k := fun i j hi hj e => ⟨8 * i + j, by omega, by rw [e, Nat.pow_add, Nat.pow_mul]⟩
  have hn := of_bytes8 n h
  simp only [bytes8, ofB] at hn
  by_cases c0 : pb (n % 256) = 1
  · obtain ⟨j, hj, e⟩ := ho _ c0
    refine fin 0 j (by omega) hj ?_
    rw [← e]
    omega
  by_cases c1 : pb (n / 256 % 256) = 1
  · obtain ⟨j, hj, e⟩ := ho _ c1
    refine fin 1 j (by omega) hj ?_
    rw [← e]
    omega
  by_cases c2 : pb (n / 65536 % 256) = 1
  · obtain ⟨j, hj, e⟩ := ho _ c2
    refine fin 2 j (by omega) hj ?_
    rw [← e]
    omega
  by_cases c3 : pb (n / 16777216 % 256) = 1
  · obtain ⟨j, hj, e⟩ := ho _ c3
    refine fin 3 j (by omega) hj ?_
    rw [← e]
    omega
  by_cases c4 : pb (n / 4294967296 % 256) = 1
  · obtain ⟨j, hj, e⟩ := ho _ c4
    refine fin 4 j (by omega) hj ?_
    rw [← e]
    omega
  by_cases c5 : pb (n / 1099511627776 % 256) = 1
  · obtain ⟨j, hj, e⟩ := ho _ c5
    refine fin 5 j (by omega) hj ?_
    rw [← e]
    omega
  by_cases c6 : pb (n / 281474976710656 % 256) = 1
  · obtain ⟨j, hj, e⟩ := ho _ c6
    refine fin 6 j (by omega) hj ?_
    rw [← e]
    omega
  · have c7 : pb (n / 72057594037927936 % 256) = 1 := by omega
    obtain ⟨j, hj, e⟩ := ho _ c7
    refine fin 7 j (by omega) hj ?_
    rw [← e]
    omega
end Go.Proofs.YtgdnafafojiabaaDoor
