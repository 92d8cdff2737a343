/-
  BITBOARD (chapter 05): the number of bits of a number.
-/
import Derived.Test.YtakchekhpeokjaaDoorD05r
namespace Go.Proofs.YtakchekhpeokjaaDoor
open Go.Va

/-- A number by its digits. -/
def V (B : Nat) : List Nat → Nat
  | [] => 0
  | a :: l => a + B * V B l
theorem V_add (B : Nat) : ∀ {l m : List Nat}, l.length = m.length → V B l + V B m = V B (List.zipWith (· + ·) l m)
  | [], [], _ => rfl
  | a :: l, b :: m, h => by
    have := V_add B (l := l) (m := m) (by simpa using h)
    show a + B * V B l + (b + B * V B m) = a + b + B * V B (List.zipWith (· + ·) l m)
    rw [← this, Nat.mul_add]; omega
  | [], _ :: _, h => by cases h
  | _ :: _, [], h => by cases h
theorem V_lt {B : Nat} (hB : 0 < B) : ∀ {l : List Nat}, (∀ a ∈ l, a < B) → V B l < B ^ l.length
  | [], _ => by simp [V]
  | a :: l, h => by
    have h1 := V_lt hB (l := l) fun b hb => h b (List.mem_cons_of_mem _ hb)
    have h2 := h a (List.mem_cons_self ..)
    show a + B * V B l < B ^ (l.length + 1)
    rw [Nat.pow_succ, Nat.mul_comm _ B]
    have : B * (V B l + 1) ≤ B * B ^ l.length := Nat.mul_le_mul_left B h1
    rw [Nat.mul_add, Nat.mul_one] at this
    omega
theorem V_div {B a : Nat} {l : List Nat} (h : a < B) : V B (a :: l) / B = V B l := by
  show (a + B * V B l) / B = V B l
  rw [Nat.add_mul_div_left _ _ (by omega), Nat.div_eq_of_lt h, Nat.zero_add]
theorem and_split (w : Nat) {a c : Nat} (b d : Nat) (ha : a < 2 ^ w) (hc : c < 2 ^ w) : (a + 2 ^ w * b) &&& (c + 2 ^ w * d) = (a &&& c) + 2 ^ w * (b &&& d) := by
  refine Nat.eq_of_testBit_eq fun j => ?_
  rw [Nat.testBit_and, Nat.add_comm a, Nat.add_comm c, Nat.add_comm (a &&& c), Nat.testBit_two_pow_mul_add _ ha, Nat.testBit_two_pow_mul_add _ hc, Nat.testBit_two_pow_mul_add _ (Nat.and_lt_two_pow _ hc)]
  split
  · rw [Nat.testBit_and]
  · rw [Nat.testBit_and]
theorem shr_split (w s : Nat) {a c : Nat} (b d : Nat) (hs : s ≤ w) (ha : a < 2 ^ w) (hc : c < 2 ^ (w - s)) : ((a + 2 ^ w * b) >>> s) &&& (c + 2 ^ w * d) = ((a >>> s) &&& c) + 2 ^ w * ((b >>> s) &&& d) := by
  have hc' : c < 2 ^ w := Nat.lt_of_lt_of_le hc (Nat.pow_le_pow_right (by omega) (by omega))
  refine Nat.eq_of_testBit_eq fun j => ?_
  rw [Nat.testBit_and, Nat.testBit_shiftRight, Nat.add_comm a, Nat.add_comm c, Nat.add_comm (a >>> s &&& c), Nat.testBit_two_pow_mul_add _ ha, Nat.testBit_two_pow_mul_add _ hc', Nat.testBit_two_pow_mul_add _ (Nat.and_lt_two_pow _ hc')]
  by_cases h : j < w
  · rw [if_pos h, if_pos h, Nat.testBit_and, Nat.testBit_shiftRight]
    by_cases h2 : s + j < w
    · rw [if_pos h2]
    · have : c.testBit j = false := Nat.testBit_lt_two_pow (Nat.lt_of_lt_of_le hc (Nat.pow_le_pow_right (by omega) (by omega)))
      rw [this, Bool.and_false, Bool.and_false]
  · rw [if_neg h, if_neg h, Nat.testBit_and, Nat.testBit_shiftRight, if_neg (by omega), show s + j - w = s + (j - w) by omega]
theorem V_and : ∀ {l m : List Nat}, l.length = m.length → (∀ a ∈ l, a < 16) → (∀ a ∈ m, a < 16) → V 16 l &&& V 16 m = V 16 (List.zipWith (· &&& ·) l m)
  | [], [], _, _, _ => rfl
  | a :: l, b :: m, h, hl, hm => by
    have := V_and (l := l) (m := m) (by simpa using h) (fun x hx => hl x (List.mem_cons_of_mem _ hx)) fun x hx => hm x (List.mem_cons_of_mem _ hx)
    show (a + 16 * V 16 l) &&& (b + 16 * V 16 m) = (a &&& b) + 16 * V 16 (List.zipWith (· &&& ·) l m)
    rw [← this]
    exact and_split 4 _ _ (hl a (List.mem_cons_self ..)) (hm b (List.mem_cons_self ..))
  | [], _ :: _, h, _, _ => by cases h
  | _ :: _, [], h, _, _ => by cases h
theorem V_shr (s c : Nat) (hs : s ≤ 4) (hc : c < 2 ^ (4 - s)) : ∀ {l : List Nat}, (∀ a ∈ l, a < 16) → (V 16 l >>> s) &&& V 16 (List.replicate l.length c) = V 16 (l.map fun a => (a >>> s) &&& c)
  | [], _ => by simp [V]
  | a :: l, hl => by
    have := V_shr s c hs hc (l := l) fun x hx => hl x (List.mem_cons_of_mem _ hx)
    show ((a + 16 * V 16 l) >>> s) &&& (c + 16 * V 16 (List.replicate l.length c)) = ((a >>> s) &&& c) + 16 * V 16 (l.map fun a => (a >>> s) &&& c)
    rw [← this]
    exact shr_split 4 s _ _ hs (hl a (List.mem_cons_self ..)) hc
theorem zip_rep (c : Nat) : ∀ l : List Nat, List.zipWith (· &&& ·) l (List.replicate l.length c) = l.map fun a => a &&& c
  | [] => rfl
  | a :: l => by
    show (a &&& c) :: List.zipWith (· &&& ·) l (List.replicate l.length c) = _
    rw [zip_rep c l]; rfl
/-- One step: neighbours are added. -/
theorem V_step (s c : Nat) (hs : s ≤ 4) (hc : c < 2 ^ (4 - s)) {l : List Nat} (hl : ∀ a ∈ l, a < 16) : ((V 16 l >>> s) &&& V 16 (List.replicate l.length c)) + (V 16 l &&& V 16 (List.replicate l.length c)) = V 16 (l.map fun a => ((a >>> s) &&& c) + (a &&& c)) := by
  have hc' : c < 16 := Nat.lt_of_lt_of_le hc (show 2 ^ (4 - s) ≤ 2 ^ 4 from Nat.pow_le_pow_right (by omega) (by omega))
  rw [V_shr s c hs hc hl, V_and (by simp) hl (by simp; omega), V_add _ (by simp), zip_rep]
  congr 1
  induction l with
  | nil => rfl
  | cons a l ih => rw [List.map_cons, List.map_cons, List.map_cons, List.zipWith_cons_cons, ih fun x hx => hl x (List.mem_cons_of_mem _ hx)]

def g1 (a : Nat) : Nat := ((a >>> 1) &&& 5) + (a &&& 5)
def g2 (a : Nat) : Nat := ((a >>> 2) &&& 3) + (a &&& 3)
def pn (a : Nat) : Nat := g2 (g1 a)
def tb (n j : Nat) : Nat := bif n.testBit j then 1 else 0
theorem pn_all : ((List.range 16).all fun a => decide (g1 a < 16) && decide (pn a ≤ 4) && decide (pn a = tb a 0 + tb a 1 + tb a 2 + tb a 3)) = true := by decide +kernel
theorem pn_ok {a : Nat} (h : a < 16) : g1 a < 16 ∧ pn a ≤ 4 ∧ pn a = tb a 0 + tb a 1 + tb a 2 + tb a 3 := by
  have := List.all_eq_true.1 pn_all a (List.mem_range.2 h)
  simp only [Bool.and_eq_true, decide_eq_true_eq] at this
  exact ⟨this.1.1, this.1.2, this.2⟩
def dig : Nat → Nat → List Nat
  | 0, _ => []
  | k + 1, n => n % 16 :: dig k (n / 16)
theorem dig_lt : ∀ (k n : Nat), ∀ a ∈ dig k n, a < 16
  | 0, _, _, h => by cases h
  | k + 1, n, a, h => by
    rcases List.mem_cons.1 h with rfl | h
    · omega
    · exact dig_lt k _ a h
theorem V_dig : ∀ (k n : Nat), n < 16 ^ k → V 16 (dig k n) = n
  | 0, n, h => by simp at h; simp [dig, V, h]
  | k + 1, n, h => by
    show n % 16 + 16 * V 16 (dig k (n / 16)) = n
    rw [V_dig k (n / 16) (by rw [Nat.pow_succ] at h; omega)]
    omega
theorem count_dig : ∀ (k n : Nat), ((List.range (4 * k)).filter n.testBit).length = ((dig k n).map pn).sum
  | 0, _ => rfl
  | k + 1, n => by
    have ih := count_dig k (n / 16)
    have e4 : List.range (4 * (k + 1)) = [0, 1, 2, 3] ++ (List.range (4 * k)).map (· + 4) := by
      rw [show 4 * (k + 1) = 4 + 4 * k by omega, List.range_add]
      congr 1
      exact List.map_congr_left fun a _ => Nat.add_comm 4 a
    have e5 : ∀ j, (n / 16).testBit j = n.testBit (j + 4) := fun j => by
      rw [show n / 16 = n / 2 ^ 4 from rfl, Nat.testBit_div_two_pow, Nat.add_comm]
    have e6 : (((List.range (4 * k)).map (· + 4)).filter n.testBit).length = ((List.range (4 * k)).filter (n / 16).testBit).length := by
      rw [List.filter_map, List.length_map]
      congr 2
      funext j; exact (e5 j).symm
    have e7 : ∀ j, j < 4 → tb (n % 16) j = tb n j := fun j hj => by
      unfold tb
      rw [show n % 16 = n % 2 ^ 4 from rfl, Nat.testBit_mod_two_pow, decide_eq_true hj, Bool.true_and]
    rw [e4, List.filter_append, List.length_append, e6, ih]
    show _ = pn (n % 16) + ((dig k (n / 16)).map pn).sum
    rw [(pn_ok (by omega : n % 16 < 16)).2.2, e7 0 (by omega), e7 1 (by omega), e7 2 (by omega), e7 3 (by omega)]
    congr 1
    unfold tb
    cases h0 : n.testBit 0 <;> cases h1 : n.testBit 1 <;> cases h2 : n.testBit 2 <;> cases h3 : n.testBit 3 <;> simp [List.filter, h0, h1, h2, h3]
theorem bits_count (x : BitVec 64) : (bitsL x).length = ((dig 16 x.toNat).map pn).sum := count_dig 16 x.toNat

theorem addS_u (x y : BitVec 64) : addS (u x) (u y) = u (x + y) := by
  unfold addS
  rw [show u x + u y = ((x.toNat + y.toNat : Nat) : Int) by unfold u; simp, wrap_nat]
  rfl
def st1 (x : BitVec 64) : BitVec 64 := (x >>> 1 &&& 6148914691236517205#64) + (x &&& 6148914691236517205#64)
def st2 (x : BitVec 64) : BitVec 64 := (x >>> 2 &&& 3689348814741910323#64) + (x &&& 3689348814741910323#64)
def st3 (x : BitVec 64) : BitVec 64 := (x >>> 4 + x) &&& 1085102592571150095#64
def st4 (x : BitVec 64) : BitVec 64 := x + x >>> 8
def st5 (x : BitVec 64) : BitVec 64 := x + x >>> 16
def st6 (x : BitVec 64) : BitVec 64 := x + x >>> 32
theorem and15 {e : Nat} (h : e < 16) : e &&& 15 = e := by
  rw [show (15 : Nat) = 2 ^ 4 - 1 from rfl, Nat.and_two_pow_sub_one_eq_mod]; omega
theorem add_nat {x y : BitVec 64} {n : Nat} (h : x.toNat + y.toNat = n) (hn : n < 18446744073709551616) : (x + y).toNat = n := by
  rw [BitVec.toNat_add, h]; exact Nat.mod_eq_of_lt hn
theorem dig_len : ∀ k n : Nat, (dig k n).length = k
  | 0, _ => rfl
  | k + 1, n => congrArg (· + 1) (dig_len k (n / 16))
theorem V_lt16 {l : List Nat} (hl : l.length = 16) (h : ∀ a ∈ l, a < 16) : V 16 l < 18446744073709551616 := by
  have := V_lt (B := 16) (by omega) h
  rw [hl] at this
  exact this
theorem V_lt8 {l : List Nat} (hl : l.length = 8) (h : ∀ a ∈ l, a < 256) : V 256 l < 18446744073709551616 := by
  have := V_lt (B := 256) (by omega) h
  rw [hl] at this
  exact this
theorem rep5 : V 16 (List.replicate 16 5) = 6148914691236517205 := by decide +kernel
theorem rep3 : V 16 (List.replicate 16 3) = 3689348814741910323 := by decide +kernel
theorem repF : V 16 [15, 0, 15, 0, 15, 0, 15, 0, 15, 0, 15, 0, 15, 0, 15, 0] = 1085102592571150095 := by decide +kernel
theorem st1_nat (x : BitVec 64) : (st1 x).toNat = V 16 ((dig 16 x.toNat).map g1) := by
  have h := V_step 1 5 (by omega) (by omega) (l := dig 16 x.toNat) (dig_lt 16 _)
  rw [V_dig 16 x.toNat x.isLt, dig_len, rep5] at h
  unfold st1
  refine add_nat ?_ (V_lt16 (by rw [List.length_map, dig_len]) fun a ha => ?_)
  · rw [BitVec.toNat_and, BitVec.toNat_ushiftRight, BitVec.toNat_and]
    exact h
  · obtain ⟨b, hb, rfl⟩ := List.mem_map.1 ha
    exact (pn_ok (dig_lt 16 _ b hb)).1
theorem st2_nat (x : BitVec 64) : (st2 (st1 x)).toNat = V 16 ((dig 16 x.toNat).map pn) := by
  have hlt : ∀ a ∈ (dig 16 x.toNat).map g1, a < 16 := fun a ha => by
    obtain ⟨b, hb, rfl⟩ := List.mem_map.1 ha
    exact (pn_ok (dig_lt 16 _ b hb)).1
  have h := V_step 2 3 (by omega) (by omega) (l := (dig 16 x.toNat).map g1) hlt
  rw [List.map_map, List.length_map, dig_len, rep3, ← st1_nat] at h
  unfold st2
  refine add_nat ?_ (V_lt16 (by rw [List.length_map, dig_len]) fun a ha => ?_)
  · rw [BitVec.toNat_and, BitVec.toNat_ushiftRight, BitVec.toNat_and]
    exact h
  · obtain ⟨b, hb, rfl⟩ := List.mem_map.1 ha
    have := (pn_ok (dig_lt 16 _ b hb)).2.1
    omega
theorem V_drop : ∀ (k : Nat) (l : List Nat), (∀ a ∈ l, a < 256) → V 256 l / 2 ^ (8 * k) = V 256 (l.drop k)
  | 0, l, _ => by simp
  | k + 1, [], _ => by simp [V]
  | k + 1, a :: l, h => by
    rw [show 2 ^ (8 * (k + 1)) = 256 * 2 ^ (8 * k) by rw [show 8 * (k + 1) = 8 + 8 * k by omega, Nat.pow_add], ← Nat.div_div_eq_div_mul, V_div (h a (List.mem_cons_self ..)), V_drop k l fun b hb => h b (List.mem_cons_of_mem _ hb)]
    rfl
theorem step_nat {y : BitVec 64} (k : Nat) {Q R S : List Nat} (h1 : y.toNat = V 256 Q) (hQ : ∀ a ∈ Q, a < 256) (h2 : V 256 (Q.drop k) = V 256 R) (h3 : List.zipWith (· + ·) Q R = S) (h4 : Q.length = R.length) (h5 : ∀ a ∈ S, a < 256) (h6 : S.length = 8) : (y + y >>> (8 * k)).toNat = V 256 S := by
  refine add_nat ?_ (V_lt8 h6 h5)
  rw [BitVec.toNat_ushiftRight, Nat.shiftRight_eq_div_pow, h1, V_drop k Q hQ, h2, V_add 256 h4, h3]
theorem fin_nat {y : BitVec 64} {q0 q1 q2 q3 q4 q5 q6 q7 : Nat} (hy : y.toNat = V 256 [q0, q1, q2, q3, q4, q5, q6, q7]) (h0 : q0 ≤ 8) (h1 : q1 ≤ 8) (h2 : q2 ≤ 8) (h3 : q3 ≤ 8) (h4 : q4 ≤ 8) (h5 : q5 ≤ 8) (h6 : q6 ≤ 8) (h7 : q7 ≤ 8) :
    (st6 (st5 (st4 y))).toNat % 128 = q0 + q1 + q2 + q3 + q4 + q5 + q6 + q7 := by
  have a4 : (st4 y).toNat = V 256 [(q0 + q1), (q1 + q2), (q2 + q3), (q3 + q4), (q4 + q5), (q5 + q6), (q6 + q7), (q7 + 0)] :=
    step_nat 1 (R := [q1, q2, q3, q4, q5, q6, q7, 0]) hy (by simp only [List.mem_cons, List.not_mem_nil, or_false]; omega) (by simp [V]) rfl rfl (by simp only [List.mem_cons, List.not_mem_nil, or_false]; omega) rfl
  have a5 : (st5 (st4 y)).toNat = V 256 [((q0 + q1) + (q2 + q3)), ((q1 + q2) + (q3 + q4)), ((q2 + q3) + (q4 + q5)), ((q3 + q4) + (q5 + q6)), ((q4 + q5) + (q6 + q7)), ((q5 + q6) + (q7 + 0)), ((q6 + q7) + 0), ((q7 + 0) + 0)] :=
    step_nat 2 (R := [(q2 + q3), (q3 + q4), (q4 + q5), (q5 + q6), (q6 + q7), (q7 + 0), 0, 0]) a4 (by simp only [List.mem_cons, List.not_mem_nil, or_false]; omega) (by simp [V]) rfl rfl (by simp only [List.mem_cons, List.not_mem_nil, or_false]; omega) rfl
  have a6 : (st6 (st5 (st4 y))).toNat = V 256 [(((q0 + q1) + (q2 + q3)) + ((q4 + q5) + (q6 + q7))), (((q1 + q2) + (q3 + q4)) + ((q5 + q6) + (q7 + 0))), (((q2 + q3) + (q4 + q5)) + ((q6 + q7) + 0)), (((q3 + q4) + (q5 + q6)) + ((q7 + 0) + 0)), (((q4 + q5) + (q6 + q7)) + 0), (((q5 + q6) + (q7 + 0)) + 0), (((q6 + q7) + 0) + 0), (((q7 + 0) + 0) + 0)] :=
    step_nat 4 (R := [((q4 + q5) + (q6 + q7)), ((q5 + q6) + (q7 + 0)), ((q6 + q7) + 0), ((q7 + 0) + 0), 0, 0, 0, 0]) a5 (by simp only [List.mem_cons, List.not_mem_nil, or_false]; omega) (by simp [V]) rfl rfl (by simp only [List.mem_cons, List.not_mem_nil, or_false]; omega) rfl
  rw [a6]
  show ((((q0 + q1) + (q2 + q3)) + ((q4 + q5) + (q6 + q7))) + 256 * _) % 128 = _
  omega
def inter : List Nat → List Nat
  | [] => []
  | a :: l => a :: 0 :: inter l
theorem V_inter : ∀ l, V 16 (inter l) = V 256 l
  | [] => rfl
  | a :: l => by
    show a + 16 * (0 + 16 * V 16 (inter l)) = a + 256 * V 256 l
    rw [V_inter l]; omega
theorem st3_nat {x : BitVec 64} {d0 d1 d2 d3 d4 d5 d6 d7 d8 d9 d10 d11 d12 d13 d14 d15 : Nat} (hx : x.toNat = V 16 [d0, d1, d2, d3, d4, d5, d6, d7, d8, d9, d10, d11, d12, d13, d14, d15])
    (h0 : d0 ≤ 4) (h1 : d1 ≤ 4) (h2 : d2 ≤ 4) (h3 : d3 ≤ 4) (h4 : d4 ≤ 4) (h5 : d5 ≤ 4) (h6 : d6 ≤ 4) (h7 : d7 ≤ 4) (h8 : d8 ≤ 4) (h9 : d9 ≤ 4) (h10 : d10 ≤ 4) (h11 : d11 ≤ 4) (h12 : d12 ≤ 4) (h13 : d13 ≤ 4) (h14 : d14 ≤ 4) (h15 : d15 ≤ 4) :
    (st3 x).toNat = V 256 [d1 + d0, d3 + d2, d5 + d4, d7 + d6, d9 + d8, d11 + d10, d13 + d12, d15 + d14] := by
  have a : (x >>> 4 + x).toNat = V 16 [d1 + d0, d2 + d1, d3 + d2, d4 + d3, d5 + d4, d6 + d5, d7 + d6, d8 + d7, d9 + d8, d10 + d9, d11 + d10, d12 + d11, d13 + d12, d14 + d13, d15 + d14, 0 + d15] := by
    refine add_nat ?_ (V_lt16 rfl ?_)
    · rw [BitVec.toNat_ushiftRight, hx, Nat.shiftRight_eq_div_pow, show (2 ^ 4 : Nat) = 16 from rfl, V_div (by omega), show V 16 [d1, d2, d3, d4, d5, d6, d7, d8, d9, d10, d11, d12, d13, d14, d15] = V 16 [d1, d2, d3, d4, d5, d6, d7, d8, d9, d10, d11, d12, d13, d14, d15, 0] by simp [V]]
      exact V_add 16 (l := [d1, d2, d3, d4, d5, d6, d7, d8, d9, d10, d11, d12, d13, d14, d15, 0]) (m := [d0, d1, d2, d3, d4, d5, d6, d7, d8, d9, d10, d11, d12, d13, d14, d15]) rfl
    · simp only [List.mem_cons, List.not_mem_nil, or_false]
      omega
  unfold st3
  rw [BitVec.toNat_and, a, show (1085102592571150095#64).toNat = V 16 [15, 0, 15, 0, 15, 0, 15, 0, 15, 0, 15, 0, 15, 0, 15, 0] from repF.symm]
  refine (V_and (l := [d1 + d0, d2 + d1, d3 + d2, d4 + d3, d5 + d4, d6 + d5, d7 + d6, d8 + d7, d9 + d8, d10 + d9, d11 + d10, d12 + d11, d13 + d12, d14 + d13, d15 + d14, 0 + d15]) (m := [15, 0, 15, 0, 15, 0, 15, 0, 15, 0, 15, 0, 15, 0, 15, 0]) rfl (by simp only [List.mem_cons, List.not_mem_nil, or_false]; omega) (by simp only [List.mem_cons, List.not_mem_nil, or_false]; omega)).trans ?_
  simp only [List.zipWith_cons_cons, List.zipWith_nil_left, Nat.and_zero]
  rw [and15 (by omega : d1 + d0 < 16), and15 (by omega : d3 + d2 < 16), and15 (by omega : d5 + d4 < 16), and15 (by omega : d7 + d6 < 16), and15 (by omega : d9 + d8 < 16), and15 (by omega : d11 + d10 < 16), and15 (by omega : d13 + d12 < 16), and15 (by omega : d15 + d14 < 16)]
  exact V_inter [d1 + d0, d3 + d2, d5 + d4, d7 + d6, d9 + d8, d11 + d10, d13 + d12, d15 + d14]
theorem dig16 (n : Nat) : (dig 16 n).map pn = [pn (n % 16), pn ((n / 16) % 16), pn (((n / 16) / 16) % 16), pn ((((n / 16) / 16) / 16) % 16), pn (((((n / 16) / 16) / 16) / 16) % 16), pn ((((((n / 16) / 16) / 16) / 16) / 16) % 16), pn (((((((n / 16) / 16) / 16) / 16) / 16) / 16) % 16), pn ((((((((n / 16) / 16) / 16) / 16) / 16) / 16) / 16) % 16), pn (((((((((n / 16) / 16) / 16) / 16) / 16) / 16) / 16) / 16) % 16), pn ((((((((((n / 16) / 16) / 16) / 16) / 16) / 16) / 16) / 16) / 16) % 16), pn (((((((((((n / 16) / 16) / 16) / 16) / 16) / 16) / 16) / 16) / 16) / 16) % 16), pn ((((((((((((n / 16) / 16) / 16) / 16) / 16) / 16) / 16) / 16) / 16) / 16) / 16) % 16), pn (((((((((((((n / 16) / 16) / 16) / 16) / 16) / 16) / 16) / 16) / 16) / 16) / 16) / 16) % 16), pn ((((((((((((((n / 16) / 16) / 16) / 16) / 16) / 16) / 16) / 16) / 16) / 16) / 16) / 16) / 16) % 16), pn (((((((((((((((n / 16) / 16) / 16) / 16) / 16) / 16) / 16) / 16) / 16) / 16) / 16) / 16) / 16) / 16) % 16), pn ((((((((((((((((n / 16) / 16) / 16) / 16) / 16) / 16) / 16) / 16) / 16) / 16) / 16) / 16) / 16) / 16) / 16) % 16)] := rfl
theorem count_nat (x : BitVec 64) : (st6 (st5 (st4 (st3 (st2 (st1 x)))))).toNat % 128 = (bitsL x).length := by
  have h := st2_nat x
  have hp : ∀ m, pn (m % 16) ≤ 4 := fun m => (pn_ok (by omega : m % 16 < 16)).2.1
  rw [bits_count]
  rw [dig16] at h ⊢
  refine Eq.trans (fin_nat (st3_nat h (hp _) (hp _) (hp _) (hp _) (hp _) (hp _) (hp _) (hp _) (hp _) (hp _) (hp _) (hp _) (hp _) (hp _) (hp _) (hp _)) (Nat.add_le_add (hp _) (hp _)) (Nat.add_le_add (hp _) (hp _)) (Nat.add_le_add (hp _) (hp _)) (Nat.add_le_add (hp _) (hp _)) (Nat.add_le_add (hp _) (hp _)) (Nat.add_le_add (hp _) (hp _)) (Nat.add_le_add (hp _) (hp _)) (Nat.add_le_add (hp _) (hp _))) ?_
  simp only [List.sum_cons, List.sum_nil]
  omega
/-- Len counts the squares. -/
theorem lenS_u (x : BitVec 64) : lenS (u x) = ((bitsL x).length : Int) := by
  rw [← count_nat]
  have e1 : addS (andS (shrS (u x) 1) 6148914691236517205) (andS (u x) 6148914691236517205) = u (st1 x) := by
    rw [show (1 : Int) = ((1 : Nat) : Int) from rfl, shrS_u x 1 (by omega), show (6148914691236517205 : Int) = u 6148914691236517205#64 from rfl, andS_u, andS_u, addS_u]; rfl
  have e2 : ∀ y : BitVec 64, addS (andS (shrS (u y) 2) 3689348814741910323) (andS (u y) 3689348814741910323) = u (st2 y) := fun y => by
    rw [show (2 : Int) = ((2 : Nat) : Int) from rfl, shrS_u y 2 (by omega), show (3689348814741910323 : Int) = u 3689348814741910323#64 from rfl, andS_u, andS_u, addS_u]; rfl
  have e3 : ∀ y : BitVec 64, andS (addS (shrS (u y) 4) (u y)) 1085102592571150095 = u (st3 y) := fun y => by
    rw [show (4 : Int) = ((4 : Nat) : Int) from rfl, shrS_u y 4 (by omega), addS_u, show (1085102592571150095 : Int) = u 1085102592571150095#64 from rfl, andS_u]; rfl
  have e4 : ∀ y : BitVec 64, addS (u y) (shrS (u y) 8) = u (st4 y) := fun y => by
    rw [show (8 : Int) = ((8 : Nat) : Int) from rfl, shrS_u y 8 (by omega), addS_u]; rfl
  have e5 : ∀ y : BitVec 64, addS (u y) (shrS (u y) 16) = u (st5 y) := fun y => by
    rw [show (16 : Int) = ((16 : Nat) : Int) from rfl, shrS_u y 16 (by omega), addS_u]; rfl
  have e6 : ∀ y : BitVec 64, addS (u y) (shrS (u y) 32) = u (st6 y) := fun y => by
    rw [show (32 : Int) = ((32 : Nat) : Int) from rfl, shrS_u y 32 (by omega), addS_u]; rfl
  unfold lenS
  dsimp only
  rw [e1, e2, e3, e4, e5, e6]
  generalize st6 (st5 (st4 (st3 (st2 (st1 x))))) = y
  have hy : BitVec.ofInt 64 (IntKind.i64.wrap (u y)) = y := by
    refine BitVec.eq_of_toNat_eq ?_
    rw [BitVec.toNat_ofInt]
    unfold IntKind.wrap u
    have := y.isLt
    simp only [IntKind.signed, Bool.true_and, IntKind.bits]
    split <;> omega
  rw [show BitVec.ofInt IntKind.i64.bits (IntKind.i64.wrap (u y)) = y from hy]
  have hz : (y &&& BitVec.ofInt 64 127).toNat = y.toNat % 128 := by
    rw [BitVec.toNat_and, show (BitVec.ofInt 64 127).toNat = 2 ^ 7 - 1 from by decide +kernel, Nat.and_two_pow_sub_one_eq_mod]
  refine (congrArg (fun n : Nat => IntKind.i64.wrap (n : Int)) hz).trans ?_
  exact wrap64 (by omega) (by omega)
end Go.Proofs.YtakchekhpeokjaaDoor
