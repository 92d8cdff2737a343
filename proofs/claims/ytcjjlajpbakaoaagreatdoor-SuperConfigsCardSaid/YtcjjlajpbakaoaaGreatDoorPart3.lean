/-
  The functions that the statement reaches: what they answer, part 3.
-/
import Derived.Test.YtcjjlajpbakaoaaGreatDoorD36v

/-
  SUPERBLOCK (chapter 36): bigend.Uint.
-/
namespace Go.Proofs.YtcjjlajpbakaoaaGreatDoor
open Go.Va

def orU (y x : Int) : Int := IntKind.u64.wrap ((BitVec.ofInt IntKind.u64.bits (IntKind.u64.wrap (y * 2 ^ min (Int.toNat 8) IntKind.u64.bits)) ||| BitVec.ofInt IntKind.u64.bits (IntKind.u64.wrap x)).toNat : Int)
theorem wrapU {n : Nat} (h : n < 18446744073709551616) : IntKind.u64.wrap (n : Int) = n := wrap_fits .u64 (by show (0 : Int) ≤ n; omega) (by show (n : Int) ≤ 18446744073709551615; omega)
theorem orU_nat {y x : Nat} (hy : y < 72057594037927936) (hx : x < 256) : orU y x = ((y * 256 + x : Nat) : Int) := by
  unfold orU
  rw [show (y : Int) * 2 ^ min (Int.toNat 8) IntKind.u64.bits = ((y * 256 : Nat) : Int) by rw [Int.natCast_mul]; rfl, wrapU (n := y * 256) (by omega), wrapU (n := x) (by omega), BitVec.ofInt_natCast, BitVec.ofInt_natCast, BitVec.toNat_or, BitVec.toNat_ofNat, BitVec.toNat_ofNat]
  have e1 : y * 256 % 2 ^ IntKind.u64.bits = y * 256 := Nat.mod_eq_of_lt (by show y * 256 < 18446744073709551616; omega)
  have e2 : x % 2 ^ IntKind.u64.bits = x := Nat.mod_eq_of_lt (by show x < 18446744073709551616; omega)
  have e3 := Nat.shiftLeft_add_eq_or_of_lt (b := x) (i := 8) hx y
  rw [Nat.shiftLeft_eq] at e3
  rw [e1, e2, ← e3]
  exact wrapU (by omega)
/-- The number of some bytes. -/
def valB (l : List UInt8) : Nat := l.foldl (fun n b => n * 256 + b.toNat) 0

theorem uint1_raw (a x0 y0 : Int) (c : List Value) (m g : Nat) (g1 : decide (a < 0) = false) (g2 : decide (a > IntKind.i64.wrap ((m : Int) - 1)) = false) (a0 : 0 ≤ (IntKind.i64.wrap (a + 0)) ∧ (IntKind.i64.wrap (a + 0)) < m) (b0 : c[(IntKind.i64.wrap (a + 0)).toNat * 1]? = some (.int .u8 x0)) (c0 : Value.int .u64 (orU 0 x0) = .int .u64 y0) :
    Pure Tryz.prog 9 tabs 61 [L c m 1 g, .int .i64 a, .int .i64 1] (.tuple #[.int .u64 y0, .int .i64 0]) :=
  pureT t13_ok (n := 600) (v := .tuple #[.int .u64 y0, .int .i64 0]) [(18, .br false), (7, .br false), (14, .ok), (0, .is (.int .u8 x0)), (1, .eq (.int .u64 y0))]
    [decide (a < 0) = false, decide (a > IntKind.i64.wrap ((m : Int) - 1)) = false, 0 ≤ (IntKind.i64.wrap (a + 0)) ∧ (IntKind.i64.wrap (a + 0)) < m, c[(IntKind.i64.wrap (a + 0)).toNat * 1]? = some (.int .u8 x0), Value.int .u64 (orU 0 x0) = .int .u64 y0] (by kernel_rfl) ⟨g1, g2, a0, b0, c0⟩ rfl (plain_PF 100 _ rfl)
theorem p61_1 (l : List UInt8) (a g : Nat) (ha : a + 1 ≤ l.length) (hl : l.length < 1000000) : Pure Tryz.prog 9 tabs 61 [L (bys l) l.length 1 g, .int .i64 (a : Int), .int .i64 1] (.tuple #[.int .u64 (valB ((l.drop a).take 1) : Nat), .int .i64 0]) := by
  have hlen : ((l.drop a).take 1).length = 1 := by simp; omega
  have hget : ∀ (k : Nat) (u : UInt8), k < 1 → ((l.drop a).take 1)[k]? = some u → (bys l)[(IntKind.i64.wrap ((a : Int) + (k : Int))).toNat * 1]? = some (.int .u8 u.toNat) := by
    intro k u hk hu
    rw [wrap64 (by omega) (by omega), Nat.mul_one, show ((a : Int) + (k : Int)).toNat = a + k by omega]
    rw [List.getElem?_take, if_pos hk, List.getElem?_drop] at hu
    unfold bys
    rw [List.getElem?_map, hu]; rfl
  generalize hq : (l.drop a).take 1 = q at hlen hget
  match q, hlen with
  | [u0], _ =>
    have t0 : u0.toNat < 256 := u0.toNat_lt
    exact uint1_raw (a : Int) u0.toNat (((0 * 256 + u0.toNat) : Nat) : Int) (bys l) l.length g (decide_eq_false (by omega)) (decide_eq_false (by rw [wrap64 (by omega) (by omega)]; omega))
      (by rw [wrap64 (by omega) (by omega)]; omega) (hget 0 u0 (by omega) rfl) (congrArg _ (orU_nat (y := 0) (x := u0.toNat) (by omega) t0))

theorem uint4_raw (a x0 x1 x2 x3 y0 y1 y2 y3 : Int) (c : List Value) (m g : Nat) (g1 : decide (a < 0) = false) (g2 : decide (a > IntKind.i64.wrap ((m : Int) - 4)) = false) (a0 : 0 ≤ (IntKind.i64.wrap (a + 0)) ∧ (IntKind.i64.wrap (a + 0)) < m) (b0 : c[(IntKind.i64.wrap (a + 0)).toNat * 1]? = some (.int .u8 x0)) (c0 : Value.int .u64 (orU 0 x0) = .int .u64 y0) (a1 : 0 ≤ (IntKind.i64.wrap (a + 1)) ∧ (IntKind.i64.wrap (a + 1)) < m) (b1 : c[(IntKind.i64.wrap (a + 1)).toNat * 1]? = some (.int .u8 x1)) (c1 : Value.int .u64 (orU y0 x1) = .int .u64 y1) (a2 : 0 ≤ (IntKind.i64.wrap (a + 2)) ∧ (IntKind.i64.wrap (a + 2)) < m) (b2 : c[(IntKind.i64.wrap (a + 2)).toNat * 1]? = some (.int .u8 x2)) (c2 : Value.int .u64 (orU y1 x2) = .int .u64 y2) (a3 : 0 ≤ (IntKind.i64.wrap (a + 3)) ∧ (IntKind.i64.wrap (a + 3)) < m) (b3 : c[(IntKind.i64.wrap (a + 3)).toNat * 1]? = some (.int .u8 x3)) (c3 : Value.int .u64 (orU y2 x3) = .int .u64 y3) :
    Pure Tryz.prog 9 tabs 61 [L c m 1 g, .int .i64 a, .int .i64 4] (.tuple #[.int .u64 y3, .int .i64 0]) :=
  pureT t13_ok (n := 600) (v := .tuple #[.int .u64 y3, .int .i64 0]) [(18, .br false), (7, .br false), (14, .ok), (0, .is (.int .u8 x0)), (1, .eq (.int .u64 y0)), (14, .ok), (0, .is (.int .u8 x1)), (1, .eq (.int .u64 y1)), (14, .ok), (0, .is (.int .u8 x2)), (1, .eq (.int .u64 y2)), (14, .ok), (0, .is (.int .u8 x3)), (1, .eq (.int .u64 y3))]
    [decide (a < 0) = false, decide (a > IntKind.i64.wrap ((m : Int) - 4)) = false, 0 ≤ (IntKind.i64.wrap (a + 0)) ∧ (IntKind.i64.wrap (a + 0)) < m, c[(IntKind.i64.wrap (a + 0)).toNat * 1]? = some (.int .u8 x0), Value.int .u64 (orU 0 x0) = .int .u64 y0, 0 ≤ (IntKind.i64.wrap (a + 1)) ∧ (IntKind.i64.wrap (a + 1)) < m, c[(IntKind.i64.wrap (a + 1)).toNat * 1]? = some (.int .u8 x1), Value.int .u64 (orU y0 x1) = .int .u64 y1, 0 ≤ (IntKind.i64.wrap (a + 2)) ∧ (IntKind.i64.wrap (a + 2)) < m, c[(IntKind.i64.wrap (a + 2)).toNat * 1]? = some (.int .u8 x2), Value.int .u64 (orU y1 x2) = .int .u64 y2, 0 ≤ (IntKind.i64.wrap (a + 3)) ∧ (IntKind.i64.wrap (a + 3)) < m, c[(IntKind.i64.wrap (a + 3)).toNat * 1]? = some (.int .u8 x3), Value.int .u64 (orU y2 x3) = .int .u64 y3] (by kernel_rfl) ⟨g1, g2, a0, b0, c0, a1, b1, c1, a2, b2, c2, a3, b3, c3⟩ rfl (plain_PF 100 _ rfl)
theorem p61_4 (l : List UInt8) (a g : Nat) (ha : a + 4 ≤ l.length) (hl : l.length < 1000000) : Pure Tryz.prog 9 tabs 61 [L (bys l) l.length 1 g, .int .i64 (a : Int), .int .i64 4] (.tuple #[.int .u64 (valB ((l.drop a).take 4) : Nat), .int .i64 0]) := by
  have hlen : ((l.drop a).take 4).length = 4 := by simp; omega
  have hget : ∀ (k : Nat) (u : UInt8), k < 4 → ((l.drop a).take 4)[k]? = some u → (bys l)[(IntKind.i64.wrap ((a : Int) + (k : Int))).toNat * 1]? = some (.int .u8 u.toNat) := by
    intro k u hk hu
    rw [wrap64 (by omega) (by omega), Nat.mul_one, show ((a : Int) + (k : Int)).toNat = a + k by omega]
    rw [List.getElem?_take, if_pos hk, List.getElem?_drop] at hu
    unfold bys
    rw [List.getElem?_map, hu]; rfl
  generalize hq : (l.drop a).take 4 = q at hlen hget
  match q, hlen with
  | [u0, u1, u2, u3], _ =>
    have t0 : u0.toNat < 256 := u0.toNat_lt; have t1 : u1.toNat < 256 := u1.toNat_lt; have t2 : u2.toNat < 256 := u2.toNat_lt; have t3 : u3.toNat < 256 := u3.toNat_lt
    exact uint4_raw (a : Int) u0.toNat u1.toNat u2.toNat u3.toNat (((0 * 256 + u0.toNat) : Nat) : Int) ((((0 * 256 + u0.toNat) * 256 + u1.toNat) : Nat) : Int) (((((0 * 256 + u0.toNat) * 256 + u1.toNat) * 256 + u2.toNat) : Nat) : Int) ((((((0 * 256 + u0.toNat) * 256 + u1.toNat) * 256 + u2.toNat) * 256 + u3.toNat) : Nat) : Int) (bys l) l.length g (decide_eq_false (by omega)) (decide_eq_false (by rw [wrap64 (by omega) (by omega)]; omega))
      (by rw [wrap64 (by omega) (by omega)]; omega) (hget 0 u0 (by omega) rfl) (congrArg _ (orU_nat (y := 0) (x := u0.toNat) (by omega) t0)) (by rw [wrap64 (by omega) (by omega)]; omega) (hget 1 u1 (by omega) rfl) (congrArg _ (orU_nat (y := (0 * 256 + u0.toNat)) (x := u1.toNat) (by omega) t1)) (by rw [wrap64 (by omega) (by omega)]; omega) (hget 2 u2 (by omega) rfl) (congrArg _ (orU_nat (y := ((0 * 256 + u0.toNat) * 256 + u1.toNat)) (x := u2.toNat) (by omega) t2)) (by rw [wrap64 (by omega) (by omega)]; omega) (hget 3 u3 (by omega) rfl) (congrArg _ (orU_nat (y := (((0 * 256 + u0.toNat) * 256 + u1.toNat) * 256 + u2.toNat)) (x := u3.toNat) (by omega) t3))

theorem uint8_raw (a x0 x1 x2 x3 x4 x5 x6 x7 y0 y1 y2 y3 y4 y5 y6 y7 : Int) (c : List Value) (m g : Nat) (g1 : decide (a < 0) = false) (g2 : decide (a > IntKind.i64.wrap ((m : Int) - 8)) = false) (a0 : 0 ≤ (IntKind.i64.wrap (a + 0)) ∧ (IntKind.i64.wrap (a + 0)) < m) (b0 : c[(IntKind.i64.wrap (a + 0)).toNat * 1]? = some (.int .u8 x0)) (c0 : Value.int .u64 (orU 0 x0) = .int .u64 y0) (a1 : 0 ≤ (IntKind.i64.wrap (a + 1)) ∧ (IntKind.i64.wrap (a + 1)) < m) (b1 : c[(IntKind.i64.wrap (a + 1)).toNat * 1]? = some (.int .u8 x1)) (c1 : Value.int .u64 (orU y0 x1) = .int .u64 y1) (a2 : 0 ≤ (IntKind.i64.wrap (a + 2)) ∧ (IntKind.i64.wrap (a + 2)) < m) (b2 : c[(IntKind.i64.wrap (a + 2)).toNat * 1]? = some (.int .u8 x2)) (c2 : Value.int .u64 (orU y1 x2) = .int .u64 y2) (a3 : 0 ≤ (IntKind.i64.wrap (a + 3)) ∧ (IntKind.i64.wrap (a + 3)) < m) (b3 : c[(IntKind.i64.wrap (a + 3)).toNat * 1]? = some (.int .u8 x3)) (c3 : Value.int .u64 (orU y2 x3) = .int .u64 y3) (a4 : 0 ≤ (IntKind.i64.wrap (a + 4)) ∧ (IntKind.i64.wrap (a + 4)) < m) (b4 : c[(IntKind.i64.wrap (a + 4)).toNat * 1]? = some (.int .u8 x4)) (c4 : Value.int .u64 (orU y3 x4) = .int .u64 y4) (a5 : 0 ≤ (IntKind.i64.wrap (a + 5)) ∧ (IntKind.i64.wrap (a + 5)) < m) (b5 : c[(IntKind.i64.wrap (a + 5)).toNat * 1]? = some (.int .u8 x5)) (c5 : Value.int .u64 (orU y4 x5) = .int .u64 y5) (a6 : 0 ≤ (IntKind.i64.wrap (a + 6)) ∧ (IntKind.i64.wrap (a + 6)) < m) (b6 : c[(IntKind.i64.wrap (a + 6)).toNat * 1]? = some (.int .u8 x6)) (c6 : Value.int .u64 (orU y5 x6) = .int .u64 y6) (a7 : 0 ≤ (IntKind.i64.wrap (a + 7)) ∧ (IntKind.i64.wrap (a + 7)) < m) (b7 : c[(IntKind.i64.wrap (a + 7)).toNat * 1]? = some (.int .u8 x7)) (c7 : Value.int .u64 (orU y6 x7) = .int .u64 y7) :
    Pure Tryz.prog 9 tabs 61 [L c m 1 g, .int .i64 a, .int .i64 8] (.tuple #[.int .u64 y7, .int .i64 0]) :=
  pureT t13_ok (n := 600) (v := .tuple #[.int .u64 y7, .int .i64 0]) [(18, .br false), (7, .br false), (14, .ok), (0, .is (.int .u8 x0)), (1, .eq (.int .u64 y0)), (14, .ok), (0, .is (.int .u8 x1)), (1, .eq (.int .u64 y1)), (14, .ok), (0, .is (.int .u8 x2)), (1, .eq (.int .u64 y2)), (14, .ok), (0, .is (.int .u8 x3)), (1, .eq (.int .u64 y3)), (14, .ok), (0, .is (.int .u8 x4)), (1, .eq (.int .u64 y4)), (14, .ok), (0, .is (.int .u8 x5)), (1, .eq (.int .u64 y5)), (14, .ok), (0, .is (.int .u8 x6)), (1, .eq (.int .u64 y6)), (14, .ok), (0, .is (.int .u8 x7)), (1, .eq (.int .u64 y7))]
    [decide (a < 0) = false, decide (a > IntKind.i64.wrap ((m : Int) - 8)) = false, 0 ≤ (IntKind.i64.wrap (a + 0)) ∧ (IntKind.i64.wrap (a + 0)) < m, c[(IntKind.i64.wrap (a + 0)).toNat * 1]? = some (.int .u8 x0), Value.int .u64 (orU 0 x0) = .int .u64 y0, 0 ≤ (IntKind.i64.wrap (a + 1)) ∧ (IntKind.i64.wrap (a + 1)) < m, c[(IntKind.i64.wrap (a + 1)).toNat * 1]? = some (.int .u8 x1), Value.int .u64 (orU y0 x1) = .int .u64 y1, 0 ≤ (IntKind.i64.wrap (a + 2)) ∧ (IntKind.i64.wrap (a + 2)) < m, c[(IntKind.i64.wrap (a + 2)).toNat * 1]? = some (.int .u8 x2), Value.int .u64 (orU y1 x2) = .int .u64 y2, 0 ≤ (IntKind.i64.wrap (a + 3)) ∧ (IntKind.i64.wrap (a + 3)) < m, c[(IntKind.i64.wrap (a + 3)).toNat * 1]? = some (.int .u8 x3), Value.int .u64 (orU y2 x3) = .int .u64 y3, 0 ≤ (IntKind.i64.wrap (a + 4)) ∧ (IntKind.i64.wrap (a + 4)) < m, c[(IntKind.i64.wrap (a + 4)).toNat * 1]? = some (.int .u8 x4), Value.int .u64 (orU y3 x4) = .int .u64 y4, 0 ≤ (IntKind.i64.wrap (a + 5)) ∧ (IntKind.i64.wrap (a + 5)) < m, c[(IntKind.i64.wrap (a + 5)).toNat * 1]? = some (.int .u8 x5), Value.int .u64 (orU y4 x5) = .int .u64 y5, 0 ≤ (IntKind.i64.wrap (a + 6)) ∧ (IntKind.i64.wrap (a + 6)) < m, c[(IntKind.i64.wrap (a + 6)).toNat * 1]? = some (.int .u8 x6), Value.int .u64 (orU y5 x6) = .int .u64 y6, 0 ≤ (IntKind.i64.wrap (a + 7)) ∧ (IntKind.i64.wrap (a + 7)) < m, c[(IntKind.i64.wrap (a + 7)).toNat * 1]? = some (.int .u8 x7), Value.int .u64 (orU y6 x7) = .int .u64 y7] (by kernel_rfl) ⟨g1, g2, a0, b0, c0, a1, b1, c1, a2, b2, c2, a3, b3, c3, a4, b4, c4, a5, b5, c5, a6, b6, c6, a7, b7, c7⟩ rfl (plain_PF 100 _ rfl)
theorem p61_8 (l : List UInt8) (a g : Nat) (ha : a + 8 ≤ l.length) (hl : l.length < 1000000) : Pure Tryz.prog 9 tabs 61 [L (bys l) l.length 1 g, .int .i64 (a : Int), .int .i64 8] (.tuple #[.int .u64 (valB ((l.drop a).take 8) : Nat), .int .i64 0]) := by
  have hlen : ((l.drop a).take 8).length = 8 := by simp; omega
  have hget : ∀ (k : Nat) (u : UInt8), k < 8 → ((l.drop a).take 8)[k]? = some u → (bys l)[(IntKind.i64.wrap ((a : Int) + (k : Int))).toNat * 1]? = some (.int .u8 u.toNat) := by
    intro k u hk hu
    rw [wrap64 (by omega) (by omega), Nat.mul_one, show ((a : Int) + (k : Int)).toNat = a + k by omega]
    rw [List.getElem?_take, if_pos hk, List.getElem?_drop] at hu
    unfold bys
    rw [List.getElem?_map, hu]; rfl
  generalize hq : (l.drop a).take 8 = q at hlen hget
  match q, hlen with
  | [u0, u1, u2, u3, u4, u5, u6, u7], _ =>
    have t0 : u0.toNat < 256 := u0.toNat_lt; have t1 : u1.toNat < 256 := u1.toNat_lt; have t2 : u2.toNat < 256 := u2.toNat_lt; have t3 : u3.toNat < 256 := u3.toNat_lt; have t4 : u4.toNat < 256 := u4.toNat_lt; have t5 : u5.toNat < 256 := u5.toNat_lt; have t6 : u6.toNat < 256 := u6.toNat_lt; have t7 : u7.toNat < 256 := u7.toNat_lt
    exact uint8_raw (a : Int) u0.toNat u1.toNat u2.toNat u3.toNat u4.toNat u5.toNat u6.toNat u7.toNat (((0 * 256 + u0.toNat) : Nat) : Int) ((((0 * 256 + u0.toNat) * 256 + u1.toNat) : Nat) : Int) (((((0 * 256 + u0.toNat) * 256 + u1.toNat) * 256 + u2.toNat) : Nat) : Int) ((((((0 * 256 + u0.toNat) * 256 + u1.toNat) * 256 + u2.toNat) * 256 + u3.toNat) : Nat) : Int) (((((((0 * 256 + u0.toNat) * 256 + u1.toNat) * 256 + u2.toNat) * 256 + u3.toNat) * 256 + u4.toNat) : Nat) : Int) ((((((((0 * 256 + u0.toNat) * 256 + u1.toNat) * 256 + u2.toNat) * 256 + u3.toNat) * 256 + u4.toNat) * 256 + u5.toNat) : Nat) : Int) (((((((((0 * 256 + u0.toNat) * 256 + u1.toNat) * 256 + u2.toNat) * 256 + u3.toNat) * 256 + u4.toNat) * 256 + u5.toNat) * 256 + u6.toNat) : Nat) : Int) ((((((((((0 * 256 + u0.toNat) * 256 + u1.toNat) * 256 + u2.toNat) * 256 + u3.toNat) * 256 + u4.toNat) * 256 + u5.toNat) * 256 + u6.toNat) * 256 + u7.toNat) : Nat) : Int) (bys l) l.length g (decide_eq_false (by omega)) (decide_eq_false (by rw [wrap64 (by omega) (by omega)]; omega))
      (by rw [wrap64 (by omega) (by omega)]; omega) (hget 0 u0 (by omega) rfl) (congrArg _ (orU_nat (y := 0) (x := u0.toNat) (by omega) t0)) (by rw [wrap64 (by omega) (by omega)]; omega) (hget 1 u1 (by omega) rfl) (congrArg _ (orU_nat (y := (0 * 256 + u0.toNat)) (x := u1.toNat) (by omega) t1)) (by rw [wrap64 (by omega) (by omega)]; omega) (hget 2 u2 (by omega) rfl) (congrArg _ (orU_nat (y := ((0 * 256 + u0.toNat) * 256 + u1.toNat)) (x := u2.toNat) (by omega) t2)) (by rw [wrap64 (by omega) (by omega)]; omega) (hget 3 u3 (by omega) rfl) (congrArg _ (orU_nat (y := (((0 * 256 + u0.toNat) * 256 + u1.toNat) * 256 + u2.toNat)) (x := u3.toNat) (by omega) t3)) (by rw [wrap64 (by omega) (by omega)]; omega) (hget 4 u4 (by omega) rfl) (congrArg _ (orU_nat (y := ((((0 * 256 + u0.toNat) * 256 + u1.toNat) * 256 + u2.toNat) * 256 + u3.toNat)) (x := u4.toNat) (by omega) t4)) (by rw [wrap64 (by omega) (by omega)]; omega) (hget 5 u5 (by omega) rfl) (congrArg _ (orU_nat (y := (((((0 * 256 + u0.toNat) * 256 + u1.toNat) * 256 + u2.toNat) * 256 + u3.toNat) * 256 + u4.toNat)) (x := u5.toNat) (by omega) t5)) (by rw [wrap64 (by omega) (by omega)]; omega) (hget 6 u6 (by omega) rfl) (congrArg _ (orU_nat (y := ((((((0 * 256 + u0.toNat) * 256 + u1.toNat) * 256 + u2.toNat) * 256 + u3.toNat) * 256 + u4.toNat) * 256 + u5.toNat)) (x := u6.toNat) (by omega) t6)) (by rw [wrap64 (by omega) (by omega)]; omega) (hget 7 u7 (by omega) rfl) (congrArg _ (orU_nat (y := (((((((0 * 256 + u0.toNat) * 256 + u1.toNat) * 256 + u2.toNat) * 256 + u3.toNat) * 256 + u4.toNat) * 256 + u5.toNat) * 256 + u6.toNat)) (x := u7.toNat) (by omega) t7))

end Go.Proofs.YtcjjlajpbakaoaaGreatDoor

/-
  SUPERBLOCK (chapter 36): bigend.Uint replaced.
-/
namespace Go.Proofs.YtcjjlajpbakaoaaGreatDoor
open Go.Va

def k61 : List Value → Option Value
  | [v, .int .i64 a, .int .i64 w] => (match asL v, asB v with
    | some _, some l => bif decide (0 ≤ a) && decide (a + w ≤ l.length) && Nat.blt l.length 1000000 && (decide (w = 1) || decide (w = 4) || decide (w = 8)) then
        some (.tuple #[.int .u64 (valB ((l.drop a.toNat).take w.toNat) : Nat), .int .i64 0]) else none
    | _, _ => none)
  | _ => none
theorem k61_ok : KOk Tryz.prog 9 tabs 61 k61 := by
  intro args u h
  unfold k61 at h
  split at h
  · rename_i v a w
    split at h
    · rename_i x l hL hB
      rcases asB_spec hB with ⟨rfl, _⟩ | ⟨g, _, rfl, _⟩
      · cases hL
      · cases hb : (decide (0 ≤ a) && decide (a + w ≤ l.length) && Nat.blt l.length 1000000 && (decide (w = 1) || decide (w = 4) || decide (w = 8))) with
        | false => rw [hb] at h; cases h
        | true =>
          rw [hb, cond_true] at h
          cases h
          simp only [Bool.and_eq_true, Bool.or_eq_true, decide_eq_true_eq] at hb
          obtain ⟨⟨⟨h0, h1⟩, h2⟩, h3⟩ := hb
          have h2 := blt_iff.1 h2
          obtain ⟨k, rfl⟩ := Int.eq_ofNat_of_zero_le h0
          rw [Int.toNat_natCast]
          rcases h3 with (rfl | rfl) | rfl
          · exact p61_1 l k g (by omega) h2
          · exact p61_4 l k g (by omega) h2
          · exact p61_8 l k g (by omega) h2
    · cases h
  · cases h
def t14 : Ktab := (61, k61) :: t13
theorem t14_ok : TOk Tryz.prog 9 tabs t14 := ⟨k61_ok, t13_ok⟩

end Go.Proofs.YtcjjlajpbakaoaaGreatDoor

/-
  SUPERBLOCK (chapter 36): frame.Unstamp.
-/
namespace Go.Proofs.YtcjjlajpbakaoaaGreatDoor
open Go.Va

def unC (c : List Value) : List Value := (c.drop (8 * 1)).take ((120 - 8) * 1)
theorem un_ok (e n1 n2 : Int) (c : List Value) (m g : Nat) (h1 : decide (e ≥ 1) = true) (h2 : (!decide (e ≤ 1099511627776)) = false) (h3 : decide ((m : Int) < 128) = false)
    (a1 : ∀ σ, (envT t14).ov 61 [L c m 1 g, .int .i64 0, .int .i64 8] 0 σ = some (.tuple #[.int .u64 n1, .int .i64 0], σ)) (h4 : (n1 != IntKind.u64.wrap e) = false)
    (a2 : ∀ σ, (envT t14).ov 61 [L c m 1 g, .int .i64 120, .int .i64 8] 0 σ = some (.tuple #[.int .u64 n2, .int .i64 0], σ)) (h5 : (n2 != IntKind.u64.wrap e) = false) (hv : PF (.tuple #[strip (L (unC c) 112 1 11), .int .i64 0])) :
    Pure Tryz.prog 9 tabs 62 [L c m 1 g, .int .i64 e] (.tuple #[strip (L (unC c) 112 1 11), .int .i64 0]) :=
  pureXH t14_ok (n := 600) (v := .tuple #[L (unC c) 112 1 11, .int .i64 0]) [(7, .br true), (5, .br false), (3, .br false), (9, .ov (.tuple #[.int .u64 n1, .int .i64 0])), (13, .br false), (9, .ov (.tuple #[.int .u64 n2, .int .i64 0])), (13, .br false), (6, .ok)]
    [decide (e ≥ 1) = true, (!decide (e ≤ 1099511627776)) = false, decide ((m : Int) < 128) = false, ∀ σ, (envT t14).ov 61 [L c m 1 g, .int .i64 0, .int .i64 8] 0 σ = some (.tuple #[.int .u64 n1, .int .i64 0], σ), (n1 != IntKind.u64.wrap e) = false,
      ∀ σ, (envT t14).ov 61 [L c m 1 g, .int .i64 120, .int .i64 8] 0 σ = some (.tuple #[.int .u64 n2, .int .i64 0], σ), (n2 != IntKind.u64.wrap e) = false, (0 : Int) ≤ 8 ∧ (8 : Int) ≤ 120 ∧ (120 : Int) ≤ m] (by kernel_rfl)
    ⟨h1, h2, h3, a1, h4, a2, h5, by omega, by omega, by have := of_decide_eq_false h3; omega⟩ (shed_pair _ _) hv
theorem un_no1 (e n1 : Int) (c : List Value) (m g : Nat) (h1 : decide (e ≥ 1) = true) (h2 : (!decide (e ≤ 1099511627776)) = false) (h3 : decide ((m : Int) < 128) = false)
    (a1 : ∀ σ, (envT t14).ov 61 [L c m 1 g, .int .i64 0, .int .i64 8] 0 σ = some (.tuple #[.int .u64 n1, .int .i64 0], σ)) (h4 : (n1 != IntKind.u64.wrap e) = true) :
    Pure Tryz.prog 9 tabs 62 [L c m 1 g, .int .i64 e] (.tuple #[.slice none 0 0, .int .i64 13]) :=
  pureT t14_ok (n := 600) (v := .tuple #[.slice none 0 0, .int .i64 13]) [(7, .br true), (5, .br false), (3, .br false), (9, .ov (.tuple #[.int .u64 n1, .int .i64 0])), (13, .br true)]
    [decide (e ≥ 1) = true, (!decide (e ≤ 1099511627776)) = false, decide ((m : Int) < 128) = false, ∀ σ, (envT t14).ov 61 [L c m 1 g, .int .i64 0, .int .i64 8] 0 σ = some (.tuple #[.int .u64 n1, .int .i64 0], σ), (n1 != IntKind.u64.wrap e) = true] (by kernel_rfl)
    ⟨h1, h2, h3, a1, h4⟩ rfl (plain_PF 100 _ rfl)
theorem un_no2 (e n1 n2 : Int) (c : List Value) (m g : Nat) (h1 : decide (e ≥ 1) = true) (h2 : (!decide (e ≤ 1099511627776)) = false) (h3 : decide ((m : Int) < 128) = false)
    (a1 : ∀ σ, (envT t14).ov 61 [L c m 1 g, .int .i64 0, .int .i64 8] 0 σ = some (.tuple #[.int .u64 n1, .int .i64 0], σ)) (h4 : (n1 != IntKind.u64.wrap e) = false)
    (a2 : ∀ σ, (envT t14).ov 61 [L c m 1 g, .int .i64 120, .int .i64 8] 0 σ = some (.tuple #[.int .u64 n2, .int .i64 0], σ)) (h5 : (n2 != IntKind.u64.wrap e) = true) :
    Pure Tryz.prog 9 tabs 62 [L c m 1 g, .int .i64 e] (.tuple #[.slice none 0 0, .int .i64 13]) :=
  pureT t14_ok (n := 600) (v := .tuple #[.slice none 0 0, .int .i64 13]) [(7, .br true), (5, .br false), (3, .br false), (9, .ov (.tuple #[.int .u64 n1, .int .i64 0])), (13, .br false), (9, .ov (.tuple #[.int .u64 n2, .int .i64 0])), (13, .br true)]
    [decide (e ≥ 1) = true, (!decide (e ≤ 1099511627776)) = false, decide ((m : Int) < 128) = false, ∀ σ, (envT t14).ov 61 [L c m 1 g, .int .i64 0, .int .i64 8] 0 σ = some (.tuple #[.int .u64 n1, .int .i64 0], σ), (n1 != IntKind.u64.wrap e) = false,
      ∀ σ, (envT t14).ov 61 [L c m 1 g, .int .i64 120, .int .i64 8] 0 σ = some (.tuple #[.int .u64 n2, .int .i64 0], σ), (n2 != IntKind.u64.wrap e) = true] (by kernel_rfl)
    ⟨h1, h2, h3, a1, h4, a2, h5⟩ rfl (plain_PF 100 _ rfl)

end Go.Proofs.YtcjjlajpbakaoaaGreatDoor
