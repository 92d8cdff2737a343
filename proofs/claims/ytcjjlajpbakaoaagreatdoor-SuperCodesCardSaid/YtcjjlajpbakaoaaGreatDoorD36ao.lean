/-
  SUPERBLOCK (chapter 36): numbers and their bytes by the document.
-/
import Derived.Test.YtcjjlajpbakaoaaGreatDoorD36an
namespace Go.Proofs.YtcjjlajpbakaoaaGreatDoor
open Go.Va

theorem by58_4 (n : Int) : Pure Tryz.prog 9 tabs 58 [.int .u64 n, .int .i64 4] (L [.int .u8 (rb n 24), .int .u8 (rb n 16), .int .u8 (rb n 8), .int .u8 (rb n 0)] 4 1 0) :=
  pureT t3_ok (n := 300) (v := L [.int .u8 (rb n 24), .int .u8 (rb n 16), .int .u8 (rb n 8), .int .u8 (rb n 0)] 4 1 11) [] [] (by kernel_rfl) trivial rfl (PF_list (by omega) (PF_plainL (by kernel_rfl)))
theorem p58_4 (n : Nat) : Pure Tryz.prog 9 tabs 58 [.int .u64 (n : Int), .int .i64 4] (L (bys (be4 n)) 4 1 0) := by
  have e : bys (be4 n) = [.int .u8 (rb (n : Int) 24), .int .u8 (rb (n : Int) 16), .int .u8 (rb (n : Int) 8), .int .u8 (rb (n : Int) 0)] := by
    unfold bys be4
    simp only [List.map_cons, List.map_nil]
    rw [show rb (n : Int) 24 = ((byt n 24).toNat : Int) from rb_nat n 24 (by omega), show rb (n : Int) 16 = ((byt n 16).toNat : Int) from rb_nat n 16 (by omega), show rb (n : Int) 8 = ((byt n 8).toNat : Int) from rb_nat n 8 (by omega), show rb (n : Int) 0 = ((byt n 0).toNat : Int) from rb_nat n 0 (by omega)]
  rw [e]
  exact by58_4 n

theorem by58_8 (n : Int) : Pure Tryz.prog 9 tabs 58 [.int .u64 n, .int .i64 8] (L [.int .u8 (rb n 56), .int .u8 (rb n 48), .int .u8 (rb n 40), .int .u8 (rb n 32), .int .u8 (rb n 24), .int .u8 (rb n 16), .int .u8 (rb n 8), .int .u8 (rb n 0)] 8 1 0) :=
  pureT t3_ok (n := 300) (v := L [.int .u8 (rb n 56), .int .u8 (rb n 48), .int .u8 (rb n 40), .int .u8 (rb n 32), .int .u8 (rb n 24), .int .u8 (rb n 16), .int .u8 (rb n 8), .int .u8 (rb n 0)] 8 1 11) [] [] (by kernel_rfl) trivial rfl (PF_list (by omega) (PF_plainL (by kernel_rfl)))
theorem p58_8 (n : Nat) : Pure Tryz.prog 9 tabs 58 [.int .u64 (n : Int), .int .i64 8] (L (bys (be8 n)) 8 1 0) := by
  have e : bys (be8 n) = [.int .u8 (rb (n : Int) 56), .int .u8 (rb (n : Int) 48), .int .u8 (rb (n : Int) 40), .int .u8 (rb (n : Int) 32), .int .u8 (rb (n : Int) 24), .int .u8 (rb (n : Int) 16), .int .u8 (rb (n : Int) 8), .int .u8 (rb (n : Int) 0)] := by
    unfold bys be8
    simp only [List.map_cons, List.map_nil]
    rw [show rb (n : Int) 56 = ((byt n 56).toNat : Int) from rb_nat n 56 (by omega), show rb (n : Int) 48 = ((byt n 48).toNat : Int) from rb_nat n 48 (by omega), show rb (n : Int) 40 = ((byt n 40).toNat : Int) from rb_nat n 40 (by omega), show rb (n : Int) 32 = ((byt n 32).toNat : Int) from rb_nat n 32 (by omega), show rb (n : Int) 24 = ((byt n 24).toNat : Int) from rb_nat n 24 (by omega), show rb (n : Int) 16 = ((byt n 16).toNat : Int) from rb_nat n 16 (by omega), show rb (n : Int) 8 = ((byt n 8).toNat : Int) from rb_nat n 8 (by omega), show rb (n : Int) 0 = ((byt n 0).toNat : Int) from rb_nat n 0 (by omega)]
  rw [e]
  exact by58_8 n

theorem by109_8 (n : Int) : Pure Tryz.prog 9 tabs 109 [.int .i64 n, .int .i64 8] (L [.int .u8 (rb n 56), .int .u8 (rb n 48), .int .u8 (rb n 40), .int .u8 (rb n 32), .int .u8 (rb n 24), .int .u8 (rb n 16), .int .u8 (rb n 8), .int .u8 (rb n 0)] 8 1 0) :=
  pureT t3_ok (n := 300) (v := L [.int .u8 (rb n 56), .int .u8 (rb n 48), .int .u8 (rb n 40), .int .u8 (rb n 32), .int .u8 (rb n 24), .int .u8 (rb n 16), .int .u8 (rb n 8), .int .u8 (rb n 0)] 8 1 11) [] [] (by kernel_rfl) trivial rfl (PF_list (by omega) (PF_plainL (by kernel_rfl)))
theorem p109_8 (n : Nat) : Pure Tryz.prog 9 tabs 109 [.int .i64 (n : Int), .int .i64 8] (L (bys (be8 n)) 8 1 0) := by
  have e : bys (be8 n) = [.int .u8 (rb (n : Int) 56), .int .u8 (rb (n : Int) 48), .int .u8 (rb (n : Int) 40), .int .u8 (rb (n : Int) 32), .int .u8 (rb (n : Int) 24), .int .u8 (rb (n : Int) 16), .int .u8 (rb (n : Int) 8), .int .u8 (rb (n : Int) 0)] := by
    unfold bys be8
    simp only [List.map_cons, List.map_nil]
    rw [show rb (n : Int) 56 = ((byt n 56).toNat : Int) from rb_nat n 56 (by omega), show rb (n : Int) 48 = ((byt n 48).toNat : Int) from rb_nat n 48 (by omega), show rb (n : Int) 40 = ((byt n 40).toNat : Int) from rb_nat n 40 (by omega), show rb (n : Int) 32 = ((byt n 32).toNat : Int) from rb_nat n 32 (by omega), show rb (n : Int) 24 = ((byt n 24).toNat : Int) from rb_nat n 24 (by omega), show rb (n : Int) 16 = ((byt n 16).toNat : Int) from rb_nat n 16 (by omega), show rb (n : Int) 8 = ((byt n 8).toNat : Int) from rb_nat n 8 (by omega), show rb (n : Int) 0 = ((byt n 0).toNat : Int) from rb_nat n 0 (by omega)]
  rw [e]
  exact by109_8 n

def k58 : List Value → Option Value
  | [.int .u64 n, .int .i64 w] => bif decide (0 ≤ n) then
      (bif decide (w = 4) then some (L (bys (be4 n.toNat)) 4 1 0) else bif decide (w = 8) then some (L (bys (be8 n.toNat)) 8 1 0) else none) else none
  | _ => none
theorem k58_ok : KOk Tryz.prog 9 tabs 58 k58 := by
  intro args u h
  unfold k58 at h
  split at h
  · rename_i n w
    cases h0 : decide (0 ≤ n) with
    | false => rw [h0] at h; cases h
    | true =>
      rw [h0, cond_true] at h
      obtain ⟨m, rfl⟩ := Int.eq_ofNat_of_zero_le (of_decide_eq_true h0)
      rw [Int.toNat_natCast] at h
      cases h4 : decide (w = 4) with
      | true =>
        rw [h4, cond_true] at h
        cases h
        rw [of_decide_eq_true h4]
        exact p58_4 m
      | false =>
        rw [h4, cond_false] at h
        cases h8 : decide (w = 8) with
        | true =>
          rw [h8, cond_true] at h
          cases h
          rw [of_decide_eq_true h8]
          exact p58_8 m
        | false => rw [h8] at h; cases h
  · cases h
def k109 : List Value → Option Value
  | [.int .i64 n, .int .i64 w] => bif decide (0 ≤ n) && decide (w = 8) then some (L (bys (be8 n.toNat)) 8 1 0) else none
  | _ => none
theorem k109_ok : KOk Tryz.prog 9 tabs 109 k109 := by
  intro args u h
  unfold k109 at h
  split at h
  · rename_i n w
    cases h0 : (decide (0 ≤ n) && decide (w = 8)) with
    | false => rw [h0] at h; cases h
    | true =>
      rw [h0, cond_true] at h
      cases h
      simp only [Bool.and_eq_true, decide_eq_true_eq] at h0
      obtain ⟨m, rfl⟩ := Int.eq_ofNat_of_zero_le h0.1
      rw [h0.2, Int.toNat_natCast]
      exact p109_8 m
  · cases h

theorem val4_raw (x0 x1 x2 x3 : Int) (g : Nat) : Pure Tryz.prog 9 tabs 65 [L [.int .u8 x0, .int .u8 x1, .int .u8 x2, .int .u8 x3] 4 1 g] (.int .u64 (orU (orU (orU (orU 0 x0) x1) x2) x3)) :=
  pureT t3_ok (n := 600) (v := .int .u64 (orU (orU (orU (orU 0 x0) x1) x2) x3)) [] [] (by kernel_rfl) trivial rfl (.int _ _)
theorem p65_4 (l : List UInt8) (g : Nat) (hl : l.length = 4) : Pure Tryz.prog 9 tabs 65 [L (bys l) 4 1 g] (.int .u64 (valB l : Nat)) := by
  match l, hl with
  | [u0, u1, u2, u3], _ =>
    have t0 : u0.toNat < 256 := u0.toNat_lt; have t1 : u1.toNat < 256 := u1.toNat_lt; have t2 : u2.toNat < 256 := u2.toNat_lt; have t3 : u3.toNat < 256 := u3.toNat_lt
    have e : ((valB [u0, u1, u2, u3] : Nat) : Int) = (orU (orU (orU (orU ((0 : Nat) : Int) (u0.toNat : Int)) (u1.toNat : Int)) (u2.toNat : Int)) (u3.toNat : Int)) := by
      rw [show orU ((0 : Nat) : Int) ((u0.toNat : Nat) : Int) = (((0 * 256 + u0.toNat) : Nat) : Int) from orU_nat (y := 0) (x := u0.toNat) (by omega) t0, show orU (((0 * 256 + u0.toNat) : Nat) : Int) ((u1.toNat : Nat) : Int) = ((((0 * 256 + u0.toNat) * 256 + u1.toNat) : Nat) : Int) from orU_nat (y := (0 * 256 + u0.toNat)) (x := u1.toNat) (by omega) t1, show orU ((((0 * 256 + u0.toNat) * 256 + u1.toNat) : Nat) : Int) ((u2.toNat : Nat) : Int) = (((((0 * 256 + u0.toNat) * 256 + u1.toNat) * 256 + u2.toNat) : Nat) : Int) from orU_nat (y := ((0 * 256 + u0.toNat) * 256 + u1.toNat)) (x := u2.toNat) (by omega) t2, show orU (((((0 * 256 + u0.toNat) * 256 + u1.toNat) * 256 + u2.toNat) : Nat) : Int) ((u3.toNat : Nat) : Int) = ((((((0 * 256 + u0.toNat) * 256 + u1.toNat) * 256 + u2.toNat) * 256 + u3.toNat) : Nat) : Int) from orU_nat (y := (((0 * 256 + u0.toNat) * 256 + u1.toNat) * 256 + u2.toNat)) (x := u3.toNat) (by omega) t3]
      rfl
    rw [e]
    exact val4_raw u0.toNat u1.toNat u2.toNat u3.toNat g

theorem val8_raw (x0 x1 x2 x3 x4 x5 x6 x7 : Int) (g : Nat) : Pure Tryz.prog 9 tabs 65 [L [.int .u8 x0, .int .u8 x1, .int .u8 x2, .int .u8 x3, .int .u8 x4, .int .u8 x5, .int .u8 x6, .int .u8 x7] 8 1 g] (.int .u64 (orU (orU (orU (orU (orU (orU (orU (orU 0 x0) x1) x2) x3) x4) x5) x6) x7)) :=
  pureT t3_ok (n := 600) (v := .int .u64 (orU (orU (orU (orU (orU (orU (orU (orU 0 x0) x1) x2) x3) x4) x5) x6) x7)) [] [] (by kernel_rfl) trivial rfl (.int _ _)
theorem p65_8 (l : List UInt8) (g : Nat) (hl : l.length = 8) : Pure Tryz.prog 9 tabs 65 [L (bys l) 8 1 g] (.int .u64 (valB l : Nat)) := by
  match l, hl with
  | [u0, u1, u2, u3, u4, u5, u6, u7], _ =>
    have t0 : u0.toNat < 256 := u0.toNat_lt; have t1 : u1.toNat < 256 := u1.toNat_lt; have t2 : u2.toNat < 256 := u2.toNat_lt; have t3 : u3.toNat < 256 := u3.toNat_lt; have t4 : u4.toNat < 256 := u4.toNat_lt; have t5 : u5.toNat < 256 := u5.toNat_lt; have t6 : u6.toNat < 256 := u6.toNat_lt; have t7 : u7.toNat < 256 := u7.toNat_lt
    have e : ((valB [u0, u1, u2, u3, u4, u5, u6, u7] : Nat) : Int) = (orU (orU (orU (orU (orU (orU (orU (orU ((0 : Nat) : Int) (u0.toNat : Int)) (u1.toNat : Int)) (u2.toNat : Int)) (u3.toNat : Int)) (u4.toNat : Int)) (u5.toNat : Int)) (u6.toNat : Int)) (u7.toNat : Int)) := by
      rw [show orU ((0 : Nat) : Int) ((u0.toNat : Nat) : Int) = (((0 * 256 + u0.toNat) : Nat) : Int) from orU_nat (y := 0) (x := u0.toNat) (by omega) t0, show orU (((0 * 256 + u0.toNat) : Nat) : Int) ((u1.toNat : Nat) : Int) = ((((0 * 256 + u0.toNat) * 256 + u1.toNat) : Nat) : Int) from orU_nat (y := (0 * 256 + u0.toNat)) (x := u1.toNat) (by omega) t1, show orU ((((0 * 256 + u0.toNat) * 256 + u1.toNat) : Nat) : Int) ((u2.toNat : Nat) : Int) = (((((0 * 256 + u0.toNat) * 256 + u1.toNat) * 256 + u2.toNat) : Nat) : Int) from orU_nat (y := ((0 * 256 + u0.toNat) * 256 + u1.toNat)) (x := u2.toNat) (by omega) t2, show orU (((((0 * 256 + u0.toNat) * 256 + u1.toNat) * 256 + u2.toNat) : Nat) : Int) ((u3.toNat : Nat) : Int) = ((((((0 * 256 + u0.toNat) * 256 + u1.toNat) * 256 + u2.toNat) * 256 + u3.toNat) : Nat) : Int) from orU_nat (y := (((0 * 256 + u0.toNat) * 256 + u1.toNat) * 256 + u2.toNat)) (x := u3.toNat) (by omega) t3, show orU ((((((0 * 256 + u0.toNat) * 256 + u1.toNat) * 256 + u2.toNat) * 256 + u3.toNat) : Nat) : Int) ((u4.toNat : Nat) : Int) = (((((((0 * 256 + u0.toNat) * 256 + u1.toNat) * 256 + u2.toNat) * 256 + u3.toNat) * 256 + u4.toNat) : Nat) : Int) from orU_nat (y := ((((0 * 256 + u0.toNat) * 256 + u1.toNat) * 256 + u2.toNat) * 256 + u3.toNat)) (x := u4.toNat) (by omega) t4, show orU (((((((0 * 256 + u0.toNat) * 256 + u1.toNat) * 256 + u2.toNat) * 256 + u3.toNat) * 256 + u4.toNat) : Nat) : Int) ((u5.toNat : Nat) : Int) = ((((((((0 * 256 + u0.toNat) * 256 + u1.toNat) * 256 + u2.toNat) * 256 + u3.toNat) * 256 + u4.toNat) * 256 + u5.toNat) : Nat) : Int) from orU_nat (y := (((((0 * 256 + u0.toNat) * 256 + u1.toNat) * 256 + u2.toNat) * 256 + u3.toNat) * 256 + u4.toNat)) (x := u5.toNat) (by omega) t5, show orU ((((((((0 * 256 + u0.toNat) * 256 + u1.toNat) * 256 + u2.toNat) * 256 + u3.toNat) * 256 + u4.toNat) * 256 + u5.toNat) : Nat) : Int) ((u6.toNat : Nat) : Int) = (((((((((0 * 256 + u0.toNat) * 256 + u1.toNat) * 256 + u2.toNat) * 256 + u3.toNat) * 256 + u4.toNat) * 256 + u5.toNat) * 256 + u6.toNat) : Nat) : Int) from orU_nat (y := ((((((0 * 256 + u0.toNat) * 256 + u1.toNat) * 256 + u2.toNat) * 256 + u3.toNat) * 256 + u4.toNat) * 256 + u5.toNat)) (x := u6.toNat) (by omega) t6, show orU (((((((((0 * 256 + u0.toNat) * 256 + u1.toNat) * 256 + u2.toNat) * 256 + u3.toNat) * 256 + u4.toNat) * 256 + u5.toNat) * 256 + u6.toNat) : Nat) : Int) ((u7.toNat : Nat) : Int) = ((((((((((0 * 256 + u0.toNat) * 256 + u1.toNat) * 256 + u2.toNat) * 256 + u3.toNat) * 256 + u4.toNat) * 256 + u5.toNat) * 256 + u6.toNat) * 256 + u7.toNat) : Nat) : Int) from orU_nat (y := (((((((0 * 256 + u0.toNat) * 256 + u1.toNat) * 256 + u2.toNat) * 256 + u3.toNat) * 256 + u4.toNat) * 256 + u5.toNat) * 256 + u6.toNat)) (x := u7.toNat) (by omega) t7]
      rfl
    rw [e]
    exact val8_raw u0.toNat u1.toNat u2.toNat u3.toNat u4.toNat u5.toNat u6.toNat u7.toNat g

def k65 : List Value → Option Value
  | [v] => (match asL v, asB v with
    | some _, some l => bif Nat.beq l.length 4 || Nat.beq l.length 8 then some (.int .u64 (valB l : Nat)) else none
    | _, _ => none)
  | _ => none
theorem k65_ok : KOk Tryz.prog 9 tabs 65 k65 := by
  intro args u h
  unfold k65 at h
  split at h
  · rename_i v
    split at h
    · rename_i x l hL hB
      rcases asB_spec hB with ⟨rfl, _⟩ | ⟨g, hg, rfl, _⟩
      · cases hL
      · cases hb : (Nat.beq l.length 4 || Nat.beq l.length 8) with
        | false => rw [hb] at h; cases h
        | true =>
          rw [hb, cond_true] at h
          cases h
          rw [Bool.or_eq_true] at hb
          rcases hb with h4 | h8
          · have := Nat.eq_of_beq_eq_true h4
            rw [this]
            exact p65_4 l g this
          · have := Nat.eq_of_beq_eq_true h8
            rw [this]
            exact p65_8 l g this
    · cases h
  · cases h

end Go.Proofs.YtcjjlajpbakaoaaGreatDoor
