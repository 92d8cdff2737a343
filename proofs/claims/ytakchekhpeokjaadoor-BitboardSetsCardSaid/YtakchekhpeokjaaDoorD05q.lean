/-
  BITBOARD (chapter 05): TrailingZeros64; an environment in which it is replaced, too.
-/
import Derived.Test.YtakchekhpeokjaaDoorD05h
import Derived.Test.YtakchekhpeokjaaDoorD05p
namespace Go.Proofs.YtakchekhpeokjaaDoor
open Go.Va

def deb (k : Nat) : Nat := (2 ^ k * 285870213051353865 % 18446744073709551616) / 288230376151711744
def tabN : List Nat := [0, 1, 56, 2, 57, 49, 28, 3, 61, 58, 42, 50, 38, 29, 17, 4, 62, 47, 59, 36, 45, 43, 51, 22, 53, 39, 33, 30, 24, 18, 12, 5, 63, 55, 48, 27, 60, 41, 37, 16, 46, 35, 44, 21, 52, 32, 23, 11, 54, 26, 40, 15, 34, 20, 31, 10, 25, 14, 19, 9, 13, 8, 7, 6]
theorem deb_all : ((List.range 64).all fun k => decide (deb k < 64) && decide (tabN[deb k]? = some k)) = true := by decide +kernel
theorem deb_tab {k : Nat} (h : k < 64) : deb k < 64 ∧ tabN[deb k]? = some k := by
  have := List.all_eq_true.1 deb_all k (List.mem_range.2 h)
  simp only [Bool.and_eq_true, decide_eq_true_eq] at this
  exact this
theorem tab_get (i : Nat) : (base0 4 tabs).cell? ⟨0, i, none⟩ = (tabN[i]?).map fun n : Nat => Value.int .u8 n := by
  show (tabN.map fun n : Nat => Value.int .u8 n)[i]? = _
  rw [List.getElem?_map]

theorem p52_zero : Pure Tryd.prog 4 tabs 52 [.int .u64 0] (.int .i64 64) := pure5 (n := 100) [] [] (by kernel_rfl) trivial rfl rfl
theorem low_eq {x : BitVec 64} (h : x ≠ 0#64) : IntKind.u64.wrap ((BitVec.ofInt IntKind.u64.bits (u x) &&& BitVec.ofInt IntKind.u64.bits (IntKind.u64.wrap (0 - u x))).toNat : Int) = ((2 ^ tz x : Nat) : Int) := by
  have hn : BitVec.ofInt 64 (IntKind.u64.wrap (0 - u x)) = -x := by
    refine BitVec.eq_of_toNat_eq ?_
    rw [BitVec.toNat_ofInt, BitVec.toNat_neg]
    unfold IntKind.wrap u
    simp only [IntKind.signed, Bool.false_and, Bool.false_eq_true, if_false]
    show ((0 - (x.toNat : Int)) % (2 ^ 64 : Int) % ((2 ^ 64 : Nat) : Int)).toNat = (2 ^ 64 - x.toNat) % 2 ^ 64
    have := x.isLt
    omega
  rw [ofInt_u, show BitVec.ofInt IntKind.u64.bits (IntKind.u64.wrap (0 - u x)) = -x from hn]
  refine (wrap_toNat (lowB x)).trans ?_
  rw [lowB_eq h]
  unfold u
  have hk := (tz_spec h).1
  rw [BitVec.toNat_shiftLeft, Nat.shiftLeft_eq]
  have : 2 ^ tz x < 2 ^ 64 := Nat.pow_lt_pow_right (by omega) hk
  rw [Nat.mod_eq_of_lt (by simpa using this)]
  simp
theorem deb_eq (k : Nat) : (IntKind.u64.wrap (((2 ^ k : Nat) : Int) * 285870213051353865)).fdiv (2 ^ min (Int.toNat 58) IntKind.u64.bits) = (deb k : Int) := by
  rw [show ((2 ^ k : Nat) : Int) * 285870213051353865 = ((2 ^ k * 285870213051353865 : Nat) : Int) by simp, wrap_nat, show (2 : Int) ^ min (Int.toNat 58) IntKind.u64.bits = ((288230376151711744 : Nat) : Int) from rfl, Int.fdiv_eq_ediv_of_nonneg _ (Int.natCast_nonneg _)]
  rw [← Int.natCast_ediv]
  rfl

theorem p52 (x : BitVec 64) : Pure Tryd.prog 4 tabs 52 [.int .u64 (u x)] (.int .i64 (tz x)) := by
  by_cases h : x = 0#64
  · subst h
    have : tz 0#64 = 64 := by unfold tz; rw [bits_zero]; rfl
    rw [this]
    exact p52_zero
  · have hk := (tz_spec h).1
    obtain ⟨d1, d2⟩ := deb_tab hk
    have hu : (u x == 0) = false := by
      rw [beq_eq_false_iff_ne]
      intro e
      exact h (u_inj (e.trans u_zero.symm))
    exact pure5 (n := 100) [(3, .br false), (3, .eq (.int .u64 ((2 ^ tz x : Nat) : Int))), (1, .eq (.int .u64 (deb (tz x)))), (0, .ok), (0, .is (.int .u8 (tz x))), (0, .eq (.int .i64 (tz x)))]
      [(u x == 0) = false, Value.int .u64 (IntKind.u64.wrap ((BitVec.ofInt IntKind.u64.bits (u x) &&& BitVec.ofInt IntKind.u64.bits (IntKind.u64.wrap (0 - u x))).toNat : Int)) = .int .u64 ((2 ^ tz x : Nat) : Int),
        Value.int .u64 ((IntKind.u64.wrap (((2 ^ tz x : Nat) : Int) * 285870213051353865)).fdiv (2 ^ min (Int.toNat 58) IntKind.u64.bits)) = .int .u64 (deb (tz x)), 0 ≤ (deb (tz x) : Int) ∧ (deb (tz x) : Int) < (64 : Nat),
        (base0 4 tabs).cell? ⟨0, 0 + (deb (tz x) : Int).toNat * 1, none⟩ = some (.int .u8 (tz x)), Value.int .i64 (IntKind.i64.wrap (tz x : Int)) = .int .i64 (tz x)]
      (by kernel_rfl) ⟨hu, by rw [low_eq h], by rw [deb_eq], by omega, by
        rw [show 0 + (deb (tz x) : Int).toNat * 1 = deb (tz x) by omega, tab_get, d2]; rfl, congrArg (Value.int .i64) (wrap64 (by omega) (by omega))⟩ rfl rfl

def inU (s : Int) : Bool := decide (0 ≤ s) && decide (s < 18446744073709551616)
theorem inU_u (x : BitVec 64) : inU (u x) = true := by
  unfold inU
  rw [decide_eq_true (u_nonneg x), decide_eq_true (u_lt x)]; rfl
theorem ofInt_inU {s : Int} (h : inU s = true) : s = u (BitVec.ofInt 64 s) := by
  unfold inU at h
  simp only [Bool.and_eq_true, decide_eq_true_eq] at h
  exact u_of s h.1 h.2
def k13 : List Value → Option Value
  | [] => some (.bool true)
  | _ => none
def k17 : List Value → Option Value
  | [.int .u64 s, .int .i64 n] => some (withV s n)
  | _ => none
def k19 : List Value → Option Value
  | [.int .u64 s, .int .i64 n] => some (wioV s n)
  | _ => none
def k12 : List Value → Option Value
  | [.int .u64 s, .int .i64 n] => some (.bool (hasS s n))
  | _ => none
def k34 : List Value → Option Value
  | [.int .i64 n] => some (fileV n)
  | _ => none
def k35 : List Value → Option Value
  | [.int .i64 n] => some (rankV n)
  | _ => none
def k28 : List Value → Option Value
  | [.int .u64 s] => some (.int .u64 (rbS s))
  | _ => none
def k30 : List Value → Option Value
  | [.int .u64 s] => some (.int .u64 (rbS (rvS s)))
  | _ => none
def k24 : List Value → Option Value
  | [.int .u64 s] => some (.int .i64 (lenS s))
  | _ => none
def k52 : List Value → Option Value
  | [.int .u64 s] => bif inU s then some (.int .i64 (tz (BitVec.ofInt 64 s))) else none
  | _ => none
theorem k52_u (x : BitVec 64) : k52 [.int .u64 (u x)] = some (.int .i64 (tz x)) := by
  unfold k52
  dsimp only
  rw [inU_u, cond_true, show BitVec.ofInt 64 (u x) = x from ofInt_u x]

def t6 : Ktab := [(13, k13), (17, k17), (19, k19), (12, k12), (34, k34), (35, k35), (28, k28), (30, k30), (24, k24), (52, k52)]
theorem t6_ok : TOk Tryd.prog 4 tabs t6 := by
  refine ⟨?_, ?_, ?_, ?_, ?_, ?_, ?_, ?_, ?_, ?_, trivial⟩ <;> intro args v h
  · unfold k13 at h; split at h <;> cases h; exact works_pure
  · unfold k17 at h; split at h <;> cases h; exact p17 _ _
  · unfold k19 at h; split at h <;> cases h; exact p19 _ _
  · unfold k12 at h; split at h <;> cases h; exact p12 _ _
  · unfold k34 at h; split at h <;> cases h; exact p34 _
  · unfold k35 at h; split at h <;> cases h; exact p35 _
  · unfold k28 at h; split at h <;> cases h; exact p28 _
  · unfold k30 at h; split at h <;> cases h; exact p30 _
  · unfold k24 at h; split at h <;> cases h; exact p24 _
  · unfold k52 at h
    split at h
    · rename_i s
      cases hs : inU s with
      | false => rw [hs] at h; cases h
      | true =>
        rw [hs] at h
        cases h
        have := p52 (BitVec.ofInt 64 s)
        rw [← ofInt_inU hs] at this
        exact this
    · cases h

/-- The environment of a table. -/
def envT (l : Ktab) : Env := mixEnv (isT l) (pfT l)
theorem pureT {l : Ktab} (hl : TOk Tryd.prog 4 tabs l) (hFn : fnB Tryd.prog 4 (envT l) okL = true) {n : Nat} {f : FuncId} {args : List Value} {v u : Value} (hs : List (Nat × Hint)) (ob : List Prop)
    (hr : upshot (runH Tryd.prog (envT l) n 0 (.call f args) (base0 4 tabs) ⟨hs, []⟩) = some (v, ob)) (ho : All ob) (hu : strip v = u) (hv : PF u) : Pure Tryd.prog 4 tabs f args u :=
  pureM (fun f args v _ h => pfT_pure hl f args v h) hFn hs ob hr ho hu hv

def env6 : Env := envT t6
set_option maxRecDepth 100000 in
theorem fns6 : fnB Tryd.prog 4 env6 okL = true := by kernel_rfl
theorem pfT_ne {g f : FuncId} {k : List Value → Option Value} {l : Ktab} {args : List Value} (h : Nat.beq g f = false) : pfT ((g, k) :: l) f args = pfT l f args := by
  show (bif Nat.beq g f then k args else pfT l f args) = _
  rw [h, cond_false]
theorem pfT_eq {f : FuncId} {k : List Value → Option Value} {l : Ktab} {args : List Value} : pfT ((f, k) :: l) f args = k args := by
  show (bif Nat.beq f f then k args else pfT l f args) = _
  rw [Nat.beq_refl, cond_true]
/-- What stands for TrailingZeros64. -/
theorem pf52 (args : List Value) : pfT t6 52 args = k52 args := by
  unfold t6
  rw [pfT_ne rfl, pfT_ne rfl, pfT_ne rfl, pfT_ne rfl, pfT_ne rfl, pfT_ne rfl, pfT_ne rfl, pfT_ne rfl, pfT_ne rfl, pfT_eq]
theorem envT_ov {l : Ktab} {f : FuncId} {args : List Value} {lim : Nat} {σ : AS} {v : Value} (h1 : Nat.beq f 76 = false) (h2 : Nat.beq f 81 = false) (h : pureOv (pfT l) f args σ = some (v, σ)) : (envT l).ov f args lim σ = some (v, σ) := by
  show (bif Nat.beq f 76 then noEscA args σ else bif Nat.beq f 81 then makeNoZeroA 5 args σ else pureOv (pfT l) f args σ) = _
  rw [h1, h2]
  exact h
theorem ov52 (x : BitVec 64) (lim : Nat) (σ : AS) : env6.ov 52 [.int .u64 (u x)] lim σ = some (.int .i64 (tz x), σ) := by
  refine envT_ov rfl rfl ?_
  have e : [Value.int .u64 (u x)].map strip = [Value.int .u64 (u x)] := by
    simp only [List.map_cons, List.map_nil]
    unfold strip
    rfl
  exact pureOv_of (by rw [e]; rfl) (by rw [e, pf52]; exact k52_u x)

end Go.Proofs.YtakchekhpeokjaaDoor
