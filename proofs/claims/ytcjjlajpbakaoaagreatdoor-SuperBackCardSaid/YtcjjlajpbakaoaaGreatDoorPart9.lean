/-
  The functions that the statement reaches: what they answer, part 9.
-/
import Derived.Test.YtcjjlajpbakaoaaGreatDoorD36au
import Derived.Test.YtcjjlajpbakaoaaGreatDoorD36bb
import Derived.Test.YtcjjlajpbakaoaaGreatDoorD36bd

/-
  SUPERBLOCK (chapter 36): bytes as strings.
-/
namespace Go.Proofs.YtcjjlajpbakaoaaGreatDoor
open Go.Va

/-- The bytes as a string. -/
def sB (l : List UInt8) : ByteArray := ⟨l.toArray⟩
theorem und37 : Tryz.prog.underlying 37 = some (.slice 5) := by kernel_rfl
theorem und9 : Tryz.prog.underlying 9 = some .string := by kernel_rfl
theorem strB (l : List UInt8) : strL Tryz.prog 37 9 (bys l) 1 = some (.string (sB l)) := by
  unfold strL
  rw [und37, und9]
  dsimp only
  rw [und5, bytesOf_bys]
  rfl
theorem sB_eq (l m : List UInt8) : ((sB l).toList == (sB m).toList) = (l == m) := by
  rw [ByteArray.toList_eq, ByteArray.toList_eq]
  rfl


end Go.Proofs.YtcjjlajpbakaoaaGreatDoor

/-
  SUPERBLOCK (chapter 36): boxes of superblocks in an open heap; a draft's superblock by its parts.
-/
namespace Go.Proofs.YtcjjlajpbakaoaaGreatDoor
open Go.Va

def supL (e a b c d s : Int) : List Value := [.int .i64 e, .int .i64 a, .int .i64 b, .int .i64 c, .int .i64 d, .int .u64 s]
def bx (t : Nat) (e a b c d s : Int) : AObj := .cells (supL e a b c d s) true (none, some t) none
def drL (e l s c t sd : Int) : List Value := [.int .u64 e, .int .u16 l, .int .u16 s, .int .u16 c, .int .u8 t, .int .u64 sd]

/-! ## An open heap: structs are written and read -/

theorem z36_spl (l : List Value) (h : l.length = 6) : spl z36 (0 + 0) l = l := by
  unfold spl
  rw [h, Nat.zero_add, List.take_zero, List.nil_append, show z36.drop (0 + 6) = [] from rfl, List.append_nil]
theorem store36 (σ : AS) (e a b c d s : Int) : (σ.push (.cells z36 true (none, some 36) none)).setCells 0 ⟨σ.next, 0, none⟩ (supL e a b c d s) 0 = some (σ.push (bx 36 e a b c d s)) := by
  rw [setCells_all (Nat.zero_le _) (supL e a b c d s) _ z36 0 0 (get_push_eq rfl) (by show 0 + 0 + 6 ≤ 6; omega) rfl, z36_spl _ rfl, push_put]
  rfl
theorem info36 : ∃ i, Tryz.prog.info? 36 = some i ∧ i.size = 6 := by
  have h : (Tryz.prog.info? 36).map (·.size) = some 6 := by kernel_rfl
  cases hi : Tryz.prog.info? 36 with
  | none => rw [hi] at h; cases h
  | some i => rw [hi] at h; exact ⟨i, rfl, Option.some.inj h⟩
theorem load36 {σ : AS} {p : Nat} {e a b c d s : Int} (h : σ.get p = some (bx 36 e a b c d s)) (lim : Nat) : runA Tryz.prog lim (loadVar 36 ⟨p, 0, none⟩) σ = some (sup e a b c d s, σ) := by
  obtain ⟨i, hi, hs⟩ := info36
  unfold loadVar isAgg
  rw [runA_bind, runA_bind, runA_underlying, und36]
  dsimp only [Option.map]
  rw [show runA Tryz.prog lim (Pure.pure true : Sem Bool) σ = some (true, σ) from rfl]
  dsimp only
  rw [if_pos rfl, runA_bind, runA_sizeOf, hi]
  dsimp only [Option.map]
  rw [hs, runA_bind]
  unfold loadCells
  rw [loadCells_of h 6 0 #[] (by show 0 + 0 + 6 ≤ 6; omega)]
  rfl

/-- A draft's superblock, by its parts. -/
theorem made_parts (e l s c t sd : Nat) (hsd : sd < 18446744073709551616) : ∃ E a b k d S : Nat, made e l s c t sd = sup E a b k d S ∧ 1 ≤ E ∧ E ≤ 1099511627776 ∧ chk a b k d S = true ∧ S < 18446744073709551616 :=
  ⟨_, _, _, _, _, _, rfl, by omega, by have := Nat.mod_lt e (show 0 < 1099511627776 by omega); omega, chk_made e l s c t sd, by cases Nat.beq (t % 3) 2 <;> simp only [cond_true, cond_false] <;> omega⟩
theorem encV_ok (e a b c d s : Nat) (h1 : 1 ≤ e) (h2 : e ≤ 1099511627776) (hc : chk a b c d s = true) : encV e a b c d s = .tuple #[L (bys (encL e a b c d s)) 128 1 1, .int .i64 0] := by
  have hv : vld e a b c d s = true := by unfold vld; rw [decide_eq_true (show (e : Int) ≥ 1 by omega), decide_eq_true (show (e : Int) ≤ 1099511627776 by omega), hc]; rfl
  unfold encV
  rw [hv]
  simp only [Int.toNat_natCast, cond_true]

end Go.Proofs.YtcjjlajpbakaoaaGreatDoor
