/-
  SUPERBLOCK (chapter 36): works is true.
-/
import Derived.Test.YtcjjlajpbakaoaaGreatDoorD36e
namespace Go.Proofs.YtcjjlajpbakaoaaGreatDoor
open Go.Va

def smp (e : Int) : Value := .agg ⟨[.int .i64 e, .int .i64 200, .int .i64 40, .int .i64 4, .int .i64 2, .int .u64 7]⟩
def sup0 : Value := .agg ⟨[.int .i64 0, .int .i64 0, .int .i64 0, .int .i64 0, .int .i64 0, .int .u64 0]⟩
def enc3 : List UInt8 := [0, 0, 0, 0, 0, 0, 0, 3, 84, 69, 77, 80, 0, 0, 0, 200, 0, 0, 0, 40, 0, 0, 0, 4, 2, 0, 0, 0, 0, 0, 0, 0, 7, 50, 22, 31, 11, 0, 0, 0, 0, 0, 0, 0, 0, 0, 0, 0, 0, 0, 0, 0, 0, 0, 0, 0, 0, 0, 0, 0, 0, 0, 0, 0, 0, 0, 0, 0, 0, 0, 0, 0, 0, 0, 0, 0, 0, 0, 0, 0, 0, 0, 0, 0, 0, 0, 0, 0, 0, 0, 0, 0, 0, 0, 0, 0, 0, 0, 0, 0, 0, 0, 0, 0, 0, 0, 0, 0, 0, 0, 0, 0, 0, 0, 0, 0, 0, 0, 0, 0, 0, 0, 0, 0, 0, 0, 0, 3]
def enc4 : List UInt8 := [0, 0, 0, 0, 0, 0, 0, 4, 84, 69, 77, 80, 0, 0, 0, 200, 0, 0, 0, 40, 0, 0, 0, 4, 2, 0, 0, 0, 0, 0, 0, 0, 7, 50, 22, 31, 11, 0, 0, 0, 0, 0, 0, 0, 0, 0, 0, 0, 0, 0, 0, 0, 0, 0, 0, 0, 0, 0, 0, 0, 0, 0, 0, 0, 0, 0, 0, 0, 0, 0, 0, 0, 0, 0, 0, 0, 0, 0, 0, 0, 0, 0, 0, 0, 0, 0, 0, 0, 0, 0, 0, 0, 0, 0, 0, 0, 0, 0, 0, 0, 0, 0, 0, 0, 0, 0, 0, 0, 0, 0, 0, 0, 0, 0, 0, 0, 0, 0, 0, 0, 0, 0, 0, 0, 0, 0, 0, 4]
def zer : List UInt8 := List.replicate 128 0
def L1 (l : List UInt8) : Value := L (bys l) 128 1 1
set_option maxRecDepth 1000000
theorem enc_3 : Pure Tryz.prog 9 tabs 22 [smp 3] (.tuple #[L1 enc3, .int .i64 0]) :=
  pureT t3_ok (n := 1000) (v := .tuple #[L1 enc3, .int .i64 0]) [] [] (by kernel_rfl) trivial rfl (PF_pair (PF_list (by omega) (bys_PF _)) (.int _ _))
theorem enc_4 : Pure Tryz.prog 9 tabs 22 [smp 4] (.tuple #[L1 enc4, .int .i64 0]) :=
  pureT t3_ok (n := 1000) (v := .tuple #[L1 enc4, .int .i64 0]) [] [] (by kernel_rfl) trivial rfl (PF_pair (PF_list (by omega) (bys_PF _)) (.int _ _))

/-- One value, and no other. -/
def veqS : List Value → List Value → Bool
  | [.agg ⟨a⟩], [.agg ⟨b⟩] => veqL a b
  | _, _ => false
theorem veqS_eq {a b : List Value} (h : veqS a b = true) : a = b := by
  unfold veqS at h
  split at h
  · rw [veqL_eq h]
  · cases h
def k22c (args : List Value) : Option Value :=
  bif veqS args [smp 3] then some (.tuple #[L1 enc3, .int .i64 0]) else bif veqS args [smp 4] then some (.tuple #[L1 enc4, .int .i64 0]) else none
theorem k22c_ok : KOk Tryz.prog 9 tabs 22 k22c := by
  intro args v h
  unfold k22c at h
  cases h3 : veqS args [smp 3] with
  | true => rw [h3] at h; cases h; rw [veqS_eq h3]; exact enc_3
  | false =>
    rw [h3, cond_false] at h
    cases h4 : veqS args [smp 4] with
    | true => rw [h4] at h; cases h; rw [veqS_eq h4]; exact enc_4
    | false => rw [h4] at h; cases h
def t4 : Ktab := (22, k22c) :: t3
theorem t4_ok : TOk Tryz.prog 9 tabs t4 := ⟨k22c_ok, t3_ok⟩

theorem dec_0 : Pure Tryz.prog 9 tabs 25 [L1 zer] (.tuple #[sup0, .int .i64 8]) :=
  pureT t4_ok (n := 1000) (v := .tuple #[sup0, .int .i64 8]) [] [] (by kernel_rfl) trivial rfl (plain_PF 100 _ rfl)
theorem dec_3 : Pure Tryz.prog 9 tabs 25 [L1 enc3] (.tuple #[smp 3, .int .i64 0]) :=
  pureT t4_ok (n := 1000) (v := .tuple #[smp 3, .int .i64 0]) [] [] (by kernel_rfl) trivial rfl (plain_PF 100 _ rfl)
theorem dec_4 : Pure Tryz.prog 9 tabs 25 [L1 enc4] (.tuple #[smp 4, .int .i64 0]) :=
  pureT t4_ok (n := 1000) (v := .tuple #[smp 4, .int .i64 0]) [] [] (by kernel_rfl) trivial rfl (plain_PF 100 _ rfl)

end Go.Proofs.YtcjjlajpbakaoaaGreatDoor
