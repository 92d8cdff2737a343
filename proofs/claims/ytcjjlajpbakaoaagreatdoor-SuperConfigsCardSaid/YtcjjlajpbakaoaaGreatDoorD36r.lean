/-
  SUPERBLOCK (chapter 36): frame.Stamp.
-/
import Derived.Test.YtcjjlajpbakaoaaGreatDoorD36q
namespace Go.Proofs.YtcjjlajpbakaoaaGreatDoor
open Go.Va

theorem app8n_raw (n k : Int) (h1 : ∀ σ, (envT t9).ov 104 [.int .u64 n] 0 σ = some (.int .i64 k, σ)) (h2 : decide (k > 64) = false) (hv : PF (.tuple #[strip (L [.int .u8 (rb n 56), .int .u8 (rb n 48), .int .u8 (rb n 40), .int .u8 (rb n 32), .int .u8 (rb n 24), .int .u8 (rb n 16), .int .u8 (rb n 8), .int .u8 (rb n 0)] 8 1 11), .int .i64 0])) :
    Pure Tryz.prog 9 tabs 55 [.slice none 0 0, .int .u64 n, .int .i64 8] (.tuple #[strip (L [.int .u8 (rb n 56), .int .u8 (rb n 48), .int .u8 (rb n 40), .int .u8 (rb n 32), .int .u8 (rb n 24), .int .u8 (rb n 16), .int .u8 (rb n 8), .int .u8 (rb n 0)] 8 1 11), .int .i64 0]) :=
  pureXH t9_ok (n := 300) (v := .tuple #[L [.int .u8 (rb n 56), .int .u8 (rb n 48), .int .u8 (rb n 40), .int .u8 (rb n 32), .int .u8 (rb n 24), .int .u8 (rb n 16), .int .u8 (rb n 8), .int .u8 (rb n 0)] 8 1 11, .int .i64 0]) [(16, .ov (.int .i64 k)), (4, .br false)]
    [∀ σ, (envT t9).ov 104 [.int .u64 n] 0 σ = some (.int .i64 k, σ), decide (k > 64) = false] (by kernel_rfl) ⟨h1, h2⟩ (shed_pair _ _) hv
theorem p55n (n : Nat) (hn : n < 18446744073709551616) : Pure Tryz.prog 9 tabs 55 [.slice none 0 0, .int .u64 n, .int .i64 8] (.tuple #[L (bys (be8 n)) 8 1 0, .int .i64 0]) := by
  have e : strip (L [.int .u8 (rb n 56), .int .u8 (rb n 48), .int .u8 (rb n 40), .int .u8 (rb n 32), .int .u8 (rb n 24), .int .u8 (rb n 16), .int .u8 (rb n 8), .int .u8 (rb n 0)] 8 1 11) = L (bys (be8 n)) 8 1 0 := by
    show L [.int .u8 (rb n 56), .int .u8 (rb n 48), .int .u8 (rb n 40), .int .u8 (rb n 32), .int .u8 (rb n 24), .int .u8 (rb n 16), .int .u8 (rb n 8), .int .u8 (rb n 0)] 8 1 0 = _
    rw [show rb (n : Int) 56 = ((byt n 56).toNat : Int) from rb_nat n 56 (by omega), show rb (n : Int) 48 = ((byt n 48).toNat : Int) from rb_nat n 48 (by omega), show rb (n : Int) 40 = ((byt n 40).toNat : Int) from rb_nat n 40 (by omega), show rb (n : Int) 32 = ((byt n 32).toNat : Int) from rb_nat n 32 (by omega),
      show rb (n : Int) 24 = ((byt n 24).toNat : Int) from rb_nat n 24 (by omega), show rb (n : Int) 16 = ((byt n 16).toNat : Int) from rb_nat n 16 (by omega), show rb (n : Int) 8 = ((byt n 8).toNat : Int) from rb_nat n 8 (by omega), show rb (n : Int) 0 = ((byt n 0).toNat : Int) from rb_nat n 0 (by omega)]
    rfl
  rw [← e]
  refine app8n_raw n (Lib.bitLen n) (fun σ => ?_) (decide_eq_false ?_) ?_
  · have := ov9_104 (n := (n : Int)) (by omega) (by omega) 0 σ
    rw [Int.toNat_natCast] at this
    exact this
  · have := bitLen_le (w := 64) hn
    omega
  · rw [e]
    exact PF_pair (PF_list (by omega) (bys_PF _)) (.int _ _)
def k55n : List Value → Option Value
  | [.slice none 0 0, .int .u64 n, .int .i64 w] => bif decide (w = 8) && decide (0 ≤ n) && decide (n < 18446744073709551616) then some (.tuple #[L (bys (be8 n.toNat)) 8 1 0, .int .i64 0]) else none
  | args => k55 args
theorem k55n_ok : KOk Tryz.prog 9 tabs 55 k55n := by
  intro args u h
  unfold k55n at h
  split at h
  · rename_i n w
    cases hb : (decide (w = 8) && decide (0 ≤ n) && decide (n < 18446744073709551616)) with
    | false => rw [hb] at h; cases h
    | true =>
      rw [hb, cond_true] at h
      cases h
      simp only [Bool.and_eq_true, decide_eq_true_eq] at hb
      obtain ⟨⟨rfl, h0⟩, h1⟩ := hb
      obtain ⟨k, rfl⟩ := Int.eq_ofNat_of_zero_le h0
      rw [Int.toNat_natCast]
      exact p55n k (by omega)
  · exact k55_ok _ _ h
def t11 : Ktab := (55, k55n) :: (57, k57) :: t9
theorem t11_ok : TOk Tryz.prog 9 tabs t11 := ⟨k55n_ok, k57_ok, t9_ok⟩

end Go.Proofs.YtcjjlajpbakaoaaGreatDoor
