/-
  SUPERBLOCK (chapter 36): crc32c.Unseal of 29 bytes.
-/
import Derived.Test.YtcjjlajpbakaoaaGreatDoorD36ae
namespace Go.Proofs.YtcjjlajpbakaoaaGreatDoor
open Go.Va

def frC (c : List Value) : List Value := (c.drop (0 * 1)).take ((25 - 0) * 1)
theorem unseal_ok (c c6 : List Value) (g : Nat) (a1 : ∀ σ, (envT t15).ov 57 [L (frC c) 25 1 11] 0 σ = some (L c6 29 1 0, σ)) (a2 : ∀ σ, (envT t15).ov 111 [L c6 29 1 0, L c 29 1 g] 0 σ = some (.bool true, σ)) (hv : PF (.tuple #[strip (L (frC c) 25 1 11), .int .i64 0])) :
    Pure Tryz.prog 9 tabs 63 [L c 29 1 g] (.tuple #[strip (L (frC c) 25 1 11), .int .i64 0]) :=
  pureXH t15_ok (n := 600) (v := .tuple #[L (frC c) 25 1 11, .int .i64 0]) [(22, .ov (L c6 29 1 0)), (1, .ov (.bool true))]
    [∀ σ, (envT t15).ov 57 [L (frC c) 25 1 11] 0 σ = some (L c6 29 1 0, σ), ∀ σ, (envT t15).ov 111 [L c6 29 1 0, L c 29 1 g] 0 σ = some (.bool true, σ)] (by kernel_rfl) ⟨a1, a2⟩ (shed_pair _ _) hv
theorem unseal_no (c c6 : List Value) (g : Nat) (a1 : ∀ σ, (envT t15).ov 57 [L (frC c) 25 1 11] 0 σ = some (L c6 29 1 0, σ)) (a2 : ∀ σ, (envT t15).ov 111 [L c6 29 1 0, L c 29 1 g] 0 σ = some (.bool false, σ)) :
    Pure Tryz.prog 9 tabs 63 [L c 29 1 g] (.tuple #[.slice none 0 0, .int .i64 12]) :=
  pureT t15_ok (n := 600) (v := .tuple #[.slice none 0 0, .int .i64 12]) [(22, .ov (L c6 29 1 0)), (1, .ov (.bool false))]
    [∀ σ, (envT t15).ov 57 [L (frC c) 25 1 11] 0 σ = some (L c6 29 1 0, σ), ∀ σ, (envT t15).ov 111 [L c6 29 1 0, L c 29 1 g] 0 σ = some (.bool false, σ)] (by kernel_rfl) ⟨a1, a2⟩ rfl (plain_PF 100 _ rfl)

theorem p63 (l : List UInt8) (g : Nat) (hg : g ≤ 1) (hl : l.length = 29) : Pure Tryz.prog 9 tabs 63 [L (bys l) 29 1 g] (bif sealL (l.take 25) == l then .tuple #[L (bys (l.take 25)) 25 1 0, .int .i64 0] else .tuple #[.slice none 0 0, .int .i64 12]) := by
  have hf : frC (bys l) = bys (l.take 25) := by
    unfold frC bys
    simp
  have hl25 : (l.take 25).length = 25 := by simp; omega
  have hs : (sealL (l.take 25)).length = 29 := by simp [sealL, be4]; omega
  have a1 : ∀ σ, (envT t15).ov 57 [L (frC (bys l)) 25 1 11] 0 σ = some (L (bys (sealL (l.take 25))) 29 1 0, σ) := fun σ => by
    rw [hf]
    refine envK rfl rfl (show [strip (L (bys (l.take 25)) 25 1 11)] = [L (bys (l.take 25)) (l.take 25).length 1 0] by rw [hl25]; rfl) ?_ ?_
    · show (flatB 100 (L (bys (l.take 25)) (l.take 25).length 1 0) && true) = true
      rw [flat_L (by omega)]; rfl
    · show k57 [L (bys (l.take 25)) (l.take 25).length 1 0] = _
      unfold k57
      dsimp only
      rw [asL_L', asB_L (by omega) (by omega)]
      dsimp only
      rw [hl25]
      rfl
  have a2 : ∀ σ, (envT t15).ov 111 [L (bys (sealL (l.take 25))) 29 1 0, L (bys l) 29 1 g] 0 σ = some (.bool (sealL (l.take 25) == l), σ) := fun σ => by
    refine envK rfl rfl (show [strip (L (bys (sealL (l.take 25))) 29 1 0), strip (L (bys l) 29 1 g)] = [L (bys (sealL (l.take 25))) (sealL (l.take 25)).length 1 0, L (bys l) l.length 1 g] by rw [strip_le hg, strip_le (by omega), hs, hl]) ?_ ?_
    · show (flatB 100 (L (bys (sealL (l.take 25))) (sealL (l.take 25)).length 1 0) && (flatB 100 (L (bys l) l.length 1 g) && true)) = true
      rw [flat_L (by omega), flat_L hg]; rfl
    · show k111 [L (bys (sealL (l.take 25))) (sealL (l.take 25)).length 1 0, L (bys l) l.length 1 g] = _
      unfold k111
      dsimp only
      rw [asB_L (by omega) (by omega), asB_L hg (by omega)]
  cases h : (sealL (l.take 25) == l) with
  | true =>
    rw [h] at a2
    have := unseal_ok (bys l) _ g a1 a2 (by
      rw [hf]; exact PF_pair (PF_list (by omega) (bys_PF _)) (.int _ _))
    rw [hf] at this
    exact this
  | false =>
    rw [h] at a2
    exact unseal_no (bys l) _ g a1 a2

end Go.Proofs.YtcjjlajpbakaoaaGreatDoor
