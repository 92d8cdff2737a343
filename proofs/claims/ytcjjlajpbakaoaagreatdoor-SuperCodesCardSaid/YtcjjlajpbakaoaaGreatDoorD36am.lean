/-
  SUPERBLOCK (chapter 36): the document's Seal of 25 bytes.
-/
import Derived.Test.YtcjjlajpbakaoaaGreatDoorPart1
import Derived.Test.YtcjjlajpbakaoaaGreatDoorD36ah
namespace Go.Proofs.YtcjjlajpbakaoaaGreatDoor
open Go.Va

def rC : Ktab := (151, k151) :: t3
theorem rC_ok : TOk Tryz.prog 9 tabs rC := ⟨k151_ok, t3_ok⟩
def sealD (c : List Value) (X : Int) : List Value := c ++ [.int .u8 (ru X 24), .int .u8 (ru X 16), .int .u8 (ru X 8), .int .u8 (IntKind.u8.wrap X)]
set_option maxRecDepth 100000 in
theorem sealR_raw (c : List Value) (g : Nat) (X : Int) (h1 : ∀ σ, (envT rC).ov 151 [.int .u32 0, L c 25 1 g] 0 σ = some (.int .u32 X, σ)) (hv : PF (strip (L (sealD c X) 29 1 11))) :
    Pure Tryz.prog 9 tabs 60 [L c 25 1 g] (strip (L (sealD c X) 29 1 11)) :=
  pureT rC_ok (n := 300) (v := L (sealD c X) 29 1 11) [(5, .ov (.int .u32 X)), (19, .ok)]
    [∀ σ, (envT rC).ov 151 [.int .u32 0, L c 25 1 g] 0 σ = some (.int .u32 X, σ), c.length = c.length ∧ (25 + 4) * 1 ≤ 70368744177664]
    (by kernel_rfl) ⟨h1, rfl, by omega⟩ rfl hv
theorem p60 (l : List UInt8) (g : Nat) (hg : g ≤ 1) (hl : l.length = 25) : Pure Tryz.prog 9 tabs 60 [L (bys l) 25 1 g] (L (bys (sealL l)) 29 1 0) := by
  have hx := crcU_lt 0 l (by omega)
  generalize hX : crcU 0 l = X at hx
  have e : strip (L (sealD (bys l) X) 29 1 11) = L (bys (sealL l)) 29 1 0 := by
    show L (sealD (bys l) X) 29 1 0 = _
    have e1 : sealD (bys l) X = bys (sealL l) := by
      unfold sealD sealL be4
      rw [hX, show ru (X : Int) 24 = ((byt X 24).toNat : Int) from ru_nat X 24 (by omega), show ru (X : Int) 16 = ((byt X 16).toNat : Int) from ru_nat X 16 (by omega), show ru (X : Int) 8 = ((byt X 8).toNat : Int) from ru_nat X 8 (by omega)]
      have e0 : IntKind.u8.wrap (X : Int) = ((byt X 0).toNat : Int) := by
        rw [wrap8]; unfold byt; simp
      rw [e0]
      unfold bys
      simp
    rw [e1]
  rw [← e]
  refine sealR_raw (bys l) g X (fun σ => ?_) ?_
  · refine envK rfl rfl (show [strip (.int .u32 0), strip (L (bys l) 25 1 g)] = [.int .u32 0, L (bys l) l.length 1 g] by rw [strip_le hg, hl]; rfl) ?_ ?_
    · show (flatB 100 (.int .u32 0) && (flatB 100 (L (bys l) l.length 1 g) && true)) = true
      rw [flat_L hg]; rfl
    · show k151 [.int .u32 0, L (bys l) l.length 1 g] = _
      unfold k151
      dsimp only
      rw [asL_L', asB_L hg (by omega)]
      show some (Value.int .u32 (crcU 0 l : Nat)) = _
      rw [hX]
  · rw [e]
    exact PF_list (by omega) (bys_PF _)
def k60 : List Value → Option Value
  | [v] => (match asL v, asB v with
    | some _, some l => bif Nat.beq l.length 25 then some (L (bys (sealL l)) 29 1 0) else none
    | _, _ => none)
  | _ => none
theorem k60_ok : KOk Tryz.prog 9 tabs 60 k60 := by
  intro args u h
  unfold k60 at h
  split at h
  · rename_i v
    split at h
    · rename_i x l hL hB
      rcases asB_spec hB with ⟨rfl, _⟩ | ⟨g, hg, rfl, _⟩
      · cases hL
      · cases hb : Nat.beq l.length 25 with
        | false => rw [hb] at h; cases h
        | true =>
          rw [hb, cond_true] at h
          cases h
          have h25 := Nat.eq_of_beq_eq_true hb
          rw [h25]
          exact p60 l g hg h25
    · cases h
  · cases h

end Go.Proofs.YtcjjlajpbakaoaaGreatDoor
