/-
  SUPERBLOCK (chapter 36): frame.Unstamp, frame.Unseal replaced.
-/
import Derived.Test.YtcjjlajpbakaoaaGreatDoorD36af
namespace Go.Proofs.YtcjjlajpbakaoaaGreatDoor
open Go.Va

theorem k61_eq (l : List UInt8) (a w g : Nat) (hg : g ≤ 1) (h : a + w ≤ l.length) (hl : l.length < 1000000) (hw : w = 1 ∨ w = 4 ∨ w = 8) : k61 [L (bys l) l.length 1 g, .int .i64 (a : Int), .int .i64 (w : Int)] = some (.tuple #[.int .u64 (valB ((l.drop a).take w) : Nat), .int .i64 0]) := by
  unfold k61
  dsimp only
  rw [asL_L', asB_L hg (by omega)]
  dsimp only
  rw [decide_eq_true (show (0 : Int) ≤ (a : Int) by omega), decide_eq_true (show (a : Int) + (w : Int) ≤ l.length by omega), show Nat.blt l.length 1000000 = true from blt_iff.2 hl, Int.toNat_natCast, Int.toNat_natCast]
  rcases hw with rfl | rfl | rfl <;> rfl
theorem ov14_61 (l : List UInt8) (a w g : Nat) (hg : g ≤ 1) (h : a + w ≤ l.length) (hl : l.length < 1000000) (hw : w = 1 ∨ w = 4 ∨ w = 8) (lim : Nat) (σ : AS) :
    (envT t14).ov 61 [L (bys l) l.length 1 g, .int .i64 (a : Int), .int .i64 (w : Int)] lim σ = some (.tuple #[.int .u64 (valB ((l.drop a).take w) : Nat), .int .i64 0], σ) := by
  refine envK rfl rfl (show [strip (L (bys l) l.length 1 g), strip (.int .i64 (a : Int)), strip (.int .i64 (w : Int))] = [L (bys l) l.length 1 g, .int .i64 (a : Int), .int .i64 (w : Int)] by rw [strip_le hg]; rfl) ?_ ?_
  · show (flatB 100 (L (bys l) l.length 1 g) && (flatB 100 (.int .i64 (a : Int)) && (flatB 100 (.int .i64 (w : Int)) && true))) = true
    rw [flat_L hg]; rfl
  · exact k61_eq l a w g hg h hl hw

def stamped (e : Nat) (l : List UInt8) : Bool := valB ((l.drop 0).take 8) == e && valB ((l.drop 120).take 8) == e
theorem bne_nat (a b : Nat) : ((a : Int) != (b : Int)) = !(a == b) := by
  cases h : a == b with
  | true => rw [eq_of_beq h]; simp
  | false => rw [Bool.not_false, bne_iff_ne]; intro he; rw [Int.ofNat.inj he, beq_self_eq_true] at h; cases h
theorem p62 (l : List UInt8) (e g : Nat) (hg : g ≤ 1) (h1 : 1 ≤ e) (h2 : e ≤ 1099511627776) (hl : 128 ≤ l.length) (hl2 : l.length < 1000000) :
    Pure Tryz.prog 9 tabs 62 [L (bys l) l.length 1 g, .int .i64 (e : Int)] (bif stamped e l then .tuple #[L (bys ((l.drop 8).take 112)) 112 1 0, .int .i64 0] else .tuple #[.slice none 0 0, .int .i64 13]) := by
  have b1 : decide ((e : Int) ≥ 1) = true := decide_eq_true (by omega)
  have b2 : (!decide ((e : Int) ≤ 1099511627776)) = false := by rw [decide_eq_true (by omega)]; rfl
  have b3 : decide ((l.length : Int) < 128) = false := decide_eq_false (by omega)
  have a1 : ∀ σ, (envT t14).ov 61 [L (bys l) l.length 1 g, .int .i64 0, .int .i64 8] 0 σ = some (.tuple #[.int .u64 (valB ((l.drop 0).take 8) : Nat), .int .i64 0], σ) := fun σ => ov14_61 l 0 8 g hg (by omega) hl2 (by omega) 0 σ
  have a2 : ∀ σ, (envT t14).ov 61 [L (bys l) l.length 1 g, .int .i64 120, .int .i64 8] 0 σ = some (.tuple #[.int .u64 (valB ((l.drop 120).take 8) : Nat), .int .i64 0], σ) := fun σ => ov14_61 l 120 8 g hg (by omega) hl2 (by omega) 0 σ
  have hw : IntKind.u64.wrap (e : Int) = e := wrapU (by omega)
  unfold stamped
  cases c1 : (valB ((l.drop 0).take 8) == e) with
  | false =>
    exact un_no1 e _ (bys l) l.length g b1 b2 b3 a1 (by rw [hw, bne_nat, c1]; rfl)
  | true =>
    cases c2 : (valB ((l.drop 120).take 8) == e) with
    | false => exact un_no2 e _ _ (bys l) l.length g b1 b2 b3 a1 (by rw [hw, bne_nat, c1]; rfl) a2 (by rw [hw, bne_nat, c2]; rfl)
    | true =>
      have hf : unC (bys l) = bys ((l.drop 8).take 112) := by unfold unC bys; simp
      have := un_ok e _ _ (bys l) l.length g b1 b2 b3 a1 (by rw [hw, bne_nat, c1]; rfl) a2 (by rw [hw, bne_nat, c2]; rfl) (by
        rw [hf]; exact PF_pair (PF_list (by omega) (bys_PF _)) (.int _ _))
      rw [hf] at this
      exact this

end Go.Proofs.YtcjjlajpbakaoaaGreatDoor
