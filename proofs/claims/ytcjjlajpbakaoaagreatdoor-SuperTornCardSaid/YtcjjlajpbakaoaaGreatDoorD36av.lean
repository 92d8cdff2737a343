/-
  SUPERBLOCK (chapter 36): the document's Decode.
-/
import Derived.Test.YtcjjlajpbakaoaaGreatDoorD36au
namespace Go.Proofs.YtcjjlajpbakaoaaGreatDoor
open Go.Va

def rF : Ktab := (65, k65) :: (66, k66) :: (67, k67) :: (23, k23) :: (68, k111) :: t3
theorem rF_ok : TOk Tryz.prog 9 tabs rF := ⟨k65_ok, k66_ok, k67_ok, k23_ok, k68_ok, t3_ok⟩
theorem rdec_short (c : List Value) (m g : Nat) (h1 : decide ((m : Int) < 128) = true) :
    Pure Tryz.prog 9 tabs 26 [L c m 1 g] (err 13) := by
  exact pureT rF_ok (n := 2000) (v := err 13) [(5, .br true)]
    [decide ((m : Int) < 128) = true] (by kernel_rfl) h1 rfl (plain_PF 100 _ rfl)
theorem rdec_ep1 (n1 : Int) (c : List Value) (m g : Nat) (h1 : decide ((m : Int) < 128) = false) (u1 : ∀ σ, (envT rF).ov 65 [L (c.take ((8 : Int).toNat * 1)) 8 1 0] 0 σ = some (.int .u64 n1, σ)) (h2 : decide (n1 < 1) = true) :
    Pure Tryz.prog 9 tabs 26 [L c m 1 g] (err 8) := by
  have hm : 128 ≤ m := by have := of_decide_eq_false h1; omega
  exact pureT rF_ok (n := 2000) (v := err 8) [(5, .br false), (1, .ok), (0, .ov (.int .u64 n1)), (3, .br true)]
    [decide ((m : Int) < 128) = false, (0 : Int) ≤ 8 ∧ (8 : Int) ≤ m, ∀ σ, (envT rF).ov 65 [L (c.take ((8 : Int).toNat * 1)) 8 1 0] 0 σ = some (.int .u64 n1, σ), decide (n1 < 1) = true] (by kernel_rfl) ⟨h1, ⟨by omega, by omega⟩, u1, h2⟩ rfl (plain_PF 100 _ rfl)
theorem rdec_ep2 (n1 : Int) (c : List Value) (m g : Nat) (h1 : decide ((m : Int) < 128) = false) (u1 : ∀ σ, (envT rF).ov 65 [L (c.take ((8 : Int).toNat * 1)) 8 1 0] 0 σ = some (.int .u64 n1, σ)) (h2 : decide (n1 < 1) = false) (h3 : decide (n1 > 1099511627776) = true) :
    Pure Tryz.prog 9 tabs 26 [L c m 1 g] (err 8) := by
  have hm : 128 ≤ m := by have := of_decide_eq_false h1; omega
  exact pureT rF_ok (n := 2000) (v := err 8) [(5, .br false), (1, .ok), (0, .ov (.int .u64 n1)), (3, .br false), (3, .br true)]
    [decide ((m : Int) < 128) = false, (0 : Int) ≤ 8 ∧ (8 : Int) ≤ m, ∀ σ, (envT rF).ov 65 [L (c.take ((8 : Int).toNat * 1)) 8 1 0] 0 σ = some (.int .u64 n1, σ), decide (n1 < 1) = false, decide (n1 > 1099511627776) = true] (by kernel_rfl) ⟨h1, ⟨by omega, by omega⟩, u1, h2, h3⟩ rfl (plain_PF 100 _ rfl)
theorem rdec_uns (n1 : Int) (c : List Value) (m g : Nat) (h1 : decide ((m : Int) < 128) = false) (u1 : ∀ σ, (envT rF).ov 65 [L (c.take ((8 : Int).toNat * 1)) 8 1 0] 0 σ = some (.int .u64 n1, σ)) (h2 : decide (n1 < 1) = false) (h3 : decide (n1 > 1099511627776) = false) (s1 : ∀ σ, (envT rF).ov 66 [L c m 1 g, .int .i64 (wI n1)] 0 σ = some (.tuple #[.slice none 0 0, .int .i64 13], σ)) :
    Pure Tryz.prog 9 tabs 26 [L c m 1 g] (err 13) := by
  have hm : 128 ≤ m := by have := of_decide_eq_false h1; omega
  exact pureT rF_ok (n := 2000) (v := err 13) [(5, .br false), (1, .ok), (0, .ov (.int .u64 n1)), (3, .br false), (3, .br false), (3, .ov (.tuple #[.slice none 0 0, .int .i64 13]))]
    [decide ((m : Int) < 128) = false, (0 : Int) ≤ 8 ∧ (8 : Int) ≤ m, ∀ σ, (envT rF).ov 65 [L (c.take ((8 : Int).toNat * 1)) 8 1 0] 0 σ = some (.int .u64 n1, σ), decide (n1 < 1) = false, decide (n1 > 1099511627776) = false, ∀ σ, (envT rF).ov 66 [L c m 1 g, .int .i64 (wI n1)] 0 σ = some (.tuple #[.slice none 0 0, .int .i64 13], σ)] (by kernel_rfl) ⟨h1, ⟨by omega, by omega⟩, u1, h2, h3, s1⟩ rfl (plain_PF 100 _ rfl)
theorem rdec_sum (n1 : Int) (c c2 : List Value) (m g : Nat) (h1 : decide ((m : Int) < 128) = false) (u1 : ∀ σ, (envT rF).ov 65 [L (c.take ((8 : Int).toNat * 1)) 8 1 0] 0 σ = some (.int .u64 n1, σ)) (h2 : decide (n1 < 1) = false) (h3 : decide (n1 > 1099511627776) = false) (s1 : ∀ σ, (envT rF).ov 66 [L c m 1 g, .int .i64 (wI n1)] 0 σ = some (.tuple #[L c2 112 1 0, .int .i64 0], σ)) (s2 : ∀ σ, (envT rF).ov 67 [L (cut29 c2) 29 1 0] 0 σ = some (.tuple #[.slice none 0 0, .int .i64 12], σ)) :
    Pure Tryz.prog 9 tabs 26 [L c m 1 g] (err 12) := by
  have hm : 128 ≤ m := by have := of_decide_eq_false h1; omega
  exact pureT rF_ok (n := 2000) (v := err 12) [(5, .br false), (1, .ok), (0, .ov (.int .u64 n1)), (3, .br false), (3, .br false), (3, .ov (.tuple #[L c2 112 1 0, .int .i64 0])), (10, .ov (.tuple #[.slice none 0 0, .int .i64 12]))]
    [decide ((m : Int) < 128) = false, (0 : Int) ≤ 8 ∧ (8 : Int) ≤ m, ∀ σ, (envT rF).ov 65 [L (c.take ((8 : Int).toNat * 1)) 8 1 0] 0 σ = some (.int .u64 n1, σ), decide (n1 < 1) = false, decide (n1 > 1099511627776) = false, ∀ σ, (envT rF).ov 66 [L c m 1 g, .int .i64 (wI n1)] 0 σ = some (.tuple #[L c2 112 1 0, .int .i64 0], σ), ∀ σ, (envT rF).ov 67 [L (cut29 c2) 29 1 0] 0 σ = some (.tuple #[.slice none 0 0, .int .i64 12], σ)] (by kernel_rfl) ⟨h1, ⟨by omega, by omega⟩, u1, h2, h3, s1, s2⟩ rfl (plain_PF 100 _ rfl)
theorem rdec_inv (n1 n2 n3 n4 x n6 : Int) (c c2 c3 : List Value) (m g : Nat) (h1 : decide ((m : Int) < 128) = false) (u1 : ∀ σ, (envT rF).ov 65 [L (c.take ((8 : Int).toNat * 1)) 8 1 0] 0 σ = some (.int .u64 n1, σ)) (h2 : decide (n1 < 1) = false) (h3 : decide (n1 > 1099511627776) = false) (s1 : ∀ σ, (envT rF).ov 66 [L c m 1 g, .int .i64 (wI n1)] 0 σ = some (.tuple #[L c2 112 1 0, .int .i64 0], σ)) (s2 : ∀ σ, (envT rF).ov 67 [L (cut29 c2) 29 1 0] 0 σ = some (.tuple #[L c3 25 1 0, .int .i64 0], σ)) (u2 : ∀ σ, (envT rF).ov 65 [L (ucut c2 4 8) 4 1 0] 0 σ = some (.int .u64 n2, σ)) (u3 : ∀ σ, (envT rF).ov 65 [L (ucut c2 8 12) 4 1 0] 0 σ = some (.int .u64 n3, σ)) (u4 : ∀ σ, (envT rF).ov 65 [L (ucut c2 12 16) 4 1 0] 0 σ = some (.int .u64 n4, σ)) (x1 : c2[16 * 1]? = some (.int .u8 x)) (u6 : ∀ σ, (envT rF).ov 65 [L (ucut c2 17 25) 8 1 0] 0 σ = some (.int .u64 n6, σ)) (e1 : ∀ σ, (envT rF).ov 23 [sup (wI n1) (wI n2) (wI n3) (wI n4) (wI x) n6] 0 σ = some (.tuple #[.slice none 0 0, .int .i64 2], σ)) :
    Pure Tryz.prog 9 tabs 26 [L c m 1 g] (err 8) := by
  have hm : 128 ≤ m := by have := of_decide_eq_false h1; omega
  exact pureT rF_ok (n := 2000) (v := err 8) [(5, .br false), (1, .ok), (0, .ov (.int .u64 n1)), (3, .br false), (3, .br false), (3, .ov (.tuple #[L c2 112 1 0, .int .i64 0])), (10, .ov (.tuple #[L c3 25 1 0, .int .i64 0])), (9, .ov (.int .u64 n2)), (3, .ov (.int .u64 n3)), (3, .ov (.int .u64 n4)), (3, .is (.int .u8 x)), (3, .ov (.int .u64 n6)), (10, .ov (.tuple #[.slice none 0 0, .int .i64 2]))]
    [decide ((m : Int) < 128) = false, (0 : Int) ≤ 8 ∧ (8 : Int) ≤ m, ∀ σ, (envT rF).ov 65 [L (c.take ((8 : Int).toNat * 1)) 8 1 0] 0 σ = some (.int .u64 n1, σ), decide (n1 < 1) = false, decide (n1 > 1099511627776) = false, ∀ σ, (envT rF).ov 66 [L c m 1 g, .int .i64 (wI n1)] 0 σ = some (.tuple #[L c2 112 1 0, .int .i64 0], σ), ∀ σ, (envT rF).ov 67 [L (cut29 c2) 29 1 0] 0 σ = some (.tuple #[L c3 25 1 0, .int .i64 0], σ), ∀ σ, (envT rF).ov 65 [L (ucut c2 4 8) 4 1 0] 0 σ = some (.int .u64 n2, σ), ∀ σ, (envT rF).ov 65 [L (ucut c2 8 12) 4 1 0] 0 σ = some (.int .u64 n3, σ), ∀ σ, (envT rF).ov 65 [L (ucut c2 12 16) 4 1 0] 0 σ = some (.int .u64 n4, σ), c2[16 * 1]? = some (.int .u8 x), ∀ σ, (envT rF).ov 65 [L (ucut c2 17 25) 8 1 0] 0 σ = some (.int .u64 n6, σ), ∀ σ, (envT rF).ov 23 [sup (wI n1) (wI n2) (wI n3) (wI n4) (wI x) n6] 0 σ = some (.tuple #[.slice none 0 0, .int .i64 2], σ)] (by kernel_rfl) ⟨h1, ⟨by omega, by omega⟩, u1, h2, h3, s1, s2, u2, u3, u4, x1, u6, e1⟩ rfl (plain_PF 100 _ rfl)
theorem rdec_ok (n1 n2 n3 n4 x n6 : Int) (c c2 c3 c7 : List Value) (m g : Nat) (h1 : decide ((m : Int) < 128) = false) (u1 : ∀ σ, (envT rF).ov 65 [L (c.take ((8 : Int).toNat * 1)) 8 1 0] 0 σ = some (.int .u64 n1, σ)) (h2 : decide (n1 < 1) = false) (h3 : decide (n1 > 1099511627776) = false) (s1 : ∀ σ, (envT rF).ov 66 [L c m 1 g, .int .i64 (wI n1)] 0 σ = some (.tuple #[L c2 112 1 0, .int .i64 0], σ)) (s2 : ∀ σ, (envT rF).ov 67 [L (cut29 c2) 29 1 0] 0 σ = some (.tuple #[L c3 25 1 0, .int .i64 0], σ)) (u2 : ∀ σ, (envT rF).ov 65 [L (ucut c2 4 8) 4 1 0] 0 σ = some (.int .u64 n2, σ)) (u3 : ∀ σ, (envT rF).ov 65 [L (ucut c2 8 12) 4 1 0] 0 σ = some (.int .u64 n3, σ)) (u4 : ∀ σ, (envT rF).ov 65 [L (ucut c2 12 16) 4 1 0] 0 σ = some (.int .u64 n4, σ)) (x1 : c2[16 * 1]? = some (.int .u8 x)) (u6 : ∀ σ, (envT rF).ov 65 [L (ucut c2 17 25) 8 1 0] 0 σ = some (.int .u64 n6, σ)) (e1 : ∀ σ, (envT rF).ov 23 [sup (wI n1) (wI n2) (wI n3) (wI n4) (wI x) n6] 0 σ = some (.tuple #[L c7 128 1 0, .int .i64 0], σ)) (q : ∀ σ, (envT rF).ov 68 [L c7 128 1 0, L (c.take ((128 : Int).toNat * 1)) 128 1 0] 0 σ = some (.bool true, σ)) :
    Pure Tryz.prog 9 tabs 26 [L c m 1 g] (.tuple #[sup (wI n1) (wI n2) (wI n3) (wI n4) (wI x) n6, .int .i64 0]) := by
  have hm : 128 ≤ m := by have := of_decide_eq_false h1; omega
  exact pureT rF_ok (n := 2000) (v := .tuple #[sup (wI n1) (wI n2) (wI n3) (wI n4) (wI x) n6, .int .i64 0]) [(5, .br false), (1, .ok), (0, .ov (.int .u64 n1)), (3, .br false), (3, .br false), (3, .ov (.tuple #[L c2 112 1 0, .int .i64 0])), (10, .ov (.tuple #[L c3 25 1 0, .int .i64 0])), (9, .ov (.int .u64 n2)), (3, .ov (.int .u64 n3)), (3, .ov (.int .u64 n4)), (3, .is (.int .u8 x)), (3, .ov (.int .u64 n6)), (10, .ov (.tuple #[L c7 128 1 0, .int .i64 0])), (10, .ok), (0, .ov (.bool true))]
    [decide ((m : Int) < 128) = false, (0 : Int) ≤ 8 ∧ (8 : Int) ≤ m, ∀ σ, (envT rF).ov 65 [L (c.take ((8 : Int).toNat * 1)) 8 1 0] 0 σ = some (.int .u64 n1, σ), decide (n1 < 1) = false, decide (n1 > 1099511627776) = false, ∀ σ, (envT rF).ov 66 [L c m 1 g, .int .i64 (wI n1)] 0 σ = some (.tuple #[L c2 112 1 0, .int .i64 0], σ), ∀ σ, (envT rF).ov 67 [L (cut29 c2) 29 1 0] 0 σ = some (.tuple #[L c3 25 1 0, .int .i64 0], σ), ∀ σ, (envT rF).ov 65 [L (ucut c2 4 8) 4 1 0] 0 σ = some (.int .u64 n2, σ), ∀ σ, (envT rF).ov 65 [L (ucut c2 8 12) 4 1 0] 0 σ = some (.int .u64 n3, σ), ∀ σ, (envT rF).ov 65 [L (ucut c2 12 16) 4 1 0] 0 σ = some (.int .u64 n4, σ), c2[16 * 1]? = some (.int .u8 x), ∀ σ, (envT rF).ov 65 [L (ucut c2 17 25) 8 1 0] 0 σ = some (.int .u64 n6, σ), ∀ σ, (envT rF).ov 23 [sup (wI n1) (wI n2) (wI n3) (wI n4) (wI x) n6] 0 σ = some (.tuple #[L c7 128 1 0, .int .i64 0], σ), (0 : Int) ≤ 128 ∧ (128 : Int) ≤ m, ∀ σ, (envT rF).ov 68 [L c7 128 1 0, L (c.take ((128 : Int).toNat * 1)) 128 1 0] 0 σ = some (.bool true, σ)] (by kernel_rfl) ⟨h1, ⟨by omega, by omega⟩, u1, h2, h3, s1, s2, u2, u3, u4, x1, u6, e1, ⟨by omega, by omega⟩, q⟩ rfl (plain_PF 100 _ rfl)
theorem rdec_no (n1 n2 n3 n4 x n6 : Int) (c c2 c3 c7 : List Value) (m g : Nat) (h1 : decide ((m : Int) < 128) = false) (u1 : ∀ σ, (envT rF).ov 65 [L (c.take ((8 : Int).toNat * 1)) 8 1 0] 0 σ = some (.int .u64 n1, σ)) (h2 : decide (n1 < 1) = false) (h3 : decide (n1 > 1099511627776) = false) (s1 : ∀ σ, (envT rF).ov 66 [L c m 1 g, .int .i64 (wI n1)] 0 σ = some (.tuple #[L c2 112 1 0, .int .i64 0], σ)) (s2 : ∀ σ, (envT rF).ov 67 [L (cut29 c2) 29 1 0] 0 σ = some (.tuple #[L c3 25 1 0, .int .i64 0], σ)) (u2 : ∀ σ, (envT rF).ov 65 [L (ucut c2 4 8) 4 1 0] 0 σ = some (.int .u64 n2, σ)) (u3 : ∀ σ, (envT rF).ov 65 [L (ucut c2 8 12) 4 1 0] 0 σ = some (.int .u64 n3, σ)) (u4 : ∀ σ, (envT rF).ov 65 [L (ucut c2 12 16) 4 1 0] 0 σ = some (.int .u64 n4, σ)) (x1 : c2[16 * 1]? = some (.int .u8 x)) (u6 : ∀ σ, (envT rF).ov 65 [L (ucut c2 17 25) 8 1 0] 0 σ = some (.int .u64 n6, σ)) (e1 : ∀ σ, (envT rF).ov 23 [sup (wI n1) (wI n2) (wI n3) (wI n4) (wI x) n6] 0 σ = some (.tuple #[L c7 128 1 0, .int .i64 0], σ)) (q : ∀ σ, (envT rF).ov 68 [L c7 128 1 0, L (c.take ((128 : Int).toNat * 1)) 128 1 0] 0 σ = some (.bool false, σ)) :
    Pure Tryz.prog 9 tabs 26 [L c m 1 g] (err 8) := by
  have hm : 128 ≤ m := by have := of_decide_eq_false h1; omega
  exact pureT rF_ok (n := 2000) (v := err 8) [(5, .br false), (1, .ok), (0, .ov (.int .u64 n1)), (3, .br false), (3, .br false), (3, .ov (.tuple #[L c2 112 1 0, .int .i64 0])), (10, .ov (.tuple #[L c3 25 1 0, .int .i64 0])), (9, .ov (.int .u64 n2)), (3, .ov (.int .u64 n3)), (3, .ov (.int .u64 n4)), (3, .is (.int .u8 x)), (3, .ov (.int .u64 n6)), (10, .ov (.tuple #[L c7 128 1 0, .int .i64 0])), (10, .ok), (0, .ov (.bool false))]
    [decide ((m : Int) < 128) = false, (0 : Int) ≤ 8 ∧ (8 : Int) ≤ m, ∀ σ, (envT rF).ov 65 [L (c.take ((8 : Int).toNat * 1)) 8 1 0] 0 σ = some (.int .u64 n1, σ), decide (n1 < 1) = false, decide (n1 > 1099511627776) = false, ∀ σ, (envT rF).ov 66 [L c m 1 g, .int .i64 (wI n1)] 0 σ = some (.tuple #[L c2 112 1 0, .int .i64 0], σ), ∀ σ, (envT rF).ov 67 [L (cut29 c2) 29 1 0] 0 σ = some (.tuple #[L c3 25 1 0, .int .i64 0], σ), ∀ σ, (envT rF).ov 65 [L (ucut c2 4 8) 4 1 0] 0 σ = some (.int .u64 n2, σ), ∀ σ, (envT rF).ov 65 [L (ucut c2 8 12) 4 1 0] 0 σ = some (.int .u64 n3, σ), ∀ σ, (envT rF).ov 65 [L (ucut c2 12 16) 4 1 0] 0 σ = some (.int .u64 n4, σ), c2[16 * 1]? = some (.int .u8 x), ∀ σ, (envT rF).ov 65 [L (ucut c2 17 25) 8 1 0] 0 σ = some (.int .u64 n6, σ), ∀ σ, (envT rF).ov 23 [sup (wI n1) (wI n2) (wI n3) (wI n4) (wI x) n6] 0 σ = some (.tuple #[L c7 128 1 0, .int .i64 0], σ), (0 : Int) ≤ 128 ∧ (128 : Int) ≤ m, ∀ σ, (envT rF).ov 68 [L c7 128 1 0, L (c.take ((128 : Int).toNat * 1)) 128 1 0] 0 σ = some (.bool false, σ)] (by kernel_rfl) ⟨h1, ⟨by omega, by omega⟩, u1, h2, h3, s1, s2, u2, u3, u4, x1, u6, e1, ⟨by omega, by omega⟩, q⟩ rfl (plain_PF 100 _ rfl)

theorem ovF_65 (l : List UInt8) (n g : Nat) (hn : l.length = n) (h : n = 4 ∨ n = 8) (hg : g ≤ 1) (lim : Nat) (σ : AS) : (envT rF).ov 65 [L (bys l) n 1 g] lim σ = some (.int .u64 (valB l : Nat), σ) := by
  subst hn
  refine envK rfl rfl (show [strip (L (bys l) l.length 1 g)] = [L (bys l) l.length 1 g] by rw [strip_le hg]) (flat_args1 hg) ?_
  show k65 [L (bys l) l.length 1 g] = _
  unfold k65
  dsimp only
  rw [asL_L', asB_L hg (by omega)]
  dsimp only
  rcases h with h | h <;> rw [h] <;> rfl
theorem ovF_66 (l : List UInt8) (n e g : Nat) (hn : l.length = n) (hg : g ≤ 1) (h1 : 1 ≤ e) (h2 : e ≤ 1099511627776) (h3 : 128 ≤ l.length) (h4 : l.length < 1000000) (lim : Nat) (σ : AS) :
    (envT rF).ov 66 [L (bys l) n 1 g, .int .i64 (e : Int)] lim σ = some (bif stamped e l then .tuple #[L (bys (dat l)) 112 1 0, .int .i64 0] else .tuple #[.slice none 0 0, .int .i64 13], σ) := by
  subst hn
  refine envK rfl rfl (show [strip (L (bys l) l.length 1 g), strip (.int .i64 (e : Int))] = [L (bys l) l.length 1 g, .int .i64 (e : Int)] by rw [strip_le hg]; rfl) (flat_args2 hg _ rfl) ?_
  show k66 [L (bys l) l.length 1 g, .int .i64 (e : Int)] = _
  unfold k66
  dsimp only
  rw [asL_L', asB_L hg (by omega)]
  dsimp only
  rw [decide_eq_true (show (1 : Int) ≤ (e : Int) by omega), decide_eq_true (show (e : Int) ≤ 1099511627776 by omega), Nat.ble_eq_true_of_le h3, Int.toNat_natCast]
  rfl
theorem ovF_67 (l : List UInt8) (g : Nat) (hn : l.length = 29) (hg : g ≤ 1) (lim : Nat) (σ : AS) :
    (envT rF).ov 67 [L (bys l) 29 1 g] lim σ = some (bif sealL (l.take 25) == l then .tuple #[L (bys (l.take 25)) 25 1 0, .int .i64 0] else .tuple #[.slice none 0 0, .int .i64 12], σ) := by
  refine envK rfl rfl (show [strip (L (bys l) 29 1 g)] = [L (bys l) l.length 1 g] by rw [strip_le hg, hn]) (flat_args1 hg) ?_
  show k67 [L (bys l) l.length 1 g] = _
  unfold k67
  dsimp only
  rw [asL_L', asB_L hg (by omega)]
  dsimp only
  rw [hn]
  rfl
theorem ovF_23 (e a b c d s : Int) (s0 : 0 ≤ s) (s1 : s < 18446744073709551616) (lim : Nat) (σ : AS) : (envT rF).ov 23 [sup e a b c d s] lim σ = some (encR e a b c d s, σ) := by
  refine envK rfl rfl (show _ = [sup e a b c d s] from rfl) rfl ?_
  unfold rF
  rw [pfT_ne rfl, pfT_ne rfl, pfT_ne rfl, pfT_eq]
  show (bif decide (0 ≤ s) && decide (s < 18446744073709551616) then some (encR e a b c d s) else none) = _
  rw [decide_eq_true s0, decide_eq_true s1]
  rfl
theorem ovF_68 (l m : List UInt8) (n n' g g' : Nat) (hl : l.length = n) (hm : m.length = n') (hn : n < 1000000) (hn' : n' < 1000000) (hg : g ≤ 1) (hg' : g' ≤ 1) (lim : Nat) (σ : AS) :
    (envT rF).ov 68 [L (bys l) n 1 g, L (bys m) n' 1 g'] lim σ = some (.bool (l == m), σ) := by
  subst hl hm
  refine envK rfl rfl (show [strip (L (bys l) l.length 1 g), strip (L (bys m) m.length 1 g')] = [L (bys l) l.length 1 g, L (bys m) m.length 1 g'] by rw [strip_le hg, strip_le hg']) ?_ ?_
  · show (flatB 100 (L (bys l) l.length 1 g) && (flatB 100 (L (bys m) m.length 1 g') && true)) = true
    rw [flat_L hg, flat_L hg']; rfl
  · show k111 [L (bys l) l.length 1 g, L (bys m) m.length 1 g'] = _
    unfold k111
    dsimp only
    rw [asB_L hg (by omega), asB_L hg' (by omega)]
theorem val1 : ∀ (q : List UInt8), q.length = 1 → ∃ u, q = [u] ∧ valB q = u.toNat
  | [u], _ => ⟨u, rfl, by show 0 * 256 + u.toNat = _; omega⟩

set_option maxHeartbeats 1000000 in
theorem p26 (l : List UInt8) (g : Nat) (hg : g ≤ 1) (hl : l.length < 1000000) : Pure Tryz.prog 9 tabs 26 [L (bys l) l.length 1 g] (decO l) := by
  unfold decO
  cases h1 : Nat.blt l.length 128 with
  | true => exact rdec_short (bys l) l.length g (decide_eq_true (by have := blt_iff.1 h1; omega))
  | false =>
    have h1' : 128 ≤ l.length := by
      apply Nat.le_of_not_lt; intro h; rw [blt_iff.2 h] at h1; cases h1
    have d1 : decide ((l.length : Int) < 128) = false := decide_eq_false (by omega)
    have u1 : ∀ σ, (envT rF).ov 65 [L ((bys l).take ((8 : Int).toNat * 1)) 8 1 0] 0 σ = some (.int .u64 (decE l : Nat), σ) := fun σ => by
      rw [show (bys l).take ((8 : Int).toNat * 1) = bys ((l.drop 0).take 8) by rw [List.drop_zero]; exact bys_take l 8]
      exact ovF_65 _ 8 0 (by simp; omega) (.inr rfl) (by omega) 0 σ
    rw [cond_false]
    cases h2 : Nat.beq (decE l) 0 with
    | true =>
      have := Nat.eq_of_beq_eq_true h2
      exact rdec_ep1 (decE l : Nat) (bys l) l.length g d1 u1 (decide_eq_true (by omega))
    | false =>
      have h2' : decE l ≠ 0 := fun h => by rw [h] at h2; cases h2
      have d2 : decide ((decE l : Int) < 1) = false := decide_eq_false (by omega)
      rw [Bool.false_or]
      cases h3 : Nat.blt 1099511627776 (decE l) with
      | true => exact rdec_ep2 (decE l : Nat) (bys l) l.length g d1 u1 d2 (decide_eq_true (by have := blt_iff.1 h3; omega))
      | false =>
        have h3' : decE l ≤ 1099511627776 := by
          apply Nat.le_of_not_lt; intro h; rw [blt_iff.2 h] at h3; cases h3
        have d3 : decide ((decE l : Int) > 1099511627776) = false := decide_eq_false (by omega)
        have hw : wI (decE l : Int) = decE l := wI_nat (by omega)
        have s1 := fun σ => ovF_66 l _ (decE l) g rfl hg (by omega) h3' h1' hl 0 σ
        rw [cond_false]
        cases h4 : stamped (decE l) l with
        | false =>
          rw [h4] at s1
          rw [← hw] at s1
          exact rdec_uns (decE l : Nat) (bys l) l.length g d1 u1 d2 d3 s1
        | true =>
          rw [h4, cond_true] at s1
          rw [Bool.not_true, cond_false]
          rw [← hw] at s1
          have hd : (dat l).length = 112 := by unfold dat; simp; omega
          have hc : cut29 (bys (dat l)) = bys ((dat l).take 29) := by unfold cut29; rw [bys_drop, bys_take]; rfl
          have h29 : ((dat l).take 29).length = 29 := by simp; omega
          have h25 : ((dat l).take 29).take 25 = (dat l).take 25 := by rw [List.take_take]; rfl
          have s2 := fun σ => ovF_67 ((dat l).take 29) 0 h29 (by omega) 0 σ
          rw [h25, ← hc] at s2
          cases h5 : (sealL ((dat l).take 25) == (dat l).take 29) with
          | false =>
            rw [h5] at s2
            exact rdec_sum (decE l : Nat) (bys l) (bys (dat l)) l.length g d1 u1 d2 d3 s1 s2
          | true =>
            rw [h5, cond_true] at s2
            rw [Bool.not_true, cond_false]
            have hu : ∀ a b, ucut (bys (dat l)) a b = bys (((dat l).drop a).take (b - a)) := fun a b => by unfold ucut; rw [bys_drop, bys_take, Nat.mul_one, Nat.mul_one]
            have u2 : ∀ σ, (envT rF).ov 65 [L (ucut (bys (dat l)) 4 8) 4 1 0] 0 σ = some (.int .u64 (fld l 4 4 : Nat), σ) := fun σ => by rw [hu]; exact ovF_65 _ 4 0 (by simp; omega) (.inl rfl) (by omega) 0 σ
            have u3 : ∀ σ, (envT rF).ov 65 [L (ucut (bys (dat l)) 8 12) 4 1 0] 0 σ = some (.int .u64 (fld l 8 4 : Nat), σ) := fun σ => by rw [hu]; exact ovF_65 _ 4 0 (by simp; omega) (.inl rfl) (by omega) 0 σ
            have u4 : ∀ σ, (envT rF).ov 65 [L (ucut (bys (dat l)) 12 16) 4 1 0] 0 σ = some (.int .u64 (fld l 12 4 : Nat), σ) := fun σ => by rw [hu]; exact ovF_65 _ 4 0 (by simp; omega) (.inl rfl) (by omega) 0 σ
            have u6 : ∀ σ, (envT rF).ov 65 [L (ucut (bys (dat l)) 17 25) 8 1 0] 0 σ = some (.int .u64 (fld l 17 8 : Nat), σ) := fun σ => by rw [hu]; exact ovF_65 _ 8 0 (by simp; omega) (.inr rfl) (by omega) 0 σ
            obtain ⟨u, hq, hv⟩ := val1 (((dat l).drop 16).take 1) (by simp; omega)
            have x1 : (bys (dat l))[16 * 1]? = some (.int .u8 (fld l 16 1 : Nat)) := by
              have : (dat l)[16]? = some u := by
                have h0 : (((dat l).drop 16).take 1)[0]? = some u := by rw [hq]; rfl
                rw [List.getElem?_take, if_pos (by omega), List.getElem?_drop] at h0
                exact h0
              rw [bys_get, Nat.mul_one, this]
              show some (Value.int .u8 (u.toNat : Int)) = _
              rw [show fld l 16 1 = u.toNat from hv]
            have l2 := fld_lt l 4 4
            have l3 := fld_lt l 8 4
            have l4 := fld_lt l 12 4
            have l5 := fld_lt l 16 1
            have l6 := fld_lt l 17 8
            have w2 : wI (fld l 4 4 : Nat) = fld l 4 4 := wI_nat (by omega)
            have w3 : wI (fld l 8 4 : Nat) = fld l 8 4 := wI_nat (by omega)
            have w4 : wI (fld l 12 4 : Nat) = fld l 12 4 := wI_nat (by omega)
            have w5 : wI (fld l 16 1 : Nat) = fld l 16 1 := wI_nat (by omega)
            have e1 : ∀ σ, (envT rF).ov 23 [sup (wI (decE l)) (wI (fld l 4 4 : Nat)) (wI (fld l 8 4 : Nat)) (wI (fld l 12 4 : Nat)) (wI (fld l 16 1 : Nat)) (fld l 17 8 : Nat)] 0 σ = some (encR (decE l) (fld l 4 4 : Nat) (fld l 8 4 : Nat) (fld l 12 4 : Nat) (fld l 16 1 : Nat) (fld l 17 8 : Nat), σ) := fun σ => by
              rw [hw, w2, w3, w4, w5]
              exact ovF_23 _ _ _ _ _ _ (by omega) (by omega) 0 σ
            unfold encR at e1
            cases h6 : vld (decE l) (fld l 4 4) (fld l 8 4) (fld l 12 4) (fld l 16 1) (fld l 17 8) with
            | false =>
              rw [h6] at e1
              exact rdec_inv (decE l : Nat) (fld l 4 4 : Nat) (fld l 8 4 : Nat) (fld l 12 4 : Nat) (fld l 16 1 : Nat) (fld l 17 8 : Nat) (bys l) (bys (dat l)) _ l.length g d1 u1 d2 d3 s1 s2 u2 u3 u4 x1 u6 e1
            | true =>
              rw [h6, cond_true] at e1
              simp only [Int.toNat_natCast] at e1
              have hE := encL_len (decE l) (fld l 4 4) (fld l 8 4) (fld l 12 4) (fld l 16 1) (fld l 17 8)
              have q : ∀ σ, (envT rF).ov 68 [L (bys (encL (decE l) (fld l 4 4) (fld l 8 4) (fld l 12 4) (fld l 16 1) (fld l 17 8))) 128 1 0, L ((bys l).take ((128 : Int).toNat * 1)) 128 1 0] 0 σ = some (.bool (encL (decE l) (fld l 4 4) (fld l 8 4) (fld l 12 4) (fld l 16 1) (fld l 17 8) == l.take 128), σ) := fun σ => by
                rw [show (bys l).take ((128 : Int).toNat * 1) = bys (l.take 128) from bys_take l 128]
                exact ovF_68 _ _ 128 128 0 0 hE (by simp; omega) (by omega) (by omega) (by omega) (by omega) 0 σ
              rw [Bool.true_and]
              cases h7 : (encL (decE l) (fld l 4 4) (fld l 8 4) (fld l 12 4) (fld l 16 1) (fld l 17 8) == l.take 128) with
              | true =>
                rw [h7] at q
                have := rdec_ok (decE l : Nat) (fld l 4 4 : Nat) (fld l 8 4 : Nat) (fld l 12 4 : Nat) (fld l 16 1 : Nat) (fld l 17 8 : Nat) (bys l) (bys (dat l)) _ _ l.length g d1 u1 d2 d3 s1 s2 u2 u3 u4 x1 u6 e1 q
                rw [hw, w2, w3, w4, w5] at this
                exact this
              | false =>
                rw [h7] at q
                exact rdec_no (decE l : Nat) (fld l 4 4 : Nat) (fld l 8 4 : Nat) (fld l 12 4 : Nat) (fld l 16 1 : Nat) (fld l 17 8 : Nat) (bys l) (bys (dat l)) _ _ l.length g d1 u1 d2 d3 s1 s2 u2 u3 u4 x1 u6 e1 q
theorem p26_nil : Pure Tryz.prog 9 tabs 26 [.slice none 0 0] (decO []) :=
  pureT rF_ok (n := 1500) (v := .tuple #[sup0, .int .i64 13]) [] [] (by kernel_rfl) trivial rfl (plain_PF 100 _ rfl)
theorem k26_ok : KOk Tryz.prog 9 tabs 26 k25 := by
  intro args u h
  unfold k25 at h
  split at h
  · rename_i v
    split at h
    · rename_i l hB
      cases hb : Nat.blt l.length 1000000 with
      | false => rw [hb] at h; cases h
      | true =>
        rw [hb, cond_true] at h
        cases h
        rcases asB_spec hB with ⟨rfl, rfl⟩ | ⟨g, hg, rfl, _⟩
        · exact p26_nil
        · exact p26 l g hg (blt_iff.1 hb)
    · cases h
  · cases h

end Go.Proofs.YtcjjlajpbakaoaaGreatDoor
