/-
  SUPERBLOCK (chapter 36): super.Encode.
-/
import Derived.Test.YtcjjlajpbakaoaaGreatDoorD36t
namespace Go.Proofs.YtcjjlajpbakaoaaGreatDoor
open Go.Va

def u64w (n : Int) : Int := IntKind.u64.wrap n
theorem enc_raw (e a b c d s : Int) (c1 c2 c3 c4 c5 c6 c7 : List Value) (h1 : decide (e ≥ 1) = true) (h2 : decide (e ≤ 1099511627776) = true) (h3 : (!(bif chk a b c d s then (0 : Int) else 2) == 0) = false)
    (a1 : ∀ σ, (envT t12).ov 55 [L [.int .u8 84, .int .u8 69, .int .u8 77, .int .u8 80] 4 1 1, .int .u64 (u64w a), .int .i64 4] 0 σ = some (.tuple #[L c1 8 1 0, .int .i64 0], σ))
    (a2 : ∀ σ, (envT t12).ov 55 [L c1 8 1 0, .int .u64 (u64w b), .int .i64 4] 0 σ = some (.tuple #[L c2 12 1 0, .int .i64 0], σ))
    (a3 : ∀ σ, (envT t12).ov 55 [L c2 12 1 0, .int .u64 (u64w c), .int .i64 4] 0 σ = some (.tuple #[L c3 16 1 0, .int .i64 0], σ))
    (a4 : ∀ σ, (envT t12).ov 55 [L c3 16 1 0, .int .u64 (u64w d), .int .i64 1] 0 σ = some (.tuple #[L c4 17 1 0, .int .i64 0], σ))
    (a5 : ∀ σ, (envT t12).ov 55 [L c4 17 1 0, .int .u64 s, .int .i64 8] 0 σ = some (.tuple #[L c5 25 1 0, .int .i64 0], σ))
    (a6 : ∀ σ, (envT t12).ov 57 [L c5 25 1 0] 18 σ = some (L c6 29 1 0, σ))
    (a7 : ∀ σ, (envT t12).ov 56 [.int .i64 e, L c6 29 1 0] 0 σ = some (.tuple #[L c7 128 1 1, .int .i64 0], σ)) (hv : PF (L c7 128 1 1)) :
    Pure Tryz.prog 9 tabs 22 [sup e a b c d s] (.tuple #[L c7 128 1 1, .int .i64 0]) :=
  pureT t12_ok (n := 2000) (v := .tuple #[L c7 128 1 1, .int .i64 0]) [(10, .br true), (4, .br true), (7, .br false), (42, .ov (.tuple #[L c1 8 1 0, .int .i64 0])), (24, .ov (.tuple #[L c2 12 1 0, .int .i64 0])), (24, .ov (.tuple #[L c3 16 1 0, .int .i64 0])), (24, .ov (.tuple #[L c4 17 1 0, .int .i64 0])), (24, .ov (.tuple #[L c5 25 1 0, .int .i64 0])), (18, .ov (L c6 29 1 0)), (0, .ov (.tuple #[L c7 128 1 1, .int .i64 0]))]
    [decide (e ≥ 1) = true, decide (e ≤ 1099511627776) = true, (!(bif chk a b c d s then (0 : Int) else 2) == 0) = false,
      ∀ σ, (envT t12).ov 55 [L [.int .u8 84, .int .u8 69, .int .u8 77, .int .u8 80] 4 1 1, .int .u64 (u64w a), .int .i64 4] 0 σ = some (.tuple #[L c1 8 1 0, .int .i64 0], σ),
      ∀ σ, (envT t12).ov 55 [L c1 8 1 0, .int .u64 (u64w b), .int .i64 4] 0 σ = some (.tuple #[L c2 12 1 0, .int .i64 0], σ),
      ∀ σ, (envT t12).ov 55 [L c2 12 1 0, .int .u64 (u64w c), .int .i64 4] 0 σ = some (.tuple #[L c3 16 1 0, .int .i64 0], σ),
      ∀ σ, (envT t12).ov 55 [L c3 16 1 0, .int .u64 (u64w d), .int .i64 1] 0 σ = some (.tuple #[L c4 17 1 0, .int .i64 0], σ),
      ∀ σ, (envT t12).ov 55 [L c4 17 1 0, .int .u64 s, .int .i64 8] 0 σ = some (.tuple #[L c5 25 1 0, .int .i64 0], σ),
      ∀ σ, (envT t12).ov 57 [L c5 25 1 0] 18 σ = some (L c6 29 1 0, σ),
      ∀ σ, (envT t12).ov 56 [.int .i64 e, L c6 29 1 0] 0 σ = some (.tuple #[L c7 128 1 1, .int .i64 0], σ)]
    (by kernel_rfl) ⟨h1, h2, h3, a1, a2, a3, a4, a5, a6, a7⟩ rfl (PF_pair hv (.int _ _))

theorem asL_L' (c : List Value) (n e g : Nat) : asL (L c n e g) = some (c, n, e, g) := rfl
theorem flat_L {l : List UInt8} {m g : Nat} (hg : g ≤ 1) : flatB 100 (L (bys l) m 1 g) = true := by
  have : flatB 100 (L (bys l) m 1 g) = Nat.ble g 1 := rfl
  rw [this, Nat.ble_eq_true_of_le hg]
theorem k55_eq (l : List UInt8) (n : Nat) (w : Int) (g : Nat) (hg : g ≤ 1) (h1 : 0 < l.length) (h2 : l.length < 1000000) : k55 [L (bys l) l.length 1 g, .int .u64 (n : Int), .int .i64 w] =
    (bif decide (w = 1) && decide ((n : Int) < 256) then some (Value.tuple #[L (bys (l ++ be1 n)) (l.length + 1) 1 0, .int .i64 0])
      else bif decide (w = 4) && decide ((n : Int) < 4294967296) then some (.tuple #[L (bys (l ++ be4 n)) (l.length + 4) 1 0, .int .i64 0])
      else bif decide (w = 8) && decide ((n : Int) < 18446744073709551616) then some (.tuple #[L (bys (l ++ be8 n)) (l.length + 8) 1 0, .int .i64 0]) else none) := by
  unfold k55
  dsimp only
  rw [asL_L', asB_L hg (by omega)]
  dsimp only
  rw [decide_eq_true (show (0 : Int) ≤ (n : Int) by omega), show Nat.blt 0 l.length = true from blt_iff.2 h1, show Nat.blt l.length 1000000 = true from blt_iff.2 h2, Int.toNat_natCast]
  rfl
theorem ov12_55 (l : List UInt8) (n : Nat) (w : Int) (g m : Nat) (v : Value) (hg : g ≤ 1) (hm : l.length = m) (h1 : 0 < m) (h2 : m < 1000000) (hv : k55 [L (bys l) l.length 1 g, .int .u64 (n : Int), .int .i64 w] = some v) (lim : Nat) (σ : AS) :
    (envT t12).ov 55 [L (bys l) m 1 g, .int .u64 (n : Int), .int .i64 w] lim σ = some (v, σ) := by
  subst hm
  refine envK rfl rfl (show [strip (L (bys l) l.length 1 g), strip (.int .u64 (n : Int)), strip (.int .i64 w)] = [L (bys l) l.length 1 g, .int .u64 (n : Int), .int .i64 w] by rw [strip_le hg]; rfl) ?_ ?_
  · show (flatB 100 (L (bys l) l.length 1 g) && (flatB 100 (.int .u64 (n : Int)) && (flatB 100 (.int .i64 w) && true))) = true
    rw [flat_L hg]; rfl
  · exact hv
theorem ov12_57 (l : List UInt8) (g m : Nat) (hg : g ≤ 1) (hm : l.length = m) (h2 : m < 1000000) (lim : Nat) (σ : AS) : (envT t12).ov 57 [L (bys l) m 1 g] lim σ = some (L (bys (sealL l)) (m + 4) 1 0, σ) := by
  subst hm
  refine envK rfl rfl (show [strip (L (bys l) l.length 1 g)] = [L (bys l) l.length 1 g] by rw [strip_le hg]) ?_ ?_
  · show (flatB 100 (L (bys l) l.length 1 g) && true) = true
    rw [flat_L hg]; rfl
  · show k57 [L (bys l) l.length 1 g] = _
    unfold k57
    dsimp only
    rw [asL_L', asB_L hg (by omega)]
    dsimp only
    rw [show Nat.blt l.length 1000000 = true from blt_iff.2 h2]
    rfl
theorem ov12_56 (e : Nat) (l : List UInt8) (g : Nat) (hg : g ≤ 1) (h1 : 1 ≤ e) (h2 : e ≤ 1099511627776) (hm : l.length = 29) (lim : Nat) (σ : AS) : (envT t12).ov 56 [.int .i64 (e : Int), L (bys l) 29 1 g] lim σ = some (.tuple #[L (bys (stampL e l)) 128 1 1, .int .i64 0], σ) := by
  refine envK rfl rfl (show [strip (.int .i64 (e : Int)), strip (L (bys l) 29 1 g)] = [.int .i64 (e : Int), L (bys l) l.length 1 g] by rw [strip_le hg, hm]; rfl) ?_ ?_
  · show (flatB 100 (.int .i64 (e : Int)) && (flatB 100 (L (bys l) l.length 1 g) && true)) = true
    rw [flat_L hg]; rfl
  · show k56 [.int .i64 (e : Int), L (bys l) l.length 1 g] = _
    unfold k56
    dsimp only
    rw [asL_L', asB_L hg (by omega)]
    dsimp only
    rw [decide_eq_true (show (1 : Int) ≤ (e : Int) by omega), decide_eq_true (show (e : Int) ≤ 1099511627776 by omega), hm, Int.toNat_natCast]
    rfl

def mark : List UInt8 := [84, 69, 77, 80]
def dataL (a b c d s : Nat) : List UInt8 := mark ++ be4 a ++ be4 b ++ be4 c ++ be1 d ++ be8 s
/-- The sector of a superblock. -/
def encL (e a b c d s : Nat) : List UInt8 := stampL e (sealL (dataL a b c d s))
theorem encL_len (e a b c d s : Nat) : (encL e a b c d s).length = 128 := by
  simp [encL, stampL, sealL, dataL, mark, be4, be1, be8]
theorem p22_yes (e a b c d s : Nat) (h1 : 1 ≤ e) (h2 : e ≤ 1099511627776) (hc : chk a b c d s = true) (ha : a < 4294967296) (hb : b < 4294967296) (hcc : c < 4294967296) (hd : d < 256) (hs : s < 18446744073709551616) :
    Pure Tryz.prog 9 tabs 22 [sup e a b c d s] (.tuple #[L (bys (encL e a b c d s)) 128 1 1, .int .i64 0]) := by
  have hw : ∀ n : Nat, n < 18446744073709551616 → u64w (n : Int) = n := fun n hn => wrap_fits .u64 (by show (0 : Int) ≤ n; omega) (by show (n : Int) ≤ 18446744073709551615; omega)
  refine enc_raw e a b c d s (bys (mark ++ be4 a)) (bys (mark ++ be4 a ++ be4 b)) (bys (mark ++ be4 a ++ be4 b ++ be4 c)) (bys (mark ++ be4 a ++ be4 b ++ be4 c ++ be1 d)) (bys (dataL a b c d s)) (bys (sealL (dataL a b c d s))) (bys (encL e a b c d s))
    (decide_eq_true (by omega)) (decide_eq_true (by omega)) (by rw [hc]; rfl) (fun σ => ?_) (fun σ => ?_) (fun σ => ?_) (fun σ => ?_) (fun σ => ?_) (fun σ => ?_) (fun σ => ?_) (PF_list (by omega) (bys_PF _))
  · rw [hw a (by omega)]
    refine ov12_55 mark a 4 1 4 _ (by omega) rfl (by omega) (by omega) ?_ 0 σ
    rw [k55_eq _ _ _ _ (by omega) (by decide) (by decide), decide_eq_true (show (a : Int) < 4294967296 by omega)]
    rfl
  · rw [hw b (by omega)]
    refine ov12_55 (mark ++ be4 a) b 4 0 8 _ (by omega) (by simp [mark, be4]) (by omega) (by omega) ?_ 0 σ
    rw [k55_eq _ _ _ _ (by omega) (by simp [mark, be4]) (by simp [mark, be4]), decide_eq_true (show (b : Int) < 4294967296 by omega)]
    rfl
  · rw [hw c (by omega)]
    refine ov12_55 (mark ++ be4 a ++ be4 b) c 4 0 12 _ (by omega) (by simp [mark, be4]) (by omega) (by omega) ?_ 0 σ
    rw [k55_eq _ _ _ _ (by omega) (by simp [mark, be4]) (by simp [mark, be4]), decide_eq_true (show (c : Int) < 4294967296 by omega)]
    rfl
  · rw [hw d (by omega)]
    refine ov12_55 (mark ++ be4 a ++ be4 b ++ be4 c) d 1 0 16 _ (by omega) (by simp [mark, be4]) (by omega) (by omega) ?_ 0 σ
    rw [k55_eq _ _ _ _ (by omega) (by simp [mark, be4]) (by simp [mark, be4]), decide_eq_true (show (d : Int) < 256 by omega)]
    rfl
  · refine ov12_55 (mark ++ be4 a ++ be4 b ++ be4 c ++ be1 d) s 8 0 17 _ (by omega) (by simp [mark, be4, be1]) (by omega) (by omega) ?_ 0 σ
    rw [k55_eq _ _ _ _ (by omega) (by simp [mark, be4, be1]) (by simp [mark, be4, be1]), decide_eq_true (show (s : Int) < 18446744073709551616 by omega)]
    rfl
  · exact ov12_57 (dataL a b c d s) 0 25 (by omega) (by simp [dataL, mark, be4, be1, be8]) (by omega) 18 σ
  · exact ov12_56 e (sealL (dataL a b c d s)) 0 (by omega) h1 h2 (by simp [sealL, dataL, mark, be4, be1, be8]) 0 σ

/-! ## What is not valid is refused -/

def vld (e a b c d s : Int) : Bool := decide (e ≥ 1) && decide (e ≤ 1099511627776) && chk a b c d s
theorem p22_no (e a b c d s : Int) (h : vld e a b c d s = false) : Pure Tryz.prog 9 tabs 22 [sup e a b c d s] (.tuple #[.slice none 0 0, .int .i64 2]) := by
  cases h1 : decide (e ≥ 1) with
  | false =>
    exact pureT t12_ok (n := 2000) (v := .tuple #[.slice none 0 0, .int .i64 2]) [(10, .br false)] [decide (e ≥ 1) = false] (by kernel_rfl) h1 rfl (plain_PF 100 _ rfl)
  | true =>
    cases h2 : decide (e ≤ 1099511627776) with
    | false => exact pureT t12_ok (n := 2000) (v := .tuple #[.slice none 0 0, .int .i64 2]) [(10, .br true), (4, .br false)] [decide (e ≥ 1) = true, decide (e ≤ 1099511627776) = false] (by kernel_rfl) ⟨h1, h2⟩ rfl (plain_PF 100 _ rfl)
    | true =>
      have h3 : chk a b c d s = false := by
        unfold vld at h
        rw [h1, h2] at h
        exact h
      exact pureT t12_ok (n := 2000) (v := .tuple #[.slice none 0 0, .int .i64 2]) [(10, .br true), (4, .br true), (7, .br true)] [decide (e ≥ 1) = true, decide (e ≤ 1099511627776) = true, (!(bif chk a b c d s then (0 : Int) else 2) == 0) = true] (by kernel_rfl) ⟨h1, h2, by rw [h3]; rfl⟩ rfl (plain_PF 100 _ rfl)

end Go.Proofs.YtcjjlajpbakaoaaGreatDoor
