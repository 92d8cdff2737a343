/-
  The functions that the statement reaches: what they answer, part 4.
-/
import Derived.Test.YtcjjlajpbakaoaaGreatDoorD36ad
import Derived.Test.YtcjjlajpbakaoaaGreatDoorPart3

/-
  SUPERBLOCK (chapter 36): slices.Equal replaced.
-/
namespace Go.Proofs.YtcjjlajpbakaoaaGreatDoor
open Go.Va

def k111 : List Value → Option Value
  | [a, b] => (match asB a, asB b with
    | some l, some m => some (.bool (l == m))
    | _, _ => none)
  | _ => none
theorem k111_ok : KOk Tryz.prog 9 tabs 111 k111 := by
  intro args v h
  unfold k111 at h
  split at h
  · rename_i a b
    split at h
    · rename_i l m hl hm
      cases h
      rcases asB_spec hl with ⟨ea, el⟩ | ⟨g, _, ea, hb⟩ <;> rcases asB_spec hm with ⟨eb, em⟩ | ⟨g', _, eb, hb'⟩
      · subst ea el eb em; exact p111_nn
      · subst ea el eb
        have := p111_nl (bys m) m.length g'
        cases m <;> exact this
      · subst ea eb em
        have := p111_ln (bys l) l.length g
        cases l <;> exact this
      · subst ea eb; exact p111_ll l m g g' (by omega)
    · cases h
  · cases h
def t15 : Ktab := (111, k111) :: (57, k57) :: (61, k61) :: t13
theorem t15_ok : TOk Tryz.prog 9 tabs t15 := ⟨k111_ok, k57_ok, k61_ok, t13_ok⟩

end Go.Proofs.YtcjjlajpbakaoaaGreatDoor

/-
  SUPERBLOCK (chapter 36): crc32c.Unseal of 29 bytes.
-/
namespace Go.Proofs.YtcjjlajpbakaoaaGreatDoor
open Go.Va

def frC (c : List Value) : List Value := (c.drop (0 * 1)).take ((25 - 0) * 1)
theorem unseal_ok (c c6 : List Value) (g : Nat) (a1 : ∀ σ, (envT t15).ov 57 [L (frC c) 25 1 11] 0 σ = some (L c6 29 1 0, σ)) (a2 : ∀ σ, (envT t15).ov 111 [L c6 29 1 0, L c 29 1 g] 0 σ = some (.bool true, σ)) (hv : PF (.tuple #[strip (L (frC c) 25 1 11), .int .i64 0])) :
    Pure Tryz.prog 9 tabs 63 [L c 29 1 g] (.tuple #[strip (L (frC c) 25 1 11), .int .i64 0]) :=
  pureXH t15_ok (n := 600) (v := .tuple #[L (frC c) 25 1 11, .int .i64 0]) [(22, .ov (L c6 29 1 0)), (1, .ov (.bool true))]
    [∀ σ, (envT t15).ov 57 [L (frC c) 25 1 11] 0 σ = some (L c6 29 1 0, σ), ∀ σ, (envT t15).ov 111 [L c6 29 1 0, L c 29 1 g] 0 σ = some (.bool true, σ)] (by kernel_rfl) ⟨a1, a2⟩ (shed_pair _ _) hv
theorem unseal_no (c c6 : List Value) (g : Nat) (a1 : ∀ σ, (envT t15).ov 57 [L (frC c) 25 1 11] 0 σ = some (L c6 29 1 0, σ)) (a2 : ∀ σ, (envT t15).ov 111 [L c6 29 1 0, L c 29 1 g] 0 σ = some (.bool false, σ)) :
    Pure Tryz.prog 9 tabs 63 [L c 29 1 g] (.tuple #[.slice none 0 0, .int .i64 12]) :=
  pureT t15_ok (n := 600) (v := .tuple #[.slice none 0 0, .int .i64 12]) [(22, .ov (L c6 29 1 0)), (1, .ov (.bool false))]
    [∀ σ, (envT t15).ov 57 [L (frC c) 25 1 11] 0 σ = some (L c6 29 1 0, σ), ∀ σ, (envT t15).ov 111 [L c6 29 1 0, L c 29 1 g] 0 σ = some (.bool false, σ)] (by kernel_rfl) ⟨a1, a2⟩ rfl (plain_PF 100 _ rfl)

theorem p63 (l : List UInt8) (g : Nat) (hg : g ≤ 1) (hl : l.length = 29) : Pure Tryz.prog 9 tabs 63 [L (bys l) 29 1 g] (bif sealL (l.take 25) == l then .tuple #[L (bys (l.take 25)) 25 1 0, .int .i64 0] else .tuple #[.slice none 0 0, .int .i64 12]) := by
  have hf : frC (bys l) = bys (l.take 25) := by
    unfold frC bys
    simp
  have hl25 : (l.take 25).length = 25 := by simp; omega
  have hs : (sealL (l.take 25)).length = 29 := by simp [sealL, be4]; omega
  have a1 : ∀ σ, (envT t15).ov 57 [L (frC (bys l)) 25 1 11] 0 σ = some (L (bys (sealL (l.take 25))) 29 1 0, σ) := fun σ => by
    rw [hf]
    refine envK rfl rfl (show [strip (L (bys (l.take 25)) 25 1 11)] = [L (bys (l.take 25)) (l.take 25).length 1 0] by rw [hl25]; rfl) ?_ ?_
    · show (flatB 100 (L (bys (l.take 25)) (l.take 25).length 1 0) && true) = true
      rw [flat_L (by omega)]; rfl
    · show k57 [L (bys (l.take 25)) (l.take 25).length 1 0] = _
      unfold k57
      dsimp only
      rw [asL_L', asB_L (by omega) (by omega)]
      dsimp only
      rw [hl25]
      rfl
  have a2 : ∀ σ, (envT t15).ov 111 [L (bys (sealL (l.take 25))) 29 1 0, L (bys l) 29 1 g] 0 σ = some (.bool (sealL (l.take 25) == l), σ) := fun σ => by
    refine envK rfl rfl (show [strip (L (bys (sealL (l.take 25))) 29 1 0), strip (L (bys l) 29 1 g)] = [L (bys (sealL (l.take 25))) (sealL (l.take 25)).length 1 0, L (bys l) l.length 1 g] by rw [strip_le hg, strip_le (by omega), hs, hl]) ?_ ?_
    · show (flatB 100 (L (bys (sealL (l.take 25))) (sealL (l.take 25)).length 1 0) && (flatB 100 (L (bys l) l.length 1 g) && true)) = true
      rw [flat_L (by omega), flat_L hg]; rfl
    · show k111 [L (bys (sealL (l.take 25))) (sealL (l.take 25)).length 1 0, L (bys l) l.length 1 g] = _
      unfold k111
      dsimp only
      rw [asB_L (by omega) (by omega), asB_L hg (by omega)]
  cases h : (sealL (l.take 25) == l) with
  | true =>
    rw [h] at a2
    have := unseal_ok (bys l) _ g a1 a2 (by
      rw [hf]; exact PF_pair (PF_list (by omega) (bys_PF _)) (.int _ _))
    rw [hf] at this
    exact this
  | false =>
    rw [h] at a2
    exact unseal_no (bys l) _ g a1 a2

end Go.Proofs.YtcjjlajpbakaoaaGreatDoor

/-
  SUPERBLOCK (chapter 36): frame.Unstamp, frame.Unseal replaced.
-/
namespace Go.Proofs.YtcjjlajpbakaoaaGreatDoor
open Go.Va

theorem k61_eq (l : List UInt8) (a w g : Nat) (hg : g ≤ 1) (h : a + w ≤ l.length) (hl : l.length < 1000000) (hw : w = 1 ∨ w = 4 ∨ w = 8) : k61 [L (bys l) l.length 1 g, .int .i64 (a : Int), .int .i64 (w : Int)] = some (.tuple #[.int .u64 (valB ((l.drop a).take w) : Nat), .int .i64 0]) := by
  unfold k61
  dsimp only
  rw [asL_L', asB_L hg (by omega)]
  dsimp only
  rw [decide_eq_true (show (0 : Int) ≤ (a : Int) by omega), decide_eq_true (show (a : Int) + (w : Int) ≤ l.length by omega), show Nat.blt l.length 1000000 = true from blt_iff.2 hl, Int.toNat_natCast, Int.toNat_natCast]
  rcases hw with rfl | rfl | rfl <;> rfl
theorem ov14_61 (l : List UInt8) (a w g : Nat) (hg : g ≤ 1) (h : a + w ≤ l.length) (hl : l.length < 1000000) (hw : w = 1 ∨ w = 4 ∨ w = 8) (lim : Nat) (σ : AS) :
    (envT t14).ov 61 [L (bys l) l.length 1 g, .int .i64 (a : Int), .int .i64 (w : Int)] lim σ = some (.tuple #[.int .u64 (valB ((l.drop a).take w) : Nat), .int .i64 0], σ) := by
  refine envK rfl rfl (show [strip (L (bys l) l.length 1 g), strip (.int .i64 (a : Int)), strip (.int .i64 (w : Int))] = [L (bys l) l.length 1 g, .int .i64 (a : Int), .int .i64 (w : Int)] by rw [strip_le hg]; rfl) ?_ ?_
  · show (flatB 100 (L (bys l) l.length 1 g) && (flatB 100 (.int .i64 (a : Int)) && (flatB 100 (.int .i64 (w : Int)) && true))) = true
    rw [flat_L hg]; rfl
  · exact k61_eq l a w g hg h hl hw

def stamped (e : Nat) (l : List UInt8) : Bool := valB ((l.drop 0).take 8) == e && valB ((l.drop 120).take 8) == e
theorem bne_nat (a b : Nat) : ((a : Int) != (b : Int)) = !(a == b) := by
  cases h : a == b with
  | true => rw [eq_of_beq h]; simp
  | false => rw [Bool.not_false, bne_iff_ne]; intro he; rw [Int.ofNat.inj he, beq_self_eq_true] at h; cases h
theorem p62 (l : List UInt8) (e g : Nat) (hg : g ≤ 1) (h1 : 1 ≤ e) (h2 : e ≤ 1099511627776) (hl : 128 ≤ l.length) (hl2 : l.length < 1000000) :
    Pure Tryz.prog 9 tabs 62 [L (bys l) l.length 1 g, .int .i64 (e : Int)] (bif stamped e l then .tuple #[L (bys ((l.drop 8).take 112)) 112 1 0, .int .i64 0] else .tuple #[.slice none 0 0, .int .i64 13]) := by
  have b1 : decide ((e : Int) ≥ 1) = true := decide_eq_true (by omega)
  have b2 : (!decide ((e : Int) ≤ 1099511627776)) = false := by rw [decide_eq_true (by omega)]; rfl
  have b3 : decide ((l.length : Int) < 128) = false := decide_eq_false (by omega)
  have a1 : ∀ σ, (envT t14).ov 61 [L (bys l) l.length 1 g, .int .i64 0, .int .i64 8] 0 σ = some (.tuple #[.int .u64 (valB ((l.drop 0).take 8) : Nat), .int .i64 0], σ) := fun σ => ov14_61 l 0 8 g hg (by omega) hl2 (by omega) 0 σ
  have a2 : ∀ σ, (envT t14).ov 61 [L (bys l) l.length 1 g, .int .i64 120, .int .i64 8] 0 σ = some (.tuple #[.int .u64 (valB ((l.drop 120).take 8) : Nat), .int .i64 0], σ) := fun σ => ov14_61 l 120 8 g hg (by omega) hl2 (by omega) 0 σ
  have hw : IntKind.u64.wrap (e : Int) = e := wrapU (by omega)
  unfold stamped
  cases c1 : (valB ((l.drop 0).take 8) == e) with
  | false =>
    exact un_no1 e _ (bys l) l.length g b1 b2 b3 a1 (by rw [hw, bne_nat, c1]; rfl)
  | true =>
    cases c2 : (valB ((l.drop 120).take 8) == e) with
    | false => exact un_no2 e _ _ (bys l) l.length g b1 b2 b3 a1 (by rw [hw, bne_nat, c1]; rfl) a2 (by rw [hw, bne_nat, c2]; rfl)
    | true =>
      have hf : unC (bys l) = bys ((l.drop 8).take 112) := by unfold unC bys; simp
      have := un_ok e _ _ (bys l) l.length g b1 b2 b3 a1 (by rw [hw, bne_nat, c1]; rfl) a2 (by rw [hw, bne_nat, c2]; rfl) (by
        rw [hf]; exact PF_pair (PF_list (by omega) (bys_PF _)) (.int _ _))
      rw [hf] at this
      exact this

end Go.Proofs.YtcjjlajpbakaoaaGreatDoor

/-
  SUPERBLOCK (chapter 36): Unstamp and Unseal replaced.
-/
namespace Go.Proofs.YtcjjlajpbakaoaaGreatDoor
open Go.Va

def k62 : List Value → Option Value
  | [v, .int .i64 e] => (match asL v, asB v with
    | some _, some l => bif decide (1 ≤ e) && decide (e ≤ 1099511627776) && Nat.ble 128 l.length && Nat.blt l.length 1000000 then
        some (bif stamped e.toNat l then .tuple #[L (bys ((l.drop 8).take 112)) 112 1 0, .int .i64 0] else .tuple #[.slice none 0 0, .int .i64 13]) else none
    | _, _ => none)
  | _ => none
theorem k62_ok : KOk Tryz.prog 9 tabs 62 k62 := by
  intro args u h
  unfold k62 at h
  split at h
  · rename_i v e
    split at h
    · rename_i x l hL hB
      rcases asB_spec hB with ⟨rfl, _⟩ | ⟨g, hg, rfl, _⟩
      · cases hL
      · cases hb : (decide (1 ≤ e) && decide (e ≤ 1099511627776) && Nat.ble 128 l.length && Nat.blt l.length 1000000) with
        | false => rw [hb] at h; cases h
        | true =>
          rw [hb, cond_true] at h
          cases h
          simp only [Bool.and_eq_true, decide_eq_true_eq] at hb
          obtain ⟨⟨⟨h0, h1⟩, h2⟩, h3⟩ := hb
          have h2 : 128 ≤ l.length := Nat.ble_eq ▸ h2
          have h3 := blt_iff.1 h3
          obtain ⟨k, rfl⟩ := Int.eq_ofNat_of_zero_le (show 0 ≤ e by omega)
          rw [Int.toNat_natCast]
          exact p62 l k g hg (by omega) (by omega) h2 h3
    · cases h
  · cases h
def k63 : List Value → Option Value
  | [v] => (match asL v, asB v with
    | some _, some l => bif Nat.beq l.length 29 then some (bif sealL (l.take 25) == l then .tuple #[L (bys (l.take 25)) 25 1 0, .int .i64 0] else .tuple #[.slice none 0 0, .int .i64 12]) else none
    | _, _ => none)
  | _ => none
theorem k63_ok : KOk Tryz.prog 9 tabs 63 k63 := by
  intro args u h
  unfold k63 at h
  split at h
  · rename_i v
    split at h
    · rename_i x l hL hB
      rcases asB_spec hB with ⟨rfl, _⟩ | ⟨g, hg, rfl, _⟩
      · cases hL
      · cases hb : Nat.beq l.length 29 with
        | false => rw [hb] at h; cases h
        | true =>
          rw [hb, cond_true] at h
          cases h
          have h29 := Nat.eq_of_beq_eq_true hb
          rw [h29]
          exact p63 l g hg h29
    · cases h
  · cases h
def t16 : Ktab := (62, k62) :: (63, k63) :: (61, k61) :: t13
theorem t16_ok : TOk Tryz.prog 9 tabs t16 := ⟨k62_ok, k63_ok, k61_ok, t13_ok⟩

end Go.Proofs.YtcjjlajpbakaoaaGreatDoor
