/-
  SUPERBLOCK (chapter 36): what super.Decode answers.
-/
import Derived.Test.YtcjjlajpbakaoaaGreatDoorD36at
namespace Go.Proofs.YtcjjlajpbakaoaaGreatDoor
open Go.Va

def dat (l : List UInt8) : List UInt8 := (l.drop 8).take 112
def decE (l : List UInt8) : Nat := valB ((l.drop 0).take 8)
def fld (l : List UInt8) (a w : Nat) : Nat := valB (((dat l).drop a).take w)
def err (n : Int) : Value := .tuple #[sup0, .int .i64 n]
/-- What is decoded. -/
def decO (l : List UInt8) : Value :=
  bif Nat.blt l.length 128 then err 13 else
  bif Nat.beq (decE l) 0 || Nat.blt 1099511627776 (decE l) then err 8 else
  bif !stamped (decE l) l then err 13 else
  bif !(sealL ((dat l).take 25) == (dat l).take 29) then err 12 else
  bif vld (decE l) (fld l 4 4) (fld l 8 4) (fld l 12 4) (fld l 16 1) (fld l 17 8) && (encL (decE l) (fld l 4 4) (fld l 8 4) (fld l 12 4) (fld l 16 1) (fld l 17 8) == l.take 128) then
    .tuple #[sup (decE l) (fld l 4 4) (fld l 8 4) (fld l 12 4) (fld l 16 1) (fld l 17 8), .int .i64 0] else err 8

theorem flat_args1 {l : List UInt8} {m g : Nat} (hg : g ≤ 1) : (flatB 100 (L (bys l) m 1 g) && true) = true := by rw [flat_L hg]; rfl
theorem flat_args2 {l : List UInt8} {m g : Nat} (hg : g ≤ 1) (v : Value) (hv : flatB 100 v = true) : (flatB 100 (L (bys l) m 1 g) && (flatB 100 v && true)) = true := by rw [flat_L hg, hv]; rfl
theorem ov16_61 (l : List UInt8) (n a w g : Nat) (hn : l.length = n) (hg : g ≤ 1) (h : a + w ≤ l.length) (hl : l.length < 1000000) (hw : w = 1 ∨ w = 4 ∨ w = 8) (lim : Nat) (σ : AS) :
    (envT t16).ov 61 [L (bys l) n 1 g, .int .i64 (a : Int), .int .i64 (w : Int)] lim σ = some (.tuple #[.int .u64 (valB ((l.drop a).take w) : Nat), .int .i64 0], σ) := by
  subst hn
  refine envK rfl rfl (show [strip (L (bys l) l.length 1 g), strip (.int .i64 (a : Int)), strip (.int .i64 (w : Int))] = [L (bys l) l.length 1 g, .int .i64 (a : Int), .int .i64 (w : Int)] by rw [strip_le hg]; rfl) ?_ ?_
  · show (flatB 100 (L (bys l) l.length 1 g) && (flatB 100 (.int .i64 (a : Int)) && (flatB 100 (.int .i64 (w : Int)) && true))) = true
    rw [flat_L hg]; rfl
  · exact k61_eq l a w g hg h hl hw
theorem ov16_62 (l : List UInt8) (n e g : Nat) (hn : l.length = n) (hg : g ≤ 1) (h1 : 1 ≤ e) (h2 : e ≤ 1099511627776) (h3 : 128 ≤ l.length) (h4 : l.length < 1000000) (lim : Nat) (σ : AS) :
    (envT t16).ov 62 [L (bys l) n 1 g, .int .i64 (e : Int)] lim σ = some (bif stamped e l then .tuple #[L (bys (dat l)) 112 1 0, .int .i64 0] else .tuple #[.slice none 0 0, .int .i64 13], σ) := by
  subst hn
  refine envK rfl rfl (show [strip (L (bys l) l.length 1 g), strip (.int .i64 (e : Int))] = [L (bys l) l.length 1 g, .int .i64 (e : Int)] by rw [strip_le hg]; rfl) (flat_args2 hg _ rfl) ?_
  show k62 [L (bys l) l.length 1 g, .int .i64 (e : Int)] = _
  unfold k62
  dsimp only
  rw [asL_L', asB_L hg (by omega)]
  dsimp only
  rw [decide_eq_true (show (1 : Int) ≤ (e : Int) by omega), decide_eq_true (show (e : Int) ≤ 1099511627776 by omega), Nat.ble_eq_true_of_le h3, show Nat.blt l.length 1000000 = true from blt_iff.2 h4, Int.toNat_natCast]
  rfl
theorem ov16_63 (l : List UInt8) (g : Nat) (hn : l.length = 29) (hg : g ≤ 1) (lim : Nat) (σ : AS) :
    (envT t16).ov 63 [L (bys l) 29 1 g] lim σ = some (bif sealL (l.take 25) == l then .tuple #[L (bys (l.take 25)) 25 1 0, .int .i64 0] else .tuple #[.slice none 0 0, .int .i64 12], σ) := by
  refine envK rfl rfl (show [strip (L (bys l) 29 1 g)] = [L (bys l) l.length 1 g] by rw [strip_le hg, hn]) (flat_args1 hg) ?_
  show k63 [L (bys l) l.length 1 g] = _
  unfold k63
  dsimp only
  rw [asL_L', asB_L hg (by omega)]
  dsimp only
  rw [hn]
  rfl
theorem ov16_22 (e a b c d s : Int) (s0 : 0 ≤ s) (s1 : s < 18446744073709551616) (lim : Nat) (σ : AS) : (envT t16).ov 22 [sup e a b c d s] lim σ = some (encV e a b c d s, σ) := by
  refine envK rfl rfl (show _ = [sup e a b c d s] from rfl) rfl ?_
  unfold t16 t13
  rw [pfT_ne rfl, pfT_ne rfl, pfT_ne rfl, pfT_eq]
  show (bif decide (0 ≤ s) && decide (s < 18446744073709551616) then some (encV e a b c d s) else none) = _
  rw [decide_eq_true s0, decide_eq_true s1]
  rfl
theorem info5 : ∃ i, Tryz.prog.info? 5 = some i ∧ i.size = 1 := by
  have h : (Tryz.prog.info? 5).map (·.size) = some 1 := by kernel_rfl
  cases hi : Tryz.prog.info? 5 with
  | none => rw [hi] at h; cases h
  | some i => rw [hi] at h; exact ⟨i, rfl, Option.some.inj h⟩
theorem und121 : Tryz.prog.underlying 121 = some (.array 128 5) := by kernel_rfl
theorem und5 : Tryz.prog.underlying 5 = some (.int .u8) := by kernel_rfl
theorem load121 (l : List UInt8) (h : 128 ≤ l.length) : loadL Tryz.prog 121 (bys l) 0 = some (.agg ⟨bys (l.take 128)⟩) := by
  have e : loadL Tryz.prog 121 (bys l) 0 = (bif Nat.ble (0 + 128) (bys l).length then some (Value.agg ⟨((bys l).drop 0).take 128⟩) else none) := by kernel_rfl
  rw [e]
  rw [show (bys l).length = l.length by unfold bys; simp, Nat.ble_eq_true_of_le (by omega), List.drop_zero, bys_take]
  rfl
theorem fld_lt (l : List UInt8) (a w : Nat) : fld l a w < 256 ^ w := by
  unfold fld
  have h := valB_lt (((dat l).drop a).take w)
  have hle : (((dat l).drop a).take w).length ≤ w := by simp; omega
  exact Nat.lt_of_lt_of_le h (Nat.pow_le_pow_right (by omega) hle)
theorem wI_nat {n : Nat} (h : n < 9223372036854775808) : wI (n : Int) = n := wrap_fits .i64 (by show (-9223372036854775808 : Int) ≤ n; omega) (by show (n : Int) ≤ 9223372036854775807; omega)

set_option maxHeartbeats 1000000 in
theorem p25 (l : List UInt8) (g : Nat) (hg : g ≤ 1) (hl : l.length < 1000000) : Pure Tryz.prog 9 tabs 25 [L (bys l) l.length 1 g] (decO l) := by
  unfold decO
  cases h1 : Nat.blt l.length 128 with
  | true => exact dec_short (bys l) l.length g (decide_eq_true (by have := blt_iff.1 h1; omega))
  | false =>
    have h1' : 128 ≤ l.length := by
      apply Nat.le_of_not_lt; intro h; rw [blt_iff.2 h] at h1; cases h1
    have d1 : decide ((l.length : Int) < 128) = false := decide_eq_false (by omega)
    have u1 : ∀ σ, (envT t16).ov 61 [L (bys l) l.length 1 g, .int .i64 0, .int .i64 8] 0 σ = some (.tuple #[.int .u64 (decE l : Nat), .int .i64 0], σ) := fun σ => ov16_61 l _ 0 8 g rfl hg (by omega) hl (by omega) 0 σ
    rw [cond_false]
    cases h2 : Nat.beq (decE l) 0 with
    | true =>
      have := Nat.eq_of_beq_eq_true h2
      exact dec_ep1 (decE l : Nat) (bys l) l.length g d1 u1 (decide_eq_true (by omega))
    | false =>
      have h2' : decE l ≠ 0 := fun h => by rw [h] at h2; cases h2
      have d2 : decide ((decE l : Int) < 1) = false := decide_eq_false (by omega)
      rw [Bool.false_or]
      cases h3 : Nat.blt 1099511627776 (decE l) with
      | true => exact dec_ep2 (decE l : Nat) (bys l) l.length g d1 u1 d2 (decide_eq_true (by have := blt_iff.1 h3; omega))
      | false =>
        have h3' : decE l ≤ 1099511627776 := by
          apply Nat.le_of_not_lt; intro h; rw [blt_iff.2 h] at h3; cases h3
        have d3 : decide ((decE l : Int) > 1099511627776) = false := decide_eq_false (by omega)
        have hw : wI (decE l : Int) = decE l := wI_nat (by omega)
        have s1 := fun σ => ov16_62 l _ (decE l) g rfl hg (by omega) h3' h1' hl 0 σ
        rw [cond_false]
        cases h4 : stamped (decE l) l with
        | false =>
          rw [h4] at s1
          rw [← hw] at s1
          exact dec_uns (decE l : Nat) (bys l) l.length g d1 u1 d2 d3 s1
        | true =>
          rw [h4, cond_true] at s1
          rw [Bool.not_true, cond_false]
          have hd : (dat l).length = 112 := by unfold dat; simp; omega
          have hc : cut29 (bys (dat l)) = bys ((dat l).take 29) := by unfold cut29; rw [bys_drop, bys_take]; rfl
          have h29 : ((dat l).take 29).length = 29 := by simp; omega
          have h25 : ((dat l).take 29).take 25 = (dat l).take 25 := by rw [List.take_take]; rfl
          have s2 := fun σ => ov16_63 ((dat l).take 29) 0 h29 (by omega) 0 σ
          rw [h25, ← hc] at s2
          cases h5 : (sealL ((dat l).take 25) == (dat l).take 29) with
          | false =>
            rw [h5] at s2
            exact dec_sum (decE l : Nat) (bys l) (bys (dat l)) l.length g d1 u1 d2 d3 (by rw [← hw] at s1; exact s1) s2
          | true =>
            rw [h5, cond_true] at s2
            rw [Bool.not_true, cond_false]
            have u2 : ∀ σ, (envT t16).ov 61 [L (bys (dat l)) 112 1 0, .int .i64 4, .int .i64 4] 0 σ = some (oU (fld l 4 4 : Nat), σ) := fun σ => ov16_61 (dat l) 112 4 4 0 hd (by omega) (by omega) (by omega) (by omega) 0 σ
            have u3 : ∀ σ, (envT t16).ov 61 [L (bys (dat l)) 112 1 0, .int .i64 8, .int .i64 4] 0 σ = some (oU (fld l 8 4 : Nat), σ) := fun σ => ov16_61 (dat l) 112 8 4 0 hd (by omega) (by omega) (by omega) (by omega) 0 σ
            have u4 : ∀ σ, (envT t16).ov 61 [L (bys (dat l)) 112 1 0, .int .i64 12, .int .i64 4] 0 σ = some (oU (fld l 12 4 : Nat), σ) := fun σ => ov16_61 (dat l) 112 12 4 0 hd (by omega) (by omega) (by omega) (by omega) 0 σ
            have u5 : ∀ σ, (envT t16).ov 61 [L (bys (dat l)) 112 1 0, .int .i64 16, .int .i64 1] 0 σ = some (oU (fld l 16 1 : Nat), σ) := fun σ => ov16_61 (dat l) 112 16 1 0 hd (by omega) (by omega) (by omega) (by omega) 0 σ
            have u6 : ∀ σ, (envT t16).ov 61 [L (bys (dat l)) 112 1 0, .int .i64 17, .int .i64 8] 0 σ = some (oU (fld l 17 8 : Nat), σ) := fun σ => ov16_61 (dat l) 112 17 8 0 hd (by omega) (by omega) (by omega) (by omega) 0 σ
            have l2 := fld_lt l 4 4
            have l3 := fld_lt l 8 4
            have l4 := fld_lt l 12 4
            have l5 := fld_lt l 16 1
            have l6 := fld_lt l 17 8
            have w2 : wI (fld l 4 4 : Nat) = fld l 4 4 := wI_nat (by omega)
            have w3 : wI (fld l 8 4 : Nat) = fld l 8 4 := wI_nat (by omega)
            have w4 : wI (fld l 12 4 : Nat) = fld l 12 4 := wI_nat (by omega)
            have w5 : wI (fld l 16 1 : Nat) = fld l 16 1 := wI_nat (by omega)
            have e1 : ∀ σ, (envT t16).ov 22 [sup (wI (decE l)) (wI (fld l 4 4 : Nat)) (wI (fld l 8 4 : Nat)) (wI (fld l 12 4 : Nat)) (wI (fld l 16 1 : Nat)) (fld l 17 8 : Nat)] 0 σ = some (encV (decE l) (fld l 4 4 : Nat) (fld l 8 4 : Nat) (fld l 12 4 : Nat) (fld l 16 1 : Nat) (fld l 17 8 : Nat), σ) := fun σ => by
              rw [hw, w2, w3, w4, w5]
              exact ov16_22 _ _ _ _ _ _ (by omega) (by omega) 0 σ
            unfold encV at e1
            rw [← hw] at s1
            cases h6 : vld (decE l) (fld l 4 4) (fld l 8 4) (fld l 12 4) (fld l 16 1) (fld l 17 8) with
            | false =>
              rw [h6] at e1
              exact dec_inv (decE l : Nat) (fld l 4 4 : Nat) (fld l 8 4 : Nat) (fld l 12 4 : Nat) (fld l 16 1 : Nat) (fld l 17 8 : Nat) (bys l) (bys (dat l)) _ l.length g d1 u1 d2 d3 s1 s2 u2 u3 u4 u5 u6 e1
            | true =>
              rw [h6, cond_true] at e1
              simp only [Int.toNat_natCast] at e1
              have hE := encL_len (decE l) (fld l 4 4) (fld l 8 4) (fld l 12 4) (fld l 16 1) (fld l 17 8)
              have q := neqArr (P := Tryz.prog) und121 und5 info5.choose_spec.1 info5.choose_spec.2 0 (encL (decE l) (fld l 4 4) (fld l 8 4) (fld l 12 4) (fld l 16 1) (fld l 17 8)) (l.take 128) hE (by simp; omega)
                (SD (bys (dat l)) (decE l : Nat) (fld l 4 4 : Nat) (fld l 8 4 : Nat) (fld l 12 4 : Nat) (fld l 16 1 : Nat) (fld l 17 8 : Nat))
              have l1 := load121 (encL (decE l) (fld l 4 4) (fld l 8 4) (fld l 12 4) (fld l 16 1) (fld l 17 8)) (by rw [hE]; omega)
              rw [List.take_of_length_le (by rw [hE]; omega)] at l1
              have := dec_ok (decE l : Nat) (fld l 4 4 : Nat) (fld l 8 4 : Nat) (fld l 12 4 : Nat) (fld l 16 1 : Nat) (fld l 17 8 : Nat) (bys l) (bys (dat l)) _ _ _ _ l.length g _ d1 u1 d2 d3 s1 s2 u2 u3 u4 u5 u6 e1 l1 (load121 l h1') q
              rw [hw, w2, w3, w4, w5] at this
              rw [Bool.true_and]
              cases h7 : (encL (decE l) (fld l 4 4) (fld l 8 4) (fld l 12 4) (fld l 16 1) (fld l 17 8) == l.take 128) with
              | true => rw [h7] at this; exact this
              | false => rw [h7] at this; exact this
theorem p25_nil : Pure Tryz.prog 9 tabs 25 [.slice none 0 0] (decO []) :=
  pureT t16_ok (n := 1500) (v := .tuple #[sup0, .int .i64 13]) [] [] (by kernel_rfl) trivial rfl (plain_PF 100 _ rfl)
def k25 : List Value → Option Value
  | [v] => (match asB v with
    | some l => bif Nat.blt l.length 1000000 then some (decO l) else none
    | none => none)
  | _ => none
theorem k25_ok : KOk Tryz.prog 9 tabs 25 k25 := by
  intro args u h
  unfold k25 at h
  split at h
  · rename_i v
    split at h
    · rename_i l hB
      cases hb : Nat.blt l.length 1000000 with
      | false => rw [hb] at h; cases h
      | true =>
        rw [hb, cond_true] at h
        cases h
        rcases asB_spec hB with ⟨rfl, rfl⟩ | ⟨g, hg, rfl, _⟩
        · exact p25_nil
        · exact p25 l g hg (blt_iff.1 hb)
    · cases h
  · cases h

end Go.Proofs.YtcjjlajpbakaoaaGreatDoor
